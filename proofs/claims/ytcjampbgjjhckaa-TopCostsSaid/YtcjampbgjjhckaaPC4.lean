/- The last third of the law TopCosts comes out true. Conditions: the numbers are in their kinds' ranges. -/
import Derived.Test.YtcjampbgjjhckaaPC3
namespace Go.Cal
open Go
set_option maxRecDepth 100000
theorem bne_self {α : Type} [BEq α] [LawfulBEq α] (x : α) : (x != x) = false := by simp
theorem val_small {a : C4} (h : ok4 a) : val a < 281474976710656 ↔ hz a ∧ a.c0 < 281474976710656 := by
  obtain ⟨h0, h1, h2, h3⟩ := h
  unfold val hz
  omega
theorem wd_text {m : Int} (h0 : 0 ≤ m) (h1 : m ≤ 16777216) : wu64 ((wu64 (m + 31)).tdiv 32) = wd m := by
  have h := wd_r h0 h1
  rw [wu64_of (x := m + 31) (by omega) (by omega), tdiv_of (by omega)]
  show wu64 (wd m) = wd m
  exact wu64_of h.1 (by omega)
theorem F23_eq {t : Int} {a : C4} {l : List Int} (ha : ok4 a) (ht : 0 ≤ t) (ht2 : t ≤ 33554432) (hl : l.length < 4 ↔ val a < 281474976710656) :
    ((((bif (decide ((l.length : Int) < 4)) then some (decide (a.c0 < (wu64 (t - (wu64 (t.tdiv 64)))))) else some false) : Option Bool)).bind (fun x326 => (bif x326 then some a.c0 else some (wu64 (t - (wu64 (t.tdiv 64))))))) = F23 t a := by
  unfold F23
  have e1 : wu64 (t - wu64 (t.tdiv 64)) = t - t / 64 := by
    rw [tdiv_of ht, wu64_of (x := t / 64) (by omega) (by omega), wu64_of (by omega) (by omega)]
  rw [e1, val_small ha] at *
  have h0 := ha.1
  by_cases h4 : l.length < 4
  · have hs := hl.1 h4
    have e2 : decide ((l.length : Int) < 4) = true := by simp; omega
    rw [e2, F59_t ha hs.1]
    simp only [cond_true, Option.bind_some]
    by_cases hc : a.c0 < t - t / 64
    · rw [decide_eq_true hc, cond_true, if_neg (by omega)]
    · rw [decide_eq_false hc, cond_false]
      split
      · rfl
      · congr 1; omega
  · have e2 : decide ((l.length : Int) < 4) = false := by simp; omega
    rw [e2]
    simp only [cond_false, Option.bind_some]
    by_cases hh : hz a
    · rw [F59_t ha hh]
      simp only [cond_true, Option.bind_some]
      have : ¬ a.c0 < 281474976710656 := fun h => h4 (hl.2 ⟨hh, h⟩)
      rw [if_pos (by omega)]
    · rw [F59_f ha hh]
      rfl
theorem F24_eq {t g : Int} (_ht : 0 ≤ t) : F24 t g = some (if (wu64 (t.tdiv 5)) < (wu64 (if 0 > g then 0 else g)) then (wu64 (t.tdiv 5)) else (wu64 (if 0 > g then 0 else g))) := by
  unfold F24
  by_cases h : g < 0
  · rw [decide_eq_true h, cond_true, if_pos h, show wu64 0 = 0 from rfl]
    have := (wu64_r (t.tdiv 5)).1
    rw [if_neg (by omega)]
  · rw [decide_eq_false h, cond_false, if_neg (show ¬ (0 > g) by omega)]
theorem r1_true (k : Nat) (a0 : Int) (a2 : C4) (a3 a4 a5 : Int) (a6 a7 a8 : C4) (a9 : List Int) (h0 : 0 ≤ a0) (h2 : ok4 a2) (h4 : 0 ≤ a4) (h9 : ∀ x ∈ a9, 0 ≤ x) (hl : a9.length ≤ 9223372036854775807) (hk : a9.length < k + 40) :
    F3_r1 (k + 40) a0 a2 a3 a4 a5 a6 a7 a8 a9 = some true := by
  unfold F3_r1
  obtain ⟨l, e19, e18, hl4⟩ := wordNat_eq h2 k
  have e17 : F17 (k + 40) a2 = some (wu64 (50 * (wu64 (wi64 ((wi64 (((bl (val a2) : Nat) : Int) + 7)).tdiv 8))))) := by
    unfold F17; rw [bits_eq h2]; rfl
  have hm : 0 ≤ wu64 (a0.tmod 8388708) ∧ wu64 (a0.tmod 8388708) ≤ 8388707 := by
    rw [tmod_of h0, wu64_of (by omega) (by omega)]; omega
  have ht : 0 ≤ wu64 (a4.tmod 33554433) ∧ wu64 (a4.tmod 33554433) ≤ 33554432 := by
    rw [tmod_of h4, wu64_of (by omega) (by omega)]; omega
  generalize wu64 (a0.tmod 8388708) = m at *
  generalize wu64 (a4.tmod 33554433) = t at *
  generalize decide (andK .u8 a5 1 > 0) = warm
  generalize decide (andK .u8 a5 2 > 0) = paid
  generalize decide (andK .u8 a5 4 > 0) = fresh
  obtain ⟨xs, e16⟩ := F16_some a6 a7 a8 warm
  have e15 := (F15_16 a6 a7 a8 warm).trans e16
  have e23 := F23_eq h2 ht.1 ht.2 hl4
  obtain ⟨dr, ed⟩ := data_some a9 hl (k + 40) 0 0 (Nat.zero_le _) (by omega)
  have ed1 : F3_l2 a9 (k + 40) 0 0 = some dr := (data_eq a9 h9 _ _ _).trans ed
  have ed2 : F25 (k + 40) a9 = some dr := by unfold F25; exact congrArg (fun o => Option.bind o fun x => some x) ed
  have e24 := F24_eq (g := wi64 (wi64 (wi64 a3 * 1000) - 20000)) ht.1
  have e26 : F26 m = (bif decide (m > 8388608) then some 33554433 else some (wu64 (2 * wd m))) := by
    unfold F26; rw [F8_eq hm.1 (by omega)]; rfl
  have hF23 : ∃ y, F23 t a2 = some y := by
    unfold F23
    by_cases hh : hz a2
    · rw [F59_t h2 hh]; exact ⟨_, rfl⟩
    · rw [F59_f h2 hh]; exact ⟨_, rfl⟩
  obtain ⟨y, ey⟩ := hF23
  rw [ey] at e23
  rw [wd_text hm.1 (by omega)]
  have first : ∀ (c : Bool) (f : Int × Int → Option Bool), ((bif c then some ((33554433 : Int), (33554433 : Int)) else some (wu64 (2 * wd m), wu64 (200 * m))).bind f) = f (bif c then (33554433, 33554433) else (wu64 (2 * wd m), wu64 (200 * m))) := by intro c f; cases c <;> rfl
  simp only [e15, e16, e17, e18, e19, obs, bne_self, cdf, ed1, ed2, e23, ey, e24, beq_self_eq_true, cdt, first]
  have fin : (F26 m).bind (fun x289 => bif x289 == (bif decide (m > 8388608) then ((33554433 : Int), (33554433 : Int)) else (wu64 (2 * wd m), wu64 (200 * m))).1 then (F27 m).bind (fun x293 => some (x293 == (bif decide (m > 8388608) then ((33554433 : Int), (33554433 : Int)) else (wu64 (2 * wd m), wu64 (200 * m))).2)) else some false) = some true := by
    rw [e26]
    unfold F27
    cases decide (m > 8388608) <;> simp
  cases warm <;> cases paid <;> cases fresh <;> simp only [F20, F21, F22, cdt, cdf, obs, bne_self] <;> exact fin
end Go.Cal
