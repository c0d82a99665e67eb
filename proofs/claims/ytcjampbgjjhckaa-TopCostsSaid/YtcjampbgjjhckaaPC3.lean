/- What Grow, Store, stored and Data answer. Conditions: the numbers are in their kinds' ranges. -/
import Derived.Test.YtcjampbgjjhckaaPC2
namespace Go.Cal
open Go
set_option maxRecDepth 100000
theorem list4_zero (a : C4) : ([a.c0, a.c1, a.c2, a.c3] == [0, 0, 0, 0]) = decide (hz a ∧ a.c0 = 0) := by
  rw [Bool.eq_iff_iff, beq_iff_eq, decide_eq_true_iff]
  simp only [List.cons.injEq, and_true, hz]
  constructor
  · rintro ⟨h0, h1, h2, h3⟩; exact ⟨⟨h1, h2, h3⟩, h0⟩
  · rintro ⟨⟨h1, h2, h3⟩, h0⟩; exact ⟨h0, h1, h2, h3⟩
/-- what 'Grow' gives -/
def grow (m : Int) (at_ long : C4) : Int × Int × Int :=
  if cap long = 0 then (m, 0, 0)
  else if m > 8388608 ∨ cap at_ + cap long > 8388608 then (0, 0, 140)
  else if 32 * wd (cap at_ + cap long) > m then (32 * wd (cap at_ + cap long), wu64 (mem (32 * wd (cap at_ + cap long)) - mem m), 0)
  else (m, 0, 0)
theorem cap_zero {a : C4} : cap a = 0 ↔ hz a ∧ a.c0 = 0 := by
  unfold cap
  by_cases h : fits a
  · rw [if_pos h]; exact ⟨fun h0 => ⟨h.1, h0⟩, fun h0 => h0.2⟩
  · rw [if_neg h]
    constructor
    · intro h0; omega
    · intro h0; exact absurd ⟨h0.1, by omega⟩ h
theorem cap_fits {a : C4} (h : fits a) : cap a = a.c0 := by unfold cap; rw [if_pos h]
theorem cap_not {a : C4} (h : ¬ fits a) : cap a = 8388609 := by unfold cap; rw [if_neg h]
theorem F11_eq {m : Int} {a b : C4} (h0 : 0 ≤ m) (h1 : m ≤ 8388707) (ha : ok4 a) (hb : ok4 b) (k : Nat) : F11 k m a b = some (grow m a b) := by
  unfold F11 grow
  rw [list4_zero]
  have hca := cap_r ha
  have hcb := cap_r hb
  by_cases hz0 : cap b = 0
  · rw [if_pos hz0, decide_eq_true (cap_zero.1 hz0), cond_true]
  · rw [if_neg hz0, decide_eq_false (fun h => hz0 (cap_zero.2 h)), cond_false]
    obtain ⟨z, cy, e, hz4, hiff, hsum⟩ := F58_eq ha hb k
    rw [e]
    simp only [Option.bind_some]
    have key : (cy = false ∧ hz z ∧ z.c0 ≤ 8388608) ↔ cap a + cap b ≤ 8388608 := by
      rw [hiff]
      constructor
      · rintro ⟨f1, f2, f3⟩; rw [cap_fits f1, cap_fits f2]; exact f3
      · intro h
        have f1 := hca.2.2.1 (by omega)
        have f2 := hcb.2.2.1 (by omega)
        rw [cap_fits f1, cap_fits f2] at h
        exact ⟨f1, f2, h⟩
    by_cases hbig : m > 8388608 ∨ cap a + cap b > 8388608
    · rw [if_pos hbig]
      cases cy with
      | true =>
        cases hF : F59 z with
        | none => by_cases hh : hz z <;> simp [F59_t, F59_f, hz4, hh] at hF
        | some x => rfl
      | false =>
        by_cases hh : hz z
        · rw [F59_t hz4 hh]
          simp only [Option.bind_some, cond_false, Bool.not_true]
          by_cases hc : z.c0 > 8388608
          · rw [decide_eq_true hc]; rfl
          · rw [decide_eq_false hc]
            have : m > 8388608 := by
              rcases hbig with h | h
              · exact h
              · have := key.1 ⟨rfl, hh, by omega⟩; omega
            rw [decide_eq_true this]
            rfl
        · rw [F59_f hz4 hh]; rfl
    · rw [if_neg hbig]
      have hk := key.2 (by omega)
      obtain ⟨rfl, hh, hc⟩ := hk
      have hs := hsum ⟨rfl, hh, hc⟩
      have hfit := hiff.1 ⟨rfl, hh, hc⟩
      rw [F59_t hz4 hh]
      simp only [Option.bind_some, cond_false, Bool.not_true]
      rw [decide_eq_false (show ¬ z.c0 > 8388608 by omega), decide_eq_false (show ¬ m > 8388608 by omega)]
      simp only [Option.bind_some, cond_false]
      rw [F8_eq hz4.1.1 (by omega), Option.bind_some, cap_fits hfit.1, cap_fits hfit.2.1, ← hs]
      have hw := wd_r hz4.1.1 (show z.c0 ≤ 16777216 by omega)
      have hw2 : wd z.c0 ≤ 262144 := by unfold wd; omega
      rw [wu64_of (x := 32 * wd z.c0) (by omega) (by omega)]
      by_cases hg : 32 * wd z.c0 > m
      · rw [if_pos hg, if_pos hg]
        have e1 : (32 * wd z.c0 == m) = false := by simp; omega
        rw [e1, cond_false, F9_eq (by omega) (by omega), Option.bind_some, F9_eq h0 (by omega), Option.bind_some]
      · rw [if_neg hg, if_neg hg]
        simp
theorem F15_16 (a b c : C4) (d : Bool) : F15 a b c d = F16 a b c d := by
  unfold F15 F16
  generalize ([c.c0, c.c1, c.c2, c.c3] == [b.c0, b.c1, b.c2, b.c3]) = e1
  generalize ([b.c0, b.c1, b.c2, b.c3] == [a.c0, a.c1, a.c2, a.c3]) = e2
  generalize ([a.c0, a.c1, a.c2, a.c3] == [0, 0, 0, 0]) = e3
  generalize ([c.c0, c.c1, c.c2, c.c3] == [0, 0, 0, 0]) = e4
  generalize ([b.c0, b.c1, b.c2, b.c3] == [0, 0, 0, 0]) = e5
  generalize ([c.c0, c.c1, c.c2, c.c3] == [a.c0, a.c1, a.c2, a.c3]) = e6
  cases d <;> cases e1 <;> cases e2 <;> cases e3 <;> cases e4 <;> cases e5 <;> cases e6 <;> rfl
theorem F16_some (a b c : C4) (d : Bool) : ∃ x, F16 a b c d = some x := by
  unfold F16
  generalize ([c.c0, c.c1, c.c2, c.c3] == [b.c0, b.c1, b.c2, b.c3]) = e1
  generalize ([b.c0, b.c1, b.c2, b.c3] == [a.c0, a.c1, a.c2, a.c3]) = e2
  generalize ([a.c0, a.c1, a.c2, a.c3] == [0, 0, 0, 0]) = e3
  generalize ([c.c0, c.c1, c.c2, c.c3] == [0, 0, 0, 0]) = e4
  generalize ([b.c0, b.c1, b.c2, b.c3] == [0, 0, 0, 0]) = e5
  generalize ([c.c0, c.c1, c.c2, c.c3] == [a.c0, a.c1, a.c2, a.c3]) = e6
  cases d <;> cases e1 <;> cases e2 <;> cases e3 <;> cases e4 <;> cases e5 <;> cases e6 <;> exact ⟨_, rfl⟩
/-! ### the bytes -/
theorem data_eq (l : List Int) (h : ∀ x ∈ l, 0 ≤ x) : ∀ (n : Nat) (v i : Int), F3_l2 l n v i = F25_l0 l n v i
  | 0, _, _ => rfl
  | n + 1, v, i => by
    unfold F3_l2 F25_l0
    cases hi : inb i l.length with
    | false => cases decide (i < (l.length : Int)) <;> rfl
    | true =>
      have hs := inb_spec hi
      obtain ⟨j, rfl⟩ : ∃ j : Nat, i = j := ⟨i.toNat, by omega⟩
      have hj : j < l.length := by omega
      have hx := h l[j] (List.getElem_mem hj)
      rw [gI_of hj]
      simp only [cond_true]
      by_cases hz0 : l[j] = 0
      · have e1 : decide (l[j] > 0) = false := by simp [hz0]
        have e2 : (l[j] == 0) = true := by simp [hz0]
        rw [e1, e2]
        simp only [cond_true, cond_false, Option.bind_some, data_eq l h n]
      · have e1 : decide (l[j] > 0) = true := by simp; omega
        have e2 : (l[j] == 0) = false := by simp [hz0]
        rw [e1, e2]
        simp only [cond_true, cond_false, Option.bind_some, data_eq l h n]
        have e3 : wu64 (wu64 (v + 4) + 12) = wu64 (v + 16) := by simp only [wu64_mod]; omega
        rw [e3]
theorem data_some (l : List Int) (hl : l.length ≤ 9223372036854775807) : ∀ (n : Nat) (v : Int) (i : Nat), i ≤ l.length → l.length - i < n → ∃ r, F25_l0 l n v (i : Int) = some r
  | 0, _, _, _, h => by omega
  | n + 1, v, i, hi, hn => by
    unfold F25_l0
    by_cases hlt : i < l.length
    · have e1 : decide ((i : Int) < (l.length : Int)) = true := by simp; omega
      have e2 : inb (i : Int) l.length = true := by simp [inb]; omega
      rw [e1, e2, wi64_of (by omega) (by omega)]
      simp only [cond_true]
      cases (gI l (i : Int) == 0) with
      | true =>
        simp only [cond_true, Option.bind_some]
        exact data_some l hl n _ (i + 1) (by omega) (by omega)
      | false =>
        simp only [cond_false, Option.bind_some]
        exact data_some l hl n _ (i + 1) (by omega) (by omega)
    · have e1 : decide ((i : Int) < (l.length : Int)) = false := by simp; omega
      rw [e1]
      exact ⟨v, rfl⟩
end Go.Cal
