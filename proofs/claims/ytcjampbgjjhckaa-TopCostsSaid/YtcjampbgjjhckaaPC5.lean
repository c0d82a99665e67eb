/- The law TopCosts comes out true at arguments in range. Conditions: the numbers are in their kinds' ranges. -/
import Derived.Test.YtcjampbgjjhckaaPC4
namespace Go.Cal
open Go
set_option maxRecDepth 100000
theorem wdn_text {n : Int} (h0 : 0 ≤ n) (h1 : n ≤ 16777216) : wu64 (wi64 ((wi64 (n + 31)).tdiv 32)) = wd n := by
  have h := wd_r h0 h1
  rw [wi64_of (x := n + 31) (by omega) (by omega), tdiv_of (by omega)]
  show wu64 (wi64 (wd n)) = wd n
  rw [wi64_of (by omega) (by omega)]
  exact wu64_of h.1 (by omega)
theorem r0_true (k : Nat) (a0 : Int) (a2 : C4) (a3 a4 a5 : Int) (a6 a7 a8 : C4) (a9 : List Int) (h2 : ok4 a2) (h3 : 0 ≤ a3 ∧ a3 < 256)
    (hr1 : F3_r1 k a0 a2 a3 a4 a5 a6 a7 a8 a9 = some true) :
    F3_r0 k a0 a2 a3 a4 a5 a6 a7 a8 a9 (cap a2) (cap a2) = some true := by
  unfold F3_r0
  have hc := cap_r h2
  have e6 : a3.tmod 6 = a3 % 6 := tmod_of h3.1
  have e7 : wi64 (a3.tmod 6) = a3 % 6 := by rw [e6]; exact wi64_of (by omega) (by omega)
  have e8 : wu64 (a3.tmod 6) = a3 % 6 := by rw [e6]; exact wu64_of (by omega) (by omega)
  have ht : 0 ≤ a3 % 6 ∧ a3 % 6 ≤ 5 := by omega
  rw [e7, e8, e6, wdn_text hc.1 (by omega)]
  generalize a3 % 6 = t at *
  by_cases hf : fits a2
  · have hcf := cap_fits hf
    have h1 := hf.2
    have h0 := h2.1.1
    have hw := wd_r h0 (show a2.c0 ≤ 16777216 by omega)
    rw [hcf, F12_t h2 hf, F13_t h2 hf, decide_eq_true h1]
    have w3 : wu64 (3 * wd a2.c0) = 3 * wd a2.c0 := wu64_of (by omega) (by omega)
    have w6 : wu64 (6 * wd a2.c0) = 6 * wd a2.c0 := wu64_of (by omega) (by omega)
    rw [w3, w6]
    by_cases hb : t > 4
    · rw [F14_big hb, decide_eq_true hb]
      simp only [obs, cdt, cdf, bne_self, hr1]
    · rw [F14_t h2 ht.1 hb hf, decide_eq_false hb]
      have w9 : wu64 (wu64 (375 * t) + wu64 (8 * wu64 a2.c0)) = 375 * t + 8 * a2.c0 := by
        rw [wu64_of (x := a2.c0) (by omega) (by omega), wu64_of (x := 375 * t) (by omega) (by omega), wu64_of (x := 8 * a2.c0) (by omega) (by omega), wu64_of (by omega) (by omega)]
      rw [w9]
      simp only [obs, cdt, cdf, bne_self, hr1, Bool.not_true]
  · have hcf := cap_not hf
    rw [hcf, F12_f h2 hf, F13_f h2 hf, decide_eq_false (show ¬ ((8388609 : Int) ≤ 8388608) by decide)]
    by_cases hb : t > 4
    · rw [F14_big hb, decide_eq_true hb]
      simp only [obs, cdt, cdf, bne_self, hr1]
    · rw [F14_f h2 ht.1 hb hf, decide_eq_false hb]
      simp only [obs, cdt, cdf, bne_self, hr1, Bool.not_false]
theorem want_text {n : Int} (h0 : 0 ≤ n) (h1 : n ≤ 16777216) : wu64 (wi64 ((wi64 ((wi64 (n + 31)).tdiv 32)) * 32)) = 32 * wd n := by
  have h := wd_r h0 h1
  rw [wi64_of (x := n + 31) (by omega) (by omega), tdiv_of (by omega)]
  show wu64 (wi64 (wi64 (wd n) * 32)) = 32 * wd n
  rw [wi64_of (x := wd n) (by omega) (by omega), wi64_of (by omega) (by omega), wu64_of (by omega) (by omega)]
  omega
theorem c3_true (k : Nat) (a0 : Int) (a1 a2 : C4) (a3 a4 a5 : Int) (a6 a7 a8 : C4) (a9 : List Int) (h0 : 0 ≤ a0) (h1 : ok4 a1) (h2 : ok4 a2)
    (hr0 : F3_r0 k a0 a2 a3 a4 a5 a6 a7 a8 a9 (cap a2) (cap a2) = some true) :
    F3 k a0 a1 a2 a3 a4 a5 a6 a7 a8 a9 = some true := by
  unfold F3
  have hm : 0 ≤ wu64 (a0.tmod 8388708) ∧ wu64 (a0.tmod 8388708) ≤ 8388707 := by
    rw [tmod_of h0, wu64_of (by omega) (by omega)]; omega
  generalize wu64 (a0.tmod 8388708) = m at *
  have hc1 := cap_r h1
  have hc2 := cap_r h2
  have e9 : ∀ f : Int → Option Bool, ((bif decide (m > 8388608) then some 33554433 else some (mem m) : Option Int)).bind f = f (bif decide (m > 8388608) then 33554433 else mem m) := by intro f; cases decide (m > 8388608) <;> rfl
  have e10 : F9 m = some (bif decide (m > 8388608) then 33554433 else mem m) := by
    by_cases h : m > 8388608
    · rw [F9_over h, decide_eq_true h]; rfl
    · rw [F9_eq hm.1 (by omega), decide_eq_false h]; rfl
  simp only [F7_eq hm.1 (show m ≤ 16777216 by omega), obs, e9, e10, F8_eq hm.1 (show m < 9223372036854775808 by omega), wd_text hm.1 (show m ≤ 16777216 by omega), bne_self, cdf, F10_eq h1, F10_eq h2, F11_eq hm.1 hm.2 h1 h2, hr0]
  unfold grow
  by_cases hz0 : cap a2 = 0
  · rw [if_pos hz0]
    simp only [hz0, beq_self_eq_true, cdt, bne_self, cdf, obs]
  · rw [if_neg hz0]
    have ez : (cap a2 == 0) = false := by simp [hz0]
    rw [ez, cdf, wi64_of (x := cap a1 + cap a2) (by omega) (by omega)]
    by_cases hb : m > 8388608 ∨ cap a1 + cap a2 > 8388608
    · rw [if_pos hb]
      have eb : (bif decide (m > 8388608) then some true else some (decide (cap a1 + cap a2 > 8388608)) : Option Bool) = some true := by
        by_cases h : m > 8388608
        · rw [decide_eq_true h]; rfl
        · rw [decide_eq_false h, decide_eq_true (show cap a1 + cap a2 > 8388608 by omega)]; rfl
      simp only [eb, obs, cdt, bne_self, cdf]
    · rw [if_neg hb]
      have eb : (bif decide (m > 8388608) then some true else some (decide (cap a1 + cap a2 > 8388608)) : Option Bool) = some false := by
        rw [decide_eq_false (show ¬ m > 8388608 by omega), decide_eq_false (show ¬ cap a1 + cap a2 > 8388608 by omega)]; rfl
      have hto : 0 ≤ cap a1 + cap a2 ∧ cap a1 + cap a2 ≤ 8388608 := by omega
      rw [eb, want_text hto.1 (by omega)]
      have hw : 0 ≤ wd (cap a1 + cap a2) ∧ wd (cap a1 + cap a2) ≤ 262144 := by unfold wd; omega
      by_cases hg : 32 * wd (cap a1 + cap a2) > m
      · rw [if_pos hg, if_neg (show ¬ m > 32 * wd (cap a1 + cap a2) by omega), decide_eq_true hg, F7_eq (by omega) (by omega)]
        simp only [obs, cdf, cdt, bne_self]
      · rw [if_neg hg, decide_eq_false hg]
        by_cases hq : m > 32 * wd (cap a1 + cap a2)
        · rw [if_pos hq]
          simp only [obs, cdf, bne_self]
        · rw [if_neg hq]
          have : m = 32 * wd (cap a1 + cap a2) := by omega
          simp only [obs, cdf, bne_self, ← this]
theorem ok4_of {a : C4} (w0 : (Lit.int .u64 a.c0).wf = true) (w1 : (Lit.int .u64 a.c1).wf = true) (w2 : (Lit.int .u64 a.c2).wf = true) (w3 : (Lit.int .u64 a.c3).wf = true) : ok4 a := ⟨wf64 w0, wf64 w1, wf64 w2, wf64 w3⟩
end Go.Cal
set_option linter.unusedVariables false
namespace Go.Proofs.Ytcjampbgjjhckaa.Pure
open Go Go.Cal
theorem topCosts (a0 : Int) (a1 : C4) (a2 : C4) (a3 : Int) (a4 : Int) (a5 : Int) (a6 : C4) (a7 : C4) (a8 : C4) (a9 : List Int) (w0 : (Lit.int .u32 a0).wf = true) (w1a : (Lit.int .u64 a1.c0).wf = true) (w1b : (Lit.int .u64 a1.c1).wf = true) (w1c : (Lit.int .u64 a1.c2).wf = true) (w1d : (Lit.int .u64 a1.c3).wf = true) (w2a : (Lit.int .u64 a2.c0).wf = true) (w2b : (Lit.int .u64 a2.c1).wf = true) (w2c : (Lit.int .u64 a2.c2).wf = true) (w2d : (Lit.int .u64 a2.c3).wf = true) (w3 : (Lit.int .u8 a3).wf = true) (w4 : (Lit.int .u32 a4).wf = true) (w5 : (Lit.int .u8 a5).wf = true) (w6a : (Lit.int .u64 a6.c0).wf = true) (w6b : (Lit.int .u64 a6.c1).wf = true) (w6c : (Lit.int .u64 a6.c2).wf = true) (w6d : (Lit.int .u64 a6.c3).wf = true) (w7a : (Lit.int .u64 a7.c0).wf = true) (w7b : (Lit.int .u64 a7.c1).wf = true) (w7c : (Lit.int .u64 a7.c2).wf = true) (w7d : (Lit.int .u64 a7.c3).wf = true) (w8a : (Lit.int .u64 a8.c0).wf = true) (w8b : (Lit.int .u64 a8.c1).wf = true) (w8c : (Lit.int .u64 a8.c2).wf = true) (w8d : (Lit.int .u64 a8.c3).wf = true) (w9 : ∀ x ∈ a9, (Lit.int .u8 x).wf = true) (l9 : a9.length ≤ maxLen) : ∃ k, F3 k a0 a1 a2 a3 a4 a5 a6 a7 a8 a9 = some true := by
  have h2 := ok4_of w2a w2b w2c w2d
  have h0 := wf32 w0
  have h4 := wf32 w4
  have hl : a9.length ≤ 9223372036854775807 := Nat.le_trans l9 (by decide)
  exact ⟨a9.length + 40, c3_true _ a0 a1 a2 a3 a4 a5 a6 a7 a8 a9 h0.1 (ok4_of w1a w1b w1c w1d) h2
    (r0_true _ a0 a2 a3 a4 a5 a6 a7 a8 a9 h2 (wf8 w3)
      (r1_true a9.length a0 a2 a3 a4 a5 a6 a7 a8 a9 h0.1 h2 h4.1 (fun x hx => (wf8 (w9 x hx)).1) hl (by omega)))⟩
end Go.Proofs.Ytcjampbgjjhckaa.Pure
