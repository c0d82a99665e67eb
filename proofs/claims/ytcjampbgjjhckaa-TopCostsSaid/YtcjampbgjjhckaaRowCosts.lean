/- THE STATEMENT TopCosts: whatever the input, the law returns true and leaves its input as it was. No further condition. -/
import Derived.Test.YtcjampbgjjhckaaL0
import Derived.Test.YtcjampbgjjhckaaPC5
import Derived.Test.YtcjampbgjjhckaaRows
namespace Go.Proofs.Ytcjampbgjjhckaa
open Go Go.ChangeShapes Go.WideShapes Go.ChangeAt Go.RowKit Go.Cal
set_option maxRecDepth 100000
set_option linter.unusedVariables false
theorem liftedTopCosts (os : Os) (started : os.Started) (H : Type) (enc : TypeId × Value → H) :
    ReturnsInHanded {} Try.checked os 3 .any (Rows.topCostsSpec.pre6 enc Try.prog Try.f3 Rows.topCostsRow.domain false) (Rows.topCostsSpec.post enc Try.prog Try.f3 false true false false) := by
  refine law_lift (C := Try.checked) (tb := 4) (by kernel_rfl) started (by kernel_rfl) Try.func3
    (ChangeSpec.witness6 (enc := enc) (C := Try.checked) false ⟨#[], #[.int .u32 0, .agg #[.int .u64 0, .int .u64 0, .int .u64 0, .int .u64 0], .agg #[.int .u64 0, .int .u64 0, .int .u64 0, .int .u64 0], .int .u8 0, .int .u32 0, .int .u8 0, .agg #[.int .u64 0, .int .u64 0, .int .u64 0, .int .u64 0], .agg #[.int .u64 0, .int .u64 0, .int .u64 0, .int .u64 0], .agg #[.int .u64 0, .int .u64 0, .int .u64 0, .int .u64 0], .slice none 0 0], []⟩ 8 (by kernel_rfl) (by kernel_rfl) (by kernel_rfl) (by kernel_rfl))
    (by kernel_rfl) (by kernel_rfl) rfl (by kernel_rfl) rfl ?_ ?_
  · intro ds hl
    match ds, hl with
    | [d0, d1, d2, d3, d4, d5, d6, d7, d8, d9], _ => rfl
  intro W base args ds p hval0 hA0 hwt
  have hval : ∀ (j : Nat) t v, Try.f3.params[j]? = some t → args[j]? = some v → Value.okWide Try.prog W .any base t v := hval0
  have hA : DataW.TrodAll enc Try.prog W 0 (fun _ => true) true Try.f3.params.toList args.toList ds p := hA0
  clear hval0 hA0
  rw [Try.params3] at hA hval
  obtain ⟨v0, vs0, d0, ds0, p0, q0, hargs, rfl, rfl, h0, r0⟩ := trodAll_cons hA
  obtain ⟨v1, vs1, d1, ds1, p1, q1, rfl, rfl, rfl, h1, r1⟩ := trodAll_cons r0
  obtain ⟨v2, vs2, d2, ds2, p2, q2, rfl, rfl, rfl, h2, r2⟩ := trodAll_cons r1
  obtain ⟨v3, vs3, d3, ds3, p3, q3, rfl, rfl, rfl, h3, r3⟩ := trodAll_cons r2
  obtain ⟨v4, vs4, d4, ds4, p4, q4, rfl, rfl, rfl, h4, r4⟩ := trodAll_cons r3
  obtain ⟨v5, vs5, d5, ds5, p5, q5, rfl, rfl, rfl, h5, r5⟩ := trodAll_cons r4
  obtain ⟨v6, vs6, d6, ds6, p6, q6, rfl, rfl, rfl, h6, r6⟩ := trodAll_cons r5
  obtain ⟨v7, vs7, d7, ds7, p7, q7, rfl, rfl, rfl, h7, r7⟩ := trodAll_cons r6
  obtain ⟨v8, vs8, d8, ds8, p8, q8, rfl, rfl, rfl, h8, r8⟩ := trodAll_cons r7
  obtain ⟨v9, vs9, d9, ds9, p9, q9, rfl, rfl, rfl, h9, r9⟩ := trodAll_cons r8
  obtain ⟨rfl, rfl, rfl⟩ := trodAll_nil r9
  obtain rfl : args = #[v0, v1, v2, v3, v4, v5, v6, v7, v8, v9] := by cases args; simp_all
  obtain ⟨a0, rfl, rfl, rfl, w0⟩ := open_int (k := .u32) (by kernel_rfl) (hval 0 22 v0 rfl rfl) h0
  obtain ⟨a1, rfl, w1a, w1b, w1c, w1d⟩ := open_arr4 (e := 23) (k := .u64) (by kernel_rfl) (by kernel_rfl) (by kernel_rfl) (by kernel_rfl) (hval 1 25 v1 rfl rfl) h1
  obtain ⟨a2, rfl, w2a, w2b, w2c, w2d⟩ := open_arr4 (e := 23) (k := .u64) (by kernel_rfl) (by kernel_rfl) (by kernel_rfl) (by kernel_rfl) (hval 2 25 v2 rfl rfl) h2
  obtain ⟨a3, rfl, rfl, rfl, w3⟩ := open_int (k := .u8) (by kernel_rfl) (hval 3 5 v3 rfl rfl) h3
  obtain ⟨a4, rfl, rfl, rfl, w4⟩ := open_int (k := .u32) (by kernel_rfl) (hval 4 22 v4 rfl rfl) h4
  obtain ⟨a5, rfl, rfl, rfl, w5⟩ := open_int (k := .u8) (by kernel_rfl) (hval 5 5 v5 rfl rfl) h5
  obtain ⟨a6, rfl, w6a, w6b, w6c, w6d⟩ := open_arr4 (e := 23) (k := .u64) (by kernel_rfl) (by kernel_rfl) (by kernel_rfl) (by kernel_rfl) (hval 6 25 v6 rfl rfl) h6
  obtain ⟨a7, rfl, w7a, w7b, w7c, w7d⟩ := open_arr4 (e := 23) (k := .u64) (by kernel_rfl) (by kernel_rfl) (by kernel_rfl) (by kernel_rfl) (hval 7 25 v7 rfl rfl) h7
  obtain ⟨a8, rfl, w8a, w8b, w8c, w8d⟩ := open_arr4 (e := 23) (k := .u64) (by kernel_rfl) (by kernel_rfl) (by kernel_rfl) (by kernel_rfl) (hval 8 25 v8 rfl rfl) h8
  obtain ⟨A9, a9, c9, rfl, f9, w9, l9⟩ := open_rd (e := 5) (k := .u8) (by kernel_rfl) (by kernel_rfl) (by kernel_rfl) (hval 9 26 v9 rfl rfl) h9
  obtain ⟨k, hk⟩ := Pure.topCosts a0 a1 a2 a3 a4 a5 a6 a7 a8 a9 w0 w1a w1b w1c w1d w2a w2b w2c w2d w3 w4 w5 w6a w6b w6c w6d w7a w7b w7c w7d w8a w8b w8c w8d w9 l9
  exact (ct3 k a0 a1 a2 a3 a4 a5 a6 a7 a8 a9 A9 c9 (fun _ => True) W f9 hk).mono fun e w' h => below_of_post (fun _ => rfl) h
theorem topCosts_holds : Rows.TopCostsSaid :=
  OpenClaim.holds_of_wide 3 Try.f3 rfl rfl rfl rfl rfl rfl rfl ⟨rfl, rfl, rfl, rfl, rfl⟩ rfl rfl rfl rfl rfl (by kernel_rfl) Try.func3 (by kernel_rfl)
    (of_decide_eq_true (by kernel_rfl)) (by unfold Func.isWrapper; first | (rw [if_pos (by decide +kernel)]; kernel_rfl) | (rw [if_neg (by decide +kernel)]; exact ⟨rfl, rfl⟩))
    (fun os started H enc _ => liftedTopCosts os started H enc)
end Go.Proofs.Ytcjampbgjjhckaa
#print axioms Go.Proofs.Ytcjampbgjjhckaa.topCosts_holds
