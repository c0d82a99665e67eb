/- The walk of the function cairn/cairntop.natBits: what it computes, as a Lean function, and that each of its calls answers so. Condition: the function gives an answer (some). Printed by program. -/
import Derived.Test.YtcjampbgjjhckaaKB
namespace Go.Cal
open Go Go.RowKit Go.Proofs
set_option maxRecDepth 100000
set_option linter.unusedVariables false
-- cairn/cairntop.natBits
def F18_l0 : Nat → Int → Int → Option Int
  | 0, _, _ => none
  | n + 1, v24, v25 => (bif (decide (v25 > 0)) then (F18_l0 n (wi64 (v24 + 1)) (wu32 (v25.tdiv 2))) else some v24)
def F18 (k : Nat) (a0 : List Int) : Option (Int) := (bif ((a0.length : Int) == 0) then some 0 else (((bif inb (wi64 ((a0.length : Int) - 1)) a0.length then (F18_l0 k (wi64 (16 * (wi64 ((a0.length : Int) - 1)))) (gI a0 (wi64 ((a0.length : Int) - 1)))) else none) : Option Int)).bind (fun x13 => some x13))
theorem ct18 (k : Nat) (a0 : List Int) (A_0 : Option Addr) (c_0 : Nat) (S : Nat → Prop) (w : World) (hf0 : (rdI A_0 c_0 .u32 a0).P S w) {r : (Int)} (H : F18 k a0 = some r) : Calls Try.prog 18 #[.slice A_0 a0.length c_0] w (Post S w (fun (_ : Unit) => .int .i64 r) (fun _ => []) (fun _ => [])) := by
  unfold F18 at H
  refine calls_of_nx [.slice A_0 a0.length c_0] [(0, .slice A_0 a0.length c_0)] Try.func18 rfl rfl rfl (Sta.begin w S [rdI A_0 c_0 .u32 a0] (FactsOK.cons hf0 (FactsOK.nil _ _))) ?_
  refine nx_seq (nx_region ?_)
  refine nx_run 1 [0, 2] [(0, .slice A_0 a0.length c_0), (2, .int .i64 0)] (by kernel_rfl) ?_
  refine nx_nil (nx_then (nx_seq (nx_seq (nx_region ?_))))
  refine nx_run 3 [0, 2, 7] [(0, .slice A_0 a0.length c_0), (2, .int .i64 0), (7, .bool ((a0.length : Int) == 0))] (by kernel_rfl) ?_
  refine nx_nil (nx_then ?_)
  refine nx_cond (b := ((a0.length : Int) == 0)) rfl (fun hc2 => ?_) (fun hc2 => ?_)
  · have H := cond_t hc2 H
    refine nx_seq (nx_region ?_)
    refine nx_run 1 [0, 2] [(0, .slice A_0 a0.length c_0), (2, .int .i64 0)] (by kernel_rfl) ?_
    refine nx_nil (nx_then (nx_ret (nx_then_ret ?_)))
    obtain rfl := ret_s H
    exact nx_finish (S := S) (w := w) rfl rfl [.int .i64 0] Try.results18 (.tmp rfl .nil) () rfl [] [false] rfl rfl
  · have H := cond_f hc2 H
    refine nx_skip (nx_then (nx_seq (nx_region ?_)))
    refine nx_run 5 [0, 2, 3] [(0, .slice A_0 a0.length c_0), (2, .int .i64 0), (3, .int .i64 (wi64 (16 * (wi64 ((a0.length : Int) - 1)))))] (by kernel_rfl) ?_
    refine nx_nil (nx_then ?_)
    obtain ⟨x13, hx14, H⟩ := bind_s H
    refine nx_join (fun t w' => Fr Try.f18.ntmps t [(2, .int .i64 0), (3, .int .i64 x13)] ∧ Sta [] w w' [] [] [(rdI A_0 c_0 .u32 a0, sa S w)]) ?_ ?_
    · rintro t w' ⟨hF, hS⟩
      refine nx_wp (c := ⟨Try.f18.ntmps, [], w⟩) hF hS ?_
      refine nx_seq (nx_region ?_)
      refine nx_run 2 [2] [(2, .int .i64 x13)] (by kernel_rfl) ?_
      refine nx_nil (nx_then (nx_ret ?_))
      obtain rfl := ret_s H
      exact nx_finish (S := S) (w := w) rfl rfl [.int .i64 x13] Try.results18 (.tmp rfl .nil) () rfl [] [false] rfl rfl
    · refine nx_seq (nx_region ?_)
      refine nx_run 4 [2, 3, 12, 15] [(2, .int .i64 0), (3, .int .i64 (wi64 (16 * (wi64 ((a0.length : Int) - 1))))), (12, .slice A_0 a0.length c_0), (15, .int .i64 (wi64 ((a0.length : Int) - 1)))] (by kernel_rfl) ?_
      obtain ⟨hb17, hx14⟩ := cond_n hx14
      refine nx_op (by kernel_rfl) (o_rv rfl (by kernel_rfl) (rv_idxR (e := 22) 0 rfl (by kernel_rfl) (by kernel_rfl) rfl rfl hb17) ?_)
      refine nx_op (by kernel_rfl) (o_rv rfl (by kernel_rfl) (rv_ldR (i := (wi64 ((a0.length : Int) - 1))) 0 rfl (by kernel_rfl) rfl hb17) ?_)
      refine nx_run 1 [2, 3, 4] [(2, .int .i64 0), (3, .int .i64 (wi64 (16 * (wi64 ((a0.length : Int) - 1))))), (4, .int .u32 (gI a0 (wi64 ((a0.length : Int) - 1))))] (by kernel_rfl) ?_
      refine nx_nil (nx_then (nx_block ?_))
      refine nx_sel [2, 3, 4] [(2, .int .i64 0), (3, .int .i64 (wi64 (16 * (wi64 ((a0.length : Int) - 1))))), (4, .int .u32 (gI a0 (wi64 ((a0.length : Int) - 1))))] rfl ?_
      refine nx_loop (fun n t w' => ∃ (v24 : Int) (v25 : Int), F18_l0 n v24 v25 = some x13 ∧ Fr Try.f18.ntmps t [(2, .int .i64 0), (3, .int .i64 v24), (4, .int .u32 v25)] ∧ Sta [] w w' [] [] [(rdI A_0 c_0 .u32 a0, sa S w)]) k ?_ ?_
      · exact fun t w' hF hS => ⟨(wi64 (16 * (wi64 ((a0.length : Int) - 1)))), (gI a0 (wi64 ((a0.length : Int) - 1))), hx14, hF, hS⟩
      · rintro n t w' ⟨v24, v25, hx14, hF, hS⟩
        cases n with
        | zero => exact (none_s hx14).elim
        | succ n =>
          refine nx_wp (c := ⟨Try.f18.ntmps, [], w⟩) hF hS ?_
          rw [F18_l0] at hx14
          refine nx_seq (nx_seq (nx_region ?_))
          refine nx_run 2 [2, 3, 4, 18, 19] [(2, .int .i64 0), (3, .int .i64 v24), (4, .int .u32 v25), (18, .int .u32 v25), (19, .bool (decide (v25 > 0)))] (by kernel_rfl) ?_
          refine nx_nil (nx_then ?_)
          refine nx_cond (b := (decide (v25 > 0))) rfl (fun hc27 => ?_) (fun hc27 => ?_)
          · have hx14 := cond_t hc27 hx14
            refine nx_skip (nx_then (nx_seq (nx_block (nx_region ?_))))
            refine nx_run 3 [2, 3, 4, 18, 19, 22, 23] [(2, .int .i64 0), (3, .int .i64 (wi64 (v24 + 1))), (4, .int .u32 v25), (18, .int .u32 v25), (19, .bool (decide (v25 > 0))), (22, .int .i64 v24), (23, .int .i64 (wi64 (v24 + 1)))] (by kernel_rfl) ?_
            refine nx_nil (nx_in (nx_then (nx_region ?_)))
            refine nx_run 3 [2, 3, 4, 18, 19, 20, 21, 22, 23] [(2, .int .i64 0), (3, .int .i64 (wi64 (v24 + 1))), (4, .int .u32 (wu32 (v25.tdiv 2))), (18, .int .u32 v25), (19, .bool (decide (v25 > 0))), (20, .int .u32 v25), (21, .int .u32 (wu32 (v25.tdiv 2))), (22, .int .i64 v24), (23, .int .i64 (wi64 (v24 + 1)))] (by kernel_rfl) ?_
            refine nx_nil ?_
            refine nx_sel [2, 3, 4] [(2, .int .i64 0), (3, .int .i64 (wi64 (v24 + 1))), (4, .int .u32 (wu32 (v25.tdiv 2)))] rfl ?_
            exact nx_again n (Nat.lt_succ_self n) (fun t w' hF hS => ⟨(wi64 (v24 + 1)), (wu32 (v25.tdiv 2)), hx14, hF, hS⟩)
          · have hx14 := cond_f hc27 hx14
            refine nx_exit (nx_then_exit (nx_then_exit (nx_in_exit ?_)))
            refine nx_sel [2, 3] [(2, .int .i64 0), (3, .int .i64 v24)] rfl ?_
            refine nx_meet (fun t w' hF hS => ?_)
            obtain rfl := ret_s hx14
            exact ⟨hF, hS⟩
end Go.Cal
