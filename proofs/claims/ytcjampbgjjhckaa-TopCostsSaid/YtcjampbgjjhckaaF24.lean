/- The walk of the function cairn/gas.Refund: what it computes, as a Lean function, and that each of its calls answers so. Condition: the function gives an answer (some). Printed by program. -/
import Derived.Test.YtcjampbgjjhckaaKB
namespace Go.Cal
open Go Go.RowKit Go.Proofs
set_option maxRecDepth 100000
set_option linter.unusedVariables false
-- cairn/gas.Refund
def F24 (a0 : Int) (a1 : Int) : Option (Int) := (bif (decide (a1 < 0)) then some 0 else some (if (wu64 (a0.tdiv 5)) < (wu64 a1) then (wu64 (a0.tdiv 5)) else (wu64 a1)))
theorem ct24 (a0 : Int) (a1 : Int) (S : Nat → Prop) (w : World) {r : (Int)} (H : F24 a0 a1 = some r) : Calls Try.prog 24 #[.int .u64 a0, .int .i64 a1] w (Post S w (fun (_ : Unit) => .int .u64 r) (fun _ => []) (fun _ => [])) := by
  unfold F24 at H
  refine calls_of_nx [.int .u64 a0, .int .i64 a1] [(0, .int .u64 a0), (1, .int .i64 a1)] Try.func24 rfl rfl rfl (Sta.begin w S [] (FactsOK.nil _ _)) ?_
  refine nx_seq (nx_region ?_)
  refine nx_run 1 [0, 1, 4] [(0, .int .u64 a0), (1, .int .i64 a1), (4, .int .u64 0)] (by kernel_rfl) ?_
  refine nx_nil (nx_then (nx_seq (nx_seq (nx_region ?_))))
  refine nx_run 2 [0, 1, 4, 6] [(0, .int .u64 a0), (1, .int .i64 a1), (4, .int .u64 0), (6, .bool (decide (a1 < 0)))] (by kernel_rfl) ?_
  refine nx_nil (nx_then ?_)
  refine nx_cond (b := (decide (a1 < 0))) rfl (fun hc2 => ?_) (fun hc2 => ?_)
  · have H := cond_t hc2 H
    refine nx_seq (nx_region ?_)
    refine nx_run 1 [0, 1, 4] [(0, .int .u64 a0), (1, .int .i64 a1), (4, .int .u64 0)] (by kernel_rfl) ?_
    refine nx_nil (nx_then (nx_ret (nx_then_ret ?_)))
    obtain rfl := ret_s H
    exact nx_finish (S := S) (w := w) rfl rfl [.int .u64 0] Try.results24 (.tmp rfl .nil) () rfl [] [] rfl rfl
  · have H := cond_f hc2 H
    refine nx_skip (nx_then (nx_seq (nx_region ?_)))
    refine nx_run 6 [4] [(4, .int .u64 (if (wu64 (a0.tdiv 5)) < (wu64 a1) then (wu64 (a0.tdiv 5)) else (wu64 a1)))] (by kernel_rfl) ?_
    refine nx_nil (nx_then (nx_ret ?_))
    obtain rfl := ret_s H
    exact nx_finish (S := S) (w := w) rfl rfl [.int .u64 (if (wu64 (a0.tdiv 5)) < (wu64 a1) then (wu64 (a0.tdiv 5)) else (wu64 a1))] Try.results24 (.tmp rfl .nil) () rfl [] [] rfl rfl
end Go.Cal
