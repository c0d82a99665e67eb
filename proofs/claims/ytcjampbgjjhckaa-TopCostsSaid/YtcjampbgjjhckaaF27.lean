/- The walk of the function cairn/gas.Deposit: what it computes, as a Lean function, and that each of its calls answers so. Condition: the function gives an answer (some). Printed by program. -/
import Derived.Test.YtcjampbgjjhckaaKB
namespace Go.Cal
open Go Go.RowKit Go.Proofs
set_option maxRecDepth 100000
set_option linter.unusedVariables false
-- cairn/gas.Deposit
def F27 (a0 : Int) : Option (Int) := (bif (decide (a0 > 8388608)) then some 33554433 else some (wu64 (200 * a0)))
theorem ct27 (a0 : Int) (S : Nat → Prop) (w : World) {r : (Int)} (H : F27 a0 = some r) : Calls Try.prog 27 #[.int .u64 a0] w (Post S w (fun (_ : Unit) => .int .u64 r) (fun _ => []) (fun _ => [])) := by
  unfold F27 at H
  refine calls_of_nx [.int .u64 a0] [(0, .int .u64 a0)] Try.func27 rfl rfl rfl (Sta.begin w S [] (FactsOK.nil _ _)) ?_
  refine nx_seq (nx_region ?_)
  refine nx_run 1 [0, 2] [(0, .int .u64 a0), (2, .int .u64 0)] (by kernel_rfl) ?_
  refine nx_nil (nx_then (nx_seq (nx_seq (nx_region ?_))))
  refine nx_run 2 [0, 2, 4] [(0, .int .u64 a0), (2, .int .u64 0), (4, .bool (decide (a0 > 8388608)))] (by kernel_rfl) ?_
  refine nx_nil (nx_then ?_)
  refine nx_cond (b := (decide (a0 > 8388608))) rfl (fun hc2 => ?_) (fun hc2 => ?_)
  · have H := cond_t hc2 H
    refine nx_seq (nx_region ?_)
    refine nx_run 1 [0, 2] [(0, .int .u64 a0), (2, .int .u64 33554433)] (by kernel_rfl) ?_
    refine nx_nil (nx_then (nx_ret (nx_then_ret ?_)))
    obtain rfl := ret_s H
    exact nx_finish (S := S) (w := w) rfl rfl [.int .u64 33554433] Try.results27 (.tmp rfl .nil) () rfl [] [] rfl rfl
  · have H := cond_f hc2 H
    refine nx_skip (nx_then (nx_seq (nx_region ?_)))
    refine nx_run 3 [2] [(2, .int .u64 (wu64 (200 * a0)))] (by kernel_rfl) ?_
    refine nx_nil (nx_then (nx_ret ?_))
    obtain rfl := ret_s H
    exact nx_finish (S := S) (w := w) rfl rfl [.int .u64 (wu64 (200 * a0))] Try.results27 (.tmp rfl .nil) () rfl [] [] rfl rfl
end Go.Cal
