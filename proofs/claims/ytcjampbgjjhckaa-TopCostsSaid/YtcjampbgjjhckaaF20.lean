/- The walk of the function cairn/gas.Account: what it computes, as a Lean function, and that each of its calls answers so. Condition: the function gives an answer (some). Printed by program. -/
import Derived.Test.YtcjampbgjjhckaaKB
namespace Go.Cal
open Go Go.RowKit Go.Proofs
set_option maxRecDepth 100000
set_option linter.unusedVariables false
-- cairn/gas.Account
def F20 (a0 : Bool) : Option (Int) := (bif a0 then some 100 else some 2600)
theorem ct20 (a0 : Bool) (S : Nat → Prop) (w : World) {r : (Int)} (H : F20 a0 = some r) : Calls Try.prog 20 #[.bool a0] w (Post S w (fun (_ : Unit) => .int .u64 r) (fun _ => []) (fun _ => [])) := by
  unfold F20 at H
  refine calls_of_nx [.bool a0] [(0, .bool a0)] Try.func20 rfl rfl rfl (Sta.begin w S [] (FactsOK.nil _ _)) ?_
  refine nx_seq (nx_region ?_)
  refine nx_run 1 [0, 2] [(0, .bool a0), (2, .int .u64 0)] (by kernel_rfl) ?_
  refine nx_nil (nx_then (nx_seq (nx_seq (nx_region ?_))))
  refine nx_run 1 [2, 3] [(2, .int .u64 0), (3, .bool a0)] (by kernel_rfl) ?_
  refine nx_nil (nx_then ?_)
  refine nx_cond (b := a0) rfl (fun hc2 => ?_) (fun hc2 => ?_)
  · have H := cond_t hc2 H
    refine nx_seq (nx_region ?_)
    refine nx_run 1 [2] [(2, .int .u64 100)] (by kernel_rfl) ?_
    refine nx_nil (nx_then (nx_ret (nx_then_ret ?_)))
    obtain rfl := ret_s H
    exact nx_finish (S := S) (w := w) rfl rfl [.int .u64 100] Try.results20 (.tmp rfl .nil) () rfl [] [] rfl rfl
  · have H := cond_f hc2 H
    refine nx_skip (nx_then (nx_seq (nx_region ?_)))
    refine nx_run 1 [2] [(2, .int .u64 2600)] (by kernel_rfl) ?_
    refine nx_nil (nx_then (nx_ret ?_))
    obtain rfl := ret_s H
    exact nx_finish (S := S) (w := w) rfl rfl [.int .u64 2600] Try.results20 (.tmp rfl .nil) () rfl [] [] rfl rfl
end Go.Cal
