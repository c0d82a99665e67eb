/- The walk of the function cairn/gas.Init: what it computes, as a Lean function, and that each of its calls answers so. Condition: the function gives an answer (some). Printed by program. -/
import Derived.Test.YtcjampbgjjhckaaKB
import Derived.Test.YtcjampbgjjhckaaF8
namespace Go.Cal
open Go Go.RowKit Go.Proofs
set_option maxRecDepth 100000
set_option linter.unusedVariables false
-- cairn/gas.Init
def F26 (a0 : Int) : Option (Int) := (bif (decide (a0 > 8388608)) then some 33554433 else ((F8 a0).bind (fun x6 => some (wu64 (2 * x6)))))
theorem ct26 (a0 : Int) (S : Nat → Prop) (w : World) {r : (Int)} (H : F26 a0 = some r) : Calls Try.prog 26 #[.int .u64 a0] w (Post S w (fun (_ : Unit) => .int .u64 r) (fun _ => []) (fun _ => [])) := by
  unfold F26 at H
  refine calls_of_nx [.int .u64 a0] [(0, .int .u64 a0)] Try.func26 rfl rfl rfl (Sta.begin w S [] (FactsOK.nil _ _)) ?_
  refine nx_seq (nx_region ?_)
  refine nx_run 1 [0, 2] [(0, .int .u64 a0), (2, .int .u64 0)] (by kernel_rfl) ?_
  refine nx_nil (nx_then (nx_seq (nx_seq (nx_region ?_))))
  refine nx_run 2 [0, 2, 4] [(0, .int .u64 a0), (2, .int .u64 0), (4, .bool (decide (a0 > 8388608)))] (by kernel_rfl) ?_
  refine nx_nil (nx_then ?_)
  refine nx_cond (b := (decide (a0 > 8388608))) rfl (fun hc2 => ?_) (fun hc2 => ?_)
  · have H := cond_t hc2 H
    refine nx_seq (nx_region ?_)
    refine nx_run 1 [0, 2] [(0, .int .u64 a0), (2, .int .u64 33554433)] (by kernel_rfl) ?_
    refine nx_nil (nx_then (nx_ret (nx_then_ret ?_)))
    obtain rfl := ret_s H
    exact nx_finish (S := S) (w := w) rfl rfl [.int .u64 33554433] Try.results26 (.tmp rfl .nil) () rfl [] [] rfl rfl
  · have H := cond_f hc2 H
    refine nx_skip (nx_then (nx_seq (nx_region ?_)))
    refine nx_run 1 [2, 5] [(2, .int .u64 0), (5, .int .u64 a0)] (by kernel_rfl) ?_
    obtain ⟨x6, hx7, H⟩ := bind_s H
    refine nx_op (by kernel_rfl) (o_callO (S := S) [.int .u64 a0] (by kernel_rfl) Try.func8 nb8 rfl rfl (fun w' hS => ct8 a0  _ w'  hx7) (fun g8 => ?_))
    refine nx_run 2 [2] [(2, .int .u64 (wu64 (2 * x6)))] (by kernel_rfl) ?_
    refine nx_nil (nx_then (nx_ret ?_))
    obtain rfl := ret_s H
    exact nx_finish (S := S) (w := w) rfl rfl [.int .u64 (wu64 (2 * x6))] Try.results26 (.tmp rfl .nil) () rfl [] [] rfl rfl
end Go.Cal
