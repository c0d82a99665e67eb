/- The walk of the function cairn/cairntop.memory: what it computes, as a Lean function, and that each of its calls answers so. Condition: the function gives an answer (some). Printed by program. -/
import Derived.Test.YtcjampbgjjhckaaKB
namespace Go.Cal
open Go Go.RowKit Go.Proofs
set_option maxRecDepth 100000
set_option linter.unusedVariables false
-- cairn/cairntop.memory
def F7 (a0 : Int) : Option (Int) := some (wu64 ((wu64 (3 * (wu64 ((wu64 (a0 + 31)).tdiv 32)))) + (wu64 ((wu64 ((wu64 ((wu64 (a0 + 31)).tdiv 32)) * (wu64 ((wu64 (a0 + 31)).tdiv 32)))).tdiv 512))))
theorem ct7 (a0 : Int) (S : Nat → Prop) (w : World) {r : (Int)} (H : F7 a0 = some r) : Calls Try.prog 7 #[.int .u64 a0] w (Post S w (fun (_ : Unit) => .int .u64 r) (fun _ => []) (fun _ => [])) := by
  unfold F7 at H
  refine calls_of_nx [.int .u64 a0] [(0, .int .u64 a0)] Try.func7 rfl rfl rfl (Sta.begin w S [] (FactsOK.nil _ _)) ?_
  refine nx_seq (nx_region ?_)
  refine nx_run 1 [0, 2] [(0, .int .u64 a0), (2, .int .u64 0)] (by kernel_rfl) ?_
  refine nx_nil (nx_then (nx_seq (nx_region ?_)))
  refine nx_run 4 [2, 3] [(2, .int .u64 0), (3, .int .u64 (wu64 ((wu64 (a0 + 31)).tdiv 32)))] (by kernel_rfl) ?_
  refine nx_nil (nx_then (nx_seq (nx_region ?_)))
  refine nx_run 8 [2] [(2, .int .u64 (wu64 ((wu64 (3 * (wu64 ((wu64 (a0 + 31)).tdiv 32)))) + (wu64 ((wu64 ((wu64 ((wu64 (a0 + 31)).tdiv 32)) * (wu64 ((wu64 (a0 + 31)).tdiv 32)))).tdiv 512)))))] (by kernel_rfl) ?_
  refine nx_nil (nx_then (nx_ret ?_))
  obtain rfl := ret_s H
  exact nx_finish (S := S) (w := w) rfl rfl [.int .u64 (wu64 ((wu64 (3 * (wu64 ((wu64 (a0 + 31)).tdiv 32)))) + (wu64 ((wu64 ((wu64 ((wu64 (a0 + 31)).tdiv 32)) * (wu64 ((wu64 (a0 + 31)).tdiv 32)))).tdiv 512))))] Try.results7 (.tmp rfl .nil) () rfl [] [] rfl rfl
end Go.Cal
