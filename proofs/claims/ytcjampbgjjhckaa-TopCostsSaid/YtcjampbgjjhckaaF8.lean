/- The walk of the function cairn/gas.Words: what it computes, as a Lean function, and that each of its calls answers so. Condition: the function gives an answer (some). Printed by program. -/
import Derived.Test.YtcjampbgjjhckaaKB
namespace Go.Cal
open Go Go.RowKit Go.Proofs
set_option maxRecDepth 100000
set_option linter.unusedVariables false
-- cairn/gas.Words
def F8 (a0 : Int) : Option (Int) := (((bif ((a0.tmod 32) != 0) then some (wu64 ((wu64 (a0.tdiv 32)) + 1)) else some (wu64 (a0.tdiv 32))) : Option Int)).bind (fun x2 => some x2)
theorem ct8 (a0 : Int) (S : Nat → Prop) (w : World) {r : (Int)} (H : F8 a0 = some r) : Calls Try.prog 8 #[.int .u64 a0] w (Post S w (fun (_ : Unit) => .int .u64 r) (fun _ => []) (fun _ => [])) := by
  unfold F8 at H
  refine calls_of_nx [.int .u64 a0] [(0, .int .u64 a0)] Try.func8 rfl rfl rfl (Sta.begin w S [] (FactsOK.nil _ _)) ?_
  refine nx_seq (nx_region ?_)
  refine nx_run 1 [0, 2] [(0, .int .u64 a0), (2, .int .u64 0)] (by kernel_rfl) ?_
  refine nx_nil (nx_then (nx_seq (nx_region ?_)))
  refine nx_run 3 [0, 2, 3] [(0, .int .u64 a0), (2, .int .u64 0), (3, .int .u64 (wu64 (a0.tdiv 32)))] (by kernel_rfl) ?_
  refine nx_nil (nx_then ?_)
  obtain ⟨x2, hx3, H⟩ := bind_s H
  refine nx_join (fun t w' => Fr Try.f8.ntmps t [(2, .int .u64 0), (3, .int .u64 x2)] ∧ Sta [] w w' [] [] []) ?_ ?_
  · rintro t w' ⟨hF, hS⟩
    refine nx_wp (c := ⟨Try.f8.ntmps, [], w⟩) hF hS ?_
    refine nx_seq (nx_region ?_)
    refine nx_run 2 [2] [(2, .int .u64 x2)] (by kernel_rfl) ?_
    refine nx_nil (nx_then (nx_ret ?_))
    obtain rfl := ret_s H
    exact nx_finish (S := S) (w := w) rfl rfl [.int .u64 x2] Try.results8 (.tmp rfl .nil) () rfl [] [] rfl rfl
  · refine nx_seq (nx_region ?_)
    refine nx_run 3 [2, 3, 8] [(2, .int .u64 0), (3, .int .u64 (wu64 (a0.tdiv 32))), (8, .bool ((a0.tmod 32) != 0))] (by kernel_rfl) ?_
    refine nx_nil (nx_then ?_)
    refine nx_cond (b := ((a0.tmod 32) != 0)) rfl (fun hc5 => ?_) (fun hc5 => ?_)
    · have hx3 := cond_t hc5 hx3
      refine nx_region ?_
      refine nx_run 3 [2, 3] [(2, .int .u64 0), (3, .int .u64 (wu64 ((wu64 (a0.tdiv 32)) + 1)))] (by kernel_rfl) ?_
      refine nx_nil ?_
      refine nx_sel [2, 3] [(2, .int .u64 0), (3, .int .u64 (wu64 ((wu64 (a0.tdiv 32)) + 1)))] rfl ?_
      refine nx_meet (fun t w' hF hS => ?_)
      obtain rfl := ret_s hx3
      exact ⟨hF, hS⟩
    · have hx3 := cond_f hc5 hx3
      refine nx_skip ?_
      refine nx_sel [2, 3] [(2, .int .u64 0), (3, .int .u64 (wu64 (a0.tdiv 32)))] rfl ?_
      refine nx_meet (fun t w' hF hS => ?_)
      obtain rfl := ret_s hx3
      exact ⟨hF, hS⟩
end Go.Cal
