/- The walk of the function cairn/gas.Call: what it computes, as a Lean function, and that each of its calls answers so. Condition: the function gives an answer (some). Printed by program. -/
import Derived.Test.YtcjampbgjjhckaaKB
import Derived.Test.YtcjampbgjjhckaaF20
namespace Go.Cal
open Go Go.RowKit Go.Proofs
set_option maxRecDepth 100000
set_option linter.unusedVariables false
-- cairn/gas.Call
def F22 (a0 : Bool) (a1 : Bool) (a2 : Bool) : Option (Int) := ((F20 a0).bind (fun x4 => (((bif a1 then (bif a2 then some (wu64 ((wu64 (x4 + 9000)) + 25000)) else some (wu64 (x4 + 9000))) else some x4) : Option Int)).bind (fun x9 => some x9)))
theorem ct22 (a0 : Bool) (a1 : Bool) (a2 : Bool) (S : Nat → Prop) (w : World) {r : (Int)} (H : F22 a0 a1 a2 = some r) : Calls Try.prog 22 #[.bool a0, .bool a1, .bool a2] w (Post S w (fun (_ : Unit) => .int .u64 r) (fun _ => []) (fun _ => [])) := by
  unfold F22 at H
  refine calls_of_nx [.bool a0, .bool a1, .bool a2] [(0, .bool a0), (1, .bool a1), (2, .bool a2)] Try.func22 rfl rfl rfl (Sta.begin w S [] (FactsOK.nil _ _)) ?_
  refine nx_seq (nx_region ?_)
  refine nx_run 1 [0, 1, 2, 6] [(0, .bool a0), (1, .bool a1), (2, .bool a2), (6, .int .u64 0)] (by kernel_rfl) ?_
  refine nx_nil (nx_then (nx_seq (nx_region ?_)))
  refine nx_run 1 [1, 2, 6, 8] [(1, .bool a1), (2, .bool a2), (6, .int .u64 0), (8, .bool a0)] (by kernel_rfl) ?_
  obtain ⟨x4, hx5, H⟩ := bind_s H
  refine nx_op (by kernel_rfl) (o_callO (S := S) [.bool a0] (by kernel_rfl) Try.func20 nb20 rfl rfl (fun w' hS => ct20 a0  _ w'  hx5) (fun g6 => ?_))
  refine nx_run 1 [1, 2, 6, 7] [(1, .bool a1), (2, .bool a2), (6, .int .u64 0), (7, .int .u64 x4)] (by kernel_rfl) ?_
  refine nx_nil (nx_then ?_)
  obtain ⟨x9, hx10, H⟩ := bind_s H
  refine nx_join (fun t w' => Fr Try.f22.ntmps t [(6, .int .u64 0), (7, .int .u64 x9)] ∧ Sta [] w w' [] [] []) ?_ ?_
  · rintro t w' ⟨hF, hS⟩
    refine nx_wp (c := ⟨Try.f22.ntmps, [], w⟩) hF hS ?_
    refine nx_seq (nx_region ?_)
    refine nx_run 2 [6] [(6, .int .u64 x9)] (by kernel_rfl) ?_
    refine nx_nil (nx_then (nx_ret ?_))
    obtain rfl := ret_s H
    exact nx_finish (S := S) (w := w) rfl rfl [.int .u64 x9] Try.results22 (.tmp rfl .nil) () rfl [] [] rfl rfl
  · refine nx_seq (nx_region ?_)
    refine nx_run 1 [2, 6, 7, 10] [(2, .bool a2), (6, .int .u64 0), (7, .int .u64 x4), (10, .bool a1)] (by kernel_rfl) ?_
    refine nx_nil (nx_then ?_)
    refine nx_cond (b := a1) rfl (fun hc12 => ?_) (fun hc12 => ?_)
    · have hx10 := cond_t hc12 hx10
      refine nx_seq (nx_region ?_)
      refine nx_run 3 [2, 6, 7] [(2, .bool a2), (6, .int .u64 0), (7, .int .u64 (wu64 (x4 + 9000)))] (by kernel_rfl) ?_
      refine nx_nil (nx_then (nx_seq (nx_region ?_)))
      refine nx_run 1 [6, 7, 13] [(6, .int .u64 0), (7, .int .u64 (wu64 (x4 + 9000))), (13, .bool a2)] (by kernel_rfl) ?_
      refine nx_nil (nx_then ?_)
      refine nx_cond (b := a2) rfl (fun hc13 => ?_) (fun hc13 => ?_)
      · have hx10 := cond_t hc13 hx10
        refine nx_region ?_
        refine nx_run 3 [6, 7] [(6, .int .u64 0), (7, .int .u64 (wu64 ((wu64 (x4 + 9000)) + 25000)))] (by kernel_rfl) ?_
        refine nx_nil ?_
        refine nx_sel [6, 7] [(6, .int .u64 0), (7, .int .u64 (wu64 ((wu64 (x4 + 9000)) + 25000)))] rfl ?_
        refine nx_meet (fun t w' hF hS => ?_)
        obtain rfl := ret_s hx10
        exact ⟨hF, hS⟩
      · have hx10 := cond_f hc13 hx10
        refine nx_skip ?_
        refine nx_sel [6, 7] [(6, .int .u64 0), (7, .int .u64 (wu64 (x4 + 9000)))] rfl ?_
        refine nx_meet (fun t w' hF hS => ?_)
        obtain rfl := ret_s hx10
        exact ⟨hF, hS⟩
    · have hx10 := cond_f hc12 hx10
      refine nx_skip ?_
      refine nx_sel [6, 7] [(6, .int .u64 0), (7, .int .u64 x4)] rfl ?_
      refine nx_meet (fun t w' hF hS => ?_)
      obtain rfl := ret_s hx10
      exact ⟨hF, hS⟩
end Go.Cal
