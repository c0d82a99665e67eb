/- The walk of the function cairn/gas.Forward: what it computes, as a Lean function, and that each of its calls answers so. Condition: the function gives an answer (some). Printed by program. -/
import Derived.Test.YtcjampbgjjhckaaKB
import Derived.Test.YtcjampbgjjhckaaF59
namespace Go.Cal
open Go Go.RowKit Go.Proofs
set_option maxRecDepth 100000
set_option linter.unusedVariables false
-- cairn/gas.Forward
def F23 (a0 : Int) (a1 : C4) : Option (Int) := ((F59 a1).bind (fun x10 => (bif x10.2 then some (if (wu64 (a0 - (wu64 (a0.tdiv 64)))) < x10.1 then (wu64 (a0 - (wu64 (a0.tdiv 64)))) else x10.1) else some (wu64 (a0 - (wu64 (a0.tdiv 64)))))))
theorem ct23 (a0 : Int) (a1 : C4) (S : Nat → Prop) (w : World) {r : (Int)} (H : F23 a0 a1 = some r) : Calls Try.prog 23 #[.int .u64 a0, .agg #[.int .u64 a1.c0, .int .u64 a1.c1, .int .u64 a1.c2, .int .u64 a1.c3]] w (Post S w (fun (_ : Unit) => .int .u64 r) (fun _ => []) (fun _ => [])) := by
  unfold F23 at H
  refine calls_of_nx [.int .u64 a0, .agg #[.int .u64 a1.c0, .int .u64 a1.c1, .int .u64 a1.c2, .int .u64 a1.c3]] [(0, .int .u64 a0), (1, .agg #[.int .u64 a1.c0, .int .u64 a1.c1, .int .u64 a1.c2, .int .u64 a1.c3])] Try.func23 rfl rfl rfl (Sta.begin w S [] (FactsOK.nil _ _)) ?_
  refine nx_seq (nx_region ?_)
  refine nx_op (by kernel_rfl) (o_box (.agg #[.int .u64 a1.c0, .int .u64 a1.c1, .int .u64 a1.c2, .int .u64 a1.c3]) (by kernel_rfl) rfl (by simp [undef]) (fun b2 => ?_))
  refine nx_run 1 [0, 3, 4] [(0, .int .u64 a0), (3, .pointer (some ⟨b2, 0, none⟩)), (4, .int .u64 0)] (by kernel_rfl) ?_
  refine nx_nil (nx_then (nx_seq (nx_region ?_)))
  refine nx_run 5 [3, 4, 5] [(3, .pointer (some ⟨b2, 0, none⟩)), (4, .int .u64 0), (5, .int .u64 (wu64 (a0 - (wu64 (a0.tdiv 64)))))] (by kernel_rfl) ?_
  refine nx_nil (nx_then (nx_seq (nx_seq (nx_region ?_))))
  refine nx_mem 1 [0] [4, 5, 13] [(4, .int .u64 0), (5, .int .u64 (wu64 (a0 - (wu64 (a0.tdiv 64))))), (13, .agg #[.int .u64 a1.c0, .int .u64 a1.c1, .int .u64 a1.c2, .int .u64 a1.c3])] [⟨b2, #[.int .u64 a1.c0, .int .u64 a1.c1, .int .u64 a1.c2, .int .u64 a1.c3], 25⟩] (b2 = b2 ∧ True) (by kernel_rfl) ⟨rfl, trivial⟩ ?_
  obtain ⟨x10, hx11, H⟩ := bind_s H
  refine nx_op (by kernel_rfl) (o_callO (S := S) [.agg #[.int .u64 a1.c0, .int .u64 a1.c1, .int .u64 a1.c2, .int .u64 a1.c3]] (by kernel_rfl) Try.func59 nb59 rfl rfl (fun w' hS => ct59 a1  _ w'  hx11) (fun g12 => ?_))
  refine nx_run 5 [4, 5, 6, 7] [(4, .int .u64 0), (5, .int .u64 (wu64 (a0 - (wu64 (a0.tdiv 64))))), (6, .int .u64 x10.1), (7, .bool x10.2)] (by kernel_rfl) ?_
  refine nx_nil (nx_then (nx_seq (nx_region ?_)))
  refine nx_run 1 [4, 5, 6, 17] [(4, .int .u64 0), (5, .int .u64 (wu64 (a0 - (wu64 (a0.tdiv 64))))), (6, .int .u64 x10.1), (17, .bool x10.2)] (by kernel_rfl) ?_
  refine nx_nil (nx_then ?_)
  refine nx_cond (b := x10.2) rfl (fun hc13 => ?_) (fun hc13 => ?_)
  · have H := cond_t hc13 H
    refine nx_seq (nx_region ?_)
    refine nx_run 4 [4, 5] [(4, .int .u64 (if (wu64 (a0 - (wu64 (a0.tdiv 64)))) < x10.1 then (wu64 (a0 - (wu64 (a0.tdiv 64)))) else x10.1)), (5, .int .u64 (wu64 (a0 - (wu64 (a0.tdiv 64)))))] (by kernel_rfl) ?_
    refine nx_nil (nx_then (nx_ret (nx_then_ret ?_)))
    obtain rfl := ret_s H
    exact nx_finish (S := S) (w := w) rfl rfl [.int .u64 (if (wu64 (a0 - (wu64 (a0.tdiv 64)))) < x10.1 then (wu64 (a0 - (wu64 (a0.tdiv 64)))) else x10.1)] Try.results23 (.tmp rfl .nil) () rfl [] [] rfl rfl
  · have H := cond_f hc13 H
    refine nx_skip (nx_then (nx_seq (nx_region ?_)))
    refine nx_run 2 [4] [(4, .int .u64 (wu64 (a0 - (wu64 (a0.tdiv 64)))))] (by kernel_rfl) ?_
    refine nx_nil (nx_then (nx_ret ?_))
    obtain rfl := ret_s H
    exact nx_finish (S := S) (w := w) rfl rfl [.int .u64 (wu64 (a0 - (wu64 (a0.tdiv 64))))] Try.results23 (.tmp rfl .nil) () rfl [] [] rfl rfl
end Go.Cal
