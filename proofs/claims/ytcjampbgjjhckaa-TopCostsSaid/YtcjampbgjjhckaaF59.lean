/- The walk of the function cairn/word.Small: what it computes, as a Lean function, and that each of its calls answers so. Condition: the function gives an answer (some). Printed by program. -/
import Derived.Test.YtcjampbgjjhckaaKB
namespace Go.Cal
open Go Go.RowKit Go.Proofs
set_option maxRecDepth 100000
set_option linter.unusedVariables false
-- cairn/word.Small
def F59 (a0 : C4) : Option (Int × Bool) := (bif ((orK .u64 (orK .u64 a0.c1 a0.c2) a0.c3) != 0) then some (0, false) else some (a0.c0, true))
theorem ct59 (a0 : C4) (S : Nat → Prop) (w : World) {r : (Int × Bool)} (H : F59 a0 = some r) : Calls Try.prog 59 #[.agg #[.int .u64 a0.c0, .int .u64 a0.c1, .int .u64 a0.c2, .int .u64 a0.c3]] w (Post S w (fun (_ : Unit) => .tuple #[.int .u64 r.1, .bool r.2]) (fun _ => []) (fun _ => [])) := by
  unfold F59 at H
  refine calls_of_nx [.agg #[.int .u64 a0.c0, .int .u64 a0.c1, .int .u64 a0.c2, .int .u64 a0.c3]] [(0, .agg #[.int .u64 a0.c0, .int .u64 a0.c1, .int .u64 a0.c2, .int .u64 a0.c3])] Try.func59 rfl rfl rfl (Sta.begin w S [] (FactsOK.nil _ _)) ?_
  refine nx_seq (nx_region ?_)
  refine nx_op (by kernel_rfl) (o_box (.agg #[.int .u64 a0.c0, .int .u64 a0.c1, .int .u64 a0.c2, .int .u64 a0.c3]) (by kernel_rfl) rfl (by simp [undef]) (fun b2 => ?_))
  refine nx_run 2 [1, 2, 3] [(1, .pointer (some ⟨b2, 0, none⟩)), (2, .int .u64 0), (3, .bool false)] (by kernel_rfl) ?_
  refine nx_nil (nx_then (nx_seq (nx_seq (nx_region ?_))))
  refine nx_mem 9 [0, 0, 0] [1, 2, 3, 12] [(1, .pointer (some ⟨b2, 0, none⟩)), (2, .int .u64 0), (3, .bool false), (12, .bool ((orK .u64 (orK .u64 a0.c1 a0.c2) a0.c3) != 0))] [⟨b2, #[.int .u64 a0.c0, .int .u64 a0.c1, .int .u64 a0.c2, .int .u64 a0.c3], 25⟩] (b2 = b2 ∧ b2 = b2 ∧ b2 = b2 ∧ True) (by kernel_rfl) ⟨rfl, rfl, rfl, trivial⟩ ?_
  refine nx_nil (nx_then ?_)
  refine nx_cond (b := ((orK .u64 (orK .u64 a0.c1 a0.c2) a0.c3) != 0)) rfl (fun hc4 => ?_) (fun hc4 => ?_)
  · have H := cond_t hc4 H
    refine nx_seq (nx_region ?_)
    refine nx_run 2 [1, 2, 3] [(1, .pointer (some ⟨b2, 0, none⟩)), (2, .int .u64 0), (3, .bool false)] (by kernel_rfl) ?_
    refine nx_nil (nx_then (nx_ret (nx_then_ret ?_)))
    obtain rfl := ret_s H
    exact nx_finish (S := S) (w := w) rfl rfl [.int .u64 0, .bool false] Try.results59 (.tmp rfl (.tmp rfl .nil)) () rfl [] [] rfl rfl
  · have H := cond_f hc4 H
    refine nx_skip (nx_then (nx_seq (nx_region ?_)))
    refine nx_mem 4 [0] [2, 3] [(2, .int .u64 a0.c0), (3, .bool true)] [⟨b2, #[.int .u64 a0.c0, .int .u64 a0.c1, .int .u64 a0.c2, .int .u64 a0.c3], 25⟩] (b2 = b2 ∧ True) (by kernel_rfl) ⟨rfl, trivial⟩ ?_
    refine nx_nil (nx_then (nx_ret ?_))
    obtain rfl := ret_s H
    exact nx_finish (S := S) (w := w) rfl rfl [.int .u64 a0.c0, .bool true] Try.results59 (.tmp rfl (.tmp rfl .nil)) () rfl [] [] rfl rfl
end Go.Cal
