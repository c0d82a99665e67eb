/- The walk of the function cairn/gas.Exp: what it computes, as a Lean function, and that each of its calls answers so. Condition: the function gives an answer (some). Printed by program. -/
import Derived.Test.YtcjampbgjjhckaaKB
import Derived.Test.YtcjampbgjjhckaaF61
namespace Go.Cal
open Go Go.RowKit Go.Proofs
set_option maxRecDepth 100000
set_option linter.unusedVariables false
-- cairn/gas.Exp
def F17 (k : Nat) (a0 : C4) : Option (Int) := ((F61 k a0).bind (fun x6 => some (wu64 (50 * (wu64 (wi64 ((wi64 (x6 + 7)).tdiv 8)))))))
theorem ct17 (k : Nat) (a0 : C4) (S : Nat → Prop) (w : World) {r : (Int)} (H : F17 k a0 = some r) : Calls Try.prog 17 #[.agg #[.int .u64 a0.c0, .int .u64 a0.c1, .int .u64 a0.c2, .int .u64 a0.c3]] w (Post S w (fun (_ : Unit) => .int .u64 r) (fun _ => []) (fun _ => [])) := by
  unfold F17 at H
  refine calls_of_nx [.agg #[.int .u64 a0.c0, .int .u64 a0.c1, .int .u64 a0.c2, .int .u64 a0.c3]] [(0, .agg #[.int .u64 a0.c0, .int .u64 a0.c1, .int .u64 a0.c2, .int .u64 a0.c3])] Try.func17 rfl rfl rfl (Sta.begin w S [] (FactsOK.nil _ _)) ?_
  refine nx_seq (nx_region ?_)
  refine nx_op (by kernel_rfl) (o_box (.agg #[.int .u64 a0.c0, .int .u64 a0.c1, .int .u64 a0.c2, .int .u64 a0.c3]) (by kernel_rfl) rfl (by simp [undef]) (fun b2 => ?_))
  refine nx_run 1 [1, 2] [(1, .pointer (some ⟨b2, 0, none⟩)), (2, .int .u64 0)] (by kernel_rfl) ?_
  refine nx_nil (nx_then (nx_seq (nx_region ?_)))
  refine nx_mem 1 [0] [2, 3] [(2, .int .u64 0), (3, .agg #[.int .u64 a0.c0, .int .u64 a0.c1, .int .u64 a0.c2, .int .u64 a0.c3])] [⟨b2, #[.int .u64 a0.c0, .int .u64 a0.c1, .int .u64 a0.c2, .int .u64 a0.c3], 25⟩] (b2 = b2 ∧ True) (by kernel_rfl) ⟨rfl, trivial⟩ ?_
  obtain ⟨x6, hx7, H⟩ := bind_s H
  refine nx_op (by kernel_rfl) (o_callO (S := S) [.agg #[.int .u64 a0.c0, .int .u64 a0.c1, .int .u64 a0.c2, .int .u64 a0.c3]] (by kernel_rfl) Try.func61 nb61 rfl rfl (fun w' hS => ct61 k a0  _ w'  hx7) (fun g8 => ?_))
  refine nx_run 5 [2] [(2, .int .u64 (wu64 (50 * (wu64 (wi64 ((wi64 (x6 + 7)).tdiv 8))))))] (by kernel_rfl) ?_
  refine nx_nil (nx_then (nx_ret ?_))
  obtain rfl := ret_s H
  exact nx_finish (S := S) (w := w) rfl rfl [.int .u64 (wu64 (50 * (wu64 (wi64 ((wi64 (x6 + 7)).tdiv 8)))))] Try.results17 (.tmp rfl .nil) () rfl [] [] rfl rfl
end Go.Cal
