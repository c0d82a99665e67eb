/- The walk of the function cairn/gas.Keccak: what it computes, as a Lean function, and that each of its calls answers so. Condition: the function gives an answer (some). Printed by program. -/
import Derived.Test.YtcjampbgjjhckaaKB
import Derived.Test.YtcjampbgjjhckaaF8
import Derived.Test.YtcjampbgjjhckaaF60
namespace Go.Cal
open Go Go.RowKit Go.Proofs
set_option maxRecDepth 100000
set_option linter.unusedVariables false
-- cairn/gas.Keccak
def F13 (a0 : C4) : Option (Int × Int) := ((F60 a0).bind (fun x6 => ((F8 x6.1).bind (fun x12 => some ((wu64 (6 * x12)), x6.2)))))
theorem ct13 (a0 : C4) (S : Nat → Prop) (w : World) {r : (Int × Int)} (H : F13 a0 = some r) : Calls Try.prog 13 #[.agg #[.int .u64 a0.c0, .int .u64 a0.c1, .int .u64 a0.c2, .int .u64 a0.c3]] w (Post S w (fun (_ : Unit) => .tuple #[.int .u64 r.1, .int .i64 r.2]) (fun _ => []) (fun _ => [])) := by
  unfold F13 at H
  refine calls_of_nx [.agg #[.int .u64 a0.c0, .int .u64 a0.c1, .int .u64 a0.c2, .int .u64 a0.c3]] [(0, .agg #[.int .u64 a0.c0, .int .u64 a0.c1, .int .u64 a0.c2, .int .u64 a0.c3])] Try.func13 rfl rfl rfl (Sta.begin w S [] (FactsOK.nil _ _)) ?_
  refine nx_seq (nx_region ?_)
  refine nx_op (by kernel_rfl) (o_box (.agg #[.int .u64 a0.c0, .int .u64 a0.c1, .int .u64 a0.c2, .int .u64 a0.c3]) (by kernel_rfl) rfl (by simp [undef]) (fun b2 => ?_))
  refine nx_run 2 [1, 2, 3] [(1, .pointer (some ⟨b2, 0, none⟩)), (2, .int .u64 0), (3, .int .i64 0)] (by kernel_rfl) ?_
  refine nx_nil (nx_then (nx_seq (nx_region ?_)))
  refine nx_mem 1 [0] [2, 3, 7] [(2, .int .u64 0), (3, .int .i64 0), (7, .agg #[.int .u64 a0.c0, .int .u64 a0.c1, .int .u64 a0.c2, .int .u64 a0.c3])] [⟨b2, #[.int .u64 a0.c0, .int .u64 a0.c1, .int .u64 a0.c2, .int .u64 a0.c3], 25⟩] (b2 = b2 ∧ True) (by kernel_rfl) ⟨rfl, trivial⟩ ?_
  obtain ⟨x6, hx7, H⟩ := bind_s H
  refine nx_op (by kernel_rfl) (o_callO (S := S) [.agg #[.int .u64 a0.c0, .int .u64 a0.c1, .int .u64 a0.c2, .int .u64 a0.c3]] (by kernel_rfl) Try.func60 nb60 rfl rfl (fun w' hS => ct60 a0  _ w'  hx7) (fun g8 => ?_))
  refine nx_run 5 [2, 3, 4, 5] [(2, .int .u64 0), (3, .int .i64 0), (4, .int .u64 x6.1), (5, .int .i64 x6.2)] (by kernel_rfl) ?_
  refine nx_nil (nx_then (nx_seq (nx_region ?_)))
  refine nx_run 1 [2, 3, 5, 11] [(2, .int .u64 0), (3, .int .i64 0), (5, .int .i64 x6.2), (11, .int .u64 x6.1)] (by kernel_rfl) ?_
  obtain ⟨x12, hx13, H⟩ := bind_s H
  refine nx_op (by kernel_rfl) (o_callO (S := S) [.int .u64 x6.1] (by kernel_rfl) Try.func8 nb8 rfl rfl (fun w' hS => ct8 x6.1  _ w'  hx13) (fun g14 => ?_))
  refine nx_run 4 [2, 3] [(2, .int .u64 (wu64 (6 * x12))), (3, .int .i64 x6.2)] (by kernel_rfl) ?_
  refine nx_nil (nx_then (nx_ret ?_))
  obtain rfl := ret_s H
  exact nx_finish (S := S) (w := w) rfl rfl [.int .u64 (wu64 (6 * x12)), .int .i64 x6.2] Try.results13 (.tmp rfl (.tmp rfl .nil)) () rfl [] [] rfl rfl
end Go.Cal
