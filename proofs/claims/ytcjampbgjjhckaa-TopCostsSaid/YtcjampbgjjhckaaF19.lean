/- The walk of the function cairn/cairntop.wordNat: what it computes, as a Lean function, and that each of its calls answers so. Condition: the function gives an answer (some). Printed by program. -/
import Derived.Test.YtcjampbgjjhckaaKB
import Derived.Test.YtcjampbgjjhckaaF51
namespace Go.Cal
open Go Go.RowKit Go.Proofs
set_option maxRecDepth 100000
set_option linter.unusedVariables false
-- cairn/cairntop.wordNat
def F19 (k : Nat) (a0 : C4) : Option (List Int) := ((F51 k [a0.c0, a0.c1, a0.c2, a0.c3]).bind (fun x11 => some x11))
theorem ct19 (k : Nat) (a0 : C4) (S : Nat → Prop) (w : World) {r : (List Int)} (H : F19 k a0 = some r) : Calls Try.prog 19 #[.agg #[.int .u64 a0.c0, .int .u64 a0.c1, .int .u64 a0.c2, .int .u64 a0.c3]] w (Post S w (fun (x : (Option Addr × Nat)) => .slice x.1 r.length x.2) (fun _ => []) (fun x => [rdI x.1 x.2 .u32 r])) := by
  unfold F19 at H
  refine calls_of_nx [.agg #[.int .u64 a0.c0, .int .u64 a0.c1, .int .u64 a0.c2, .int .u64 a0.c3]] [(0, .agg #[.int .u64 a0.c0, .int .u64 a0.c1, .int .u64 a0.c2, .int .u64 a0.c3])] Try.func19 rfl rfl rfl (Sta.begin w S [] (FactsOK.nil _ _)) ?_
  refine nx_seq (nx_region ?_)
  refine nx_op (by kernel_rfl) (o_box (.agg #[.int .u64 a0.c0, .int .u64 a0.c1, .int .u64 a0.c2, .int .u64 a0.c3]) (by kernel_rfl) rfl (by simp [undef]) (fun b2 => ?_))
  refine nx_run 1 [1, 2] [(1, .pointer (some ⟨b2, 0, none⟩)), (2, .slice none 0 0)] (by kernel_rfl) ?_
  refine nx_nil (nx_then (nx_seq (nx_region ?_)))
  refine nx_mem 8 [0, 0, 0, 0] [2, 4, 6, 8, 10] [(2, .slice none 0 0), (4, .int .u64 a0.c0), (6, .int .u64 a0.c1), (8, .int .u64 a0.c2), (10, .int .u64 a0.c3)] [⟨b2, #[.int .u64 a0.c0, .int .u64 a0.c1, .int .u64 a0.c2, .int .u64 a0.c3], 25⟩] (b2 = b2 ∧ b2 = b2 ∧ b2 = b2 ∧ b2 = b2 ∧ True) (by kernel_rfl) ⟨rfl, rfl, rfl, rfl, trivial⟩ ?_
  refine nx_op (by kernel_rfl) (o_lit (e := 23) [.int .u64 a0.c0, .int .u64 a0.c1, .int .u64 a0.c2, .int .u64 a0.c3] (by kernel_rfl) rfl (fun _ => by kernel_rfl) (fun b9 => ?_))
  obtain ⟨x11, hx12, H⟩ := bind_s H
  refine nx_shareB' (S := S) 0 rfl rfl 0 (ints .u64 [a0.c0, a0.c1, a0.c2, a0.c3]) 4 rfl (Nat.le_of_ble_eq_true rfl) ?_
  refine nx_op (by kernel_rfl) (o_callG (S := S) [.slice (some ⟨b9, 0, none⟩) 4 4] (by kernel_rfl) Try.func51 nb51 rfl rfl (fun w' hS => ct51 k [a0.c0, a0.c1, a0.c2, a0.c3] (some ⟨b9, 0, none⟩) 4 _ w' (prem hS 0 rfl) hx12) (fun g13 => ?_))
  refine nx_run 1 [2] [(2, .slice g13.1 x11.length g13.2)] (by kernel_rfl) ?_
  refine nx_nil (nx_then (nx_ret ?_))
  obtain rfl := ret_s H
  exact nx_finish (S := S) (w := w) rfl rfl [.slice g13.1 x11.length g13.2] Try.results19 (.tmp rfl .nil) (g13.1, g13.2) rfl [] [true, false] rfl rfl
end Go.Cal
