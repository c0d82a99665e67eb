/- The walk of the function cairn/gas.bounded: what it computes, as a Lean function, and that each of its calls answers so. Condition: the function gives an answer (some). Printed by program. -/
import Derived.Test.YtcjampbgjjhckaaKB
import Derived.Test.YtcjampbgjjhckaaF59
namespace Go.Cal
open Go Go.RowKit Go.Proofs
set_option maxRecDepth 100000
set_option linter.unusedVariables false
-- cairn/gas.bounded
def F60 (a0 : C4) : Option (Int × Int) := ((F59 a0).bind (fun x6 => (((bif (!x6.2) then some true else some (decide (x6.1 > 8388608))) : Option Bool)).bind (fun x13 => (bif x13 then some (0, 140) else some (x6.1, 0)))))
theorem ct60 (a0 : C4) (S : Nat → Prop) (w : World) {r : (Int × Int)} (H : F60 a0 = some r) : Calls Try.prog 60 #[.agg #[.int .u64 a0.c0, .int .u64 a0.c1, .int .u64 a0.c2, .int .u64 a0.c3]] w (Post S w (fun (_ : Unit) => .tuple #[.int .u64 r.1, .int .i64 r.2]) (fun _ => []) (fun _ => [])) := by
  unfold F60 at H
  refine calls_of_nx [.agg #[.int .u64 a0.c0, .int .u64 a0.c1, .int .u64 a0.c2, .int .u64 a0.c3]] [(0, .agg #[.int .u64 a0.c0, .int .u64 a0.c1, .int .u64 a0.c2, .int .u64 a0.c3])] Try.func60 rfl rfl rfl (Sta.begin w S [] (FactsOK.nil _ _)) ?_
  refine nx_seq (nx_region ?_)
  refine nx_op (by kernel_rfl) (o_box (.agg #[.int .u64 a0.c0, .int .u64 a0.c1, .int .u64 a0.c2, .int .u64 a0.c3]) (by kernel_rfl) rfl (by simp [undef]) (fun b2 => ?_))
  refine nx_run 2 [1, 2, 3] [(1, .pointer (some ⟨b2, 0, none⟩)), (2, .int .u64 0), (3, .int .i64 0)] (by kernel_rfl) ?_
  refine nx_nil (nx_then (nx_seq (nx_region ?_)))
  refine nx_mem 1 [0] [2, 3, 7] [(2, .int .u64 0), (3, .int .i64 0), (7, .agg #[.int .u64 a0.c0, .int .u64 a0.c1, .int .u64 a0.c2, .int .u64 a0.c3])] [⟨b2, #[.int .u64 a0.c0, .int .u64 a0.c1, .int .u64 a0.c2, .int .u64 a0.c3], 25⟩] (b2 = b2 ∧ True) (by kernel_rfl) ⟨rfl, trivial⟩ ?_
  obtain ⟨x6, hx7, H⟩ := bind_s H
  refine nx_op (by kernel_rfl) (o_callO (S := S) [.agg #[.int .u64 a0.c0, .int .u64 a0.c1, .int .u64 a0.c2, .int .u64 a0.c3]] (by kernel_rfl) Try.func59 nb59 rfl rfl (fun w' hS => ct59 a0  _ w'  hx7) (fun g8 => ?_))
  refine nx_run 5 [2, 3, 4, 5] [(2, .int .u64 0), (3, .int .i64 0), (4, .int .u64 x6.1), (5, .bool x6.2)] (by kernel_rfl) ?_
  refine nx_nil (nx_then (nx_seq ?_))
  obtain ⟨x13, hx14, H⟩ := bind_s H
  refine nx_join (fun t w' => Fr Try.f60.ntmps t [(2, .int .u64 0), (3, .int .i64 0), (4, .int .u64 x6.1), (16, .bool x13)] ∧ Sta [] w w' [⟨b2, #[.int .u64 a0.c0, .int .u64 a0.c1, .int .u64 a0.c2, .int .u64 a0.c3], 25⟩] [] []) ?_ ?_
  · rintro t w' ⟨hF, hS⟩
    refine nx_wp (c := ⟨Try.f60.ntmps, [], w⟩) hF hS ?_
    refine nx_cond (b := x13) rfl (fun hc16 => ?_) (fun hc16 => ?_)
    · have H := cond_t hc16 H
      refine nx_seq (nx_region ?_)
      refine nx_run 2 [2, 3, 4] [(2, .int .u64 0), (3, .int .i64 140), (4, .int .u64 x6.1)] (by kernel_rfl) ?_
      refine nx_nil (nx_then (nx_ret (nx_then_ret ?_)))
      obtain rfl := ret_s H
      exact nx_finish (S := S) (w := w) rfl rfl [.int .u64 0, .int .i64 140] Try.results60 (.tmp rfl (.tmp rfl .nil)) () rfl [] [] rfl rfl
    · have H := cond_f hc16 H
      refine nx_skip (nx_then (nx_seq (nx_region ?_)))
      refine nx_run 3 [2, 3] [(2, .int .u64 x6.1), (3, .int .i64 0)] (by kernel_rfl) ?_
      refine nx_nil (nx_then (nx_ret ?_))
      obtain rfl := ret_s H
      exact nx_finish (S := S) (w := w) rfl rfl [.int .u64 x6.1, .int .i64 0] Try.results60 (.tmp rfl (.tmp rfl .nil)) () rfl [] [] rfl rfl
  · refine nx_region ?_
    refine nx_run 3 [2, 3, 4, 13] [(2, .int .u64 0), (3, .int .i64 0), (4, .int .u64 x6.1), (13, .bool (!x6.2))] (by kernel_rfl) ?_
    refine nx_split ((!x6.2)) (fun hc17 => ?_) (fun hc17 => ?_)
    · have hx14 := cond_t hc17 hx14
      refine nx_put 13 (.bool true) rfl (congrArg Value.bool hc17) ?_
      refine nx_run 3 [2, 3, 4, 16] [(2, .int .u64 0), (3, .int .i64 0), (4, .int .u64 x6.1), (16, .bool true)] (by kernel_rfl) ?_
      refine nx_nil ?_
      refine nx_sel [2, 3, 4, 16] [(2, .int .u64 0), (3, .int .i64 0), (4, .int .u64 x6.1), (16, .bool true)] rfl ?_
      refine nx_meet (fun t w' hF hS => ?_)
      obtain rfl := ret_s hx14
      exact ⟨hF, hS⟩
    · have hx14 := cond_f hc17 hx14
      refine nx_put 13 (.bool false) rfl (congrArg Value.bool hc17) ?_
      refine nx_run 3 [2, 3, 4, 16] [(2, .int .u64 0), (3, .int .i64 0), (4, .int .u64 x6.1), (16, .bool (decide (x6.1 > 8388608)))] (by kernel_rfl) ?_
      refine nx_nil ?_
      refine nx_sel [2, 3, 4, 16] [(2, .int .u64 0), (3, .int .i64 0), (4, .int .u64 x6.1), (16, .bool (decide (x6.1 > 8388608)))] rfl ?_
      refine nx_meet (fun t w' hF hS => ?_)
      obtain rfl := ret_s hx14
      exact ⟨hF, hS⟩
end Go.Cal
