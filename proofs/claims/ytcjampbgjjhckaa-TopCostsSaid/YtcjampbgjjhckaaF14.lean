/- The walk of the function cairn/gas.Log: what it computes, as a Lean function, and that each of its calls answers so. Condition: the function gives an answer (some). Printed by program. -/
import Derived.Test.YtcjampbgjjhckaaKB
import Derived.Test.YtcjampbgjjhckaaF60
namespace Go.Cal
open Go Go.RowKit Go.Proofs
set_option maxRecDepth 100000
set_option linter.unusedVariables false
-- cairn/gas.Log
def F14 (a0 : Int) (a1 : C4) : Option (Int × Int) := (((bif (decide (a0 < 0)) then some true else some (decide (a0 > 4))) : Option Bool)).bind (fun x8 => (bif x8 then some (0, 1) else ((F60 a1).bind (fun x15 => (bif (x15.2 != 0) then some (0, x15.2) else some ((wu64 ((wu64 (375 * (wu64 a0))) + (wu64 (8 * x15.1)))), 0))))))
theorem ct14 (a0 : Int) (a1 : C4) (S : Nat → Prop) (w : World) {r : (Int × Int)} (H : F14 a0 a1 = some r) : Calls Try.prog 14 #[.int .i64 a0, .agg #[.int .u64 a1.c0, .int .u64 a1.c1, .int .u64 a1.c2, .int .u64 a1.c3]] w (Post S w (fun (_ : Unit) => .tuple #[.int .u64 r.1, .int .i64 r.2]) (fun _ => []) (fun _ => [])) := by
  unfold F14 at H
  refine calls_of_nx [.int .i64 a0, .agg #[.int .u64 a1.c0, .int .u64 a1.c1, .int .u64 a1.c2, .int .u64 a1.c3]] [(0, .int .i64 a0), (1, .agg #[.int .u64 a1.c0, .int .u64 a1.c1, .int .u64 a1.c2, .int .u64 a1.c3])] Try.func14 rfl rfl rfl (Sta.begin w S [] (FactsOK.nil _ _)) ?_
  refine nx_seq (nx_region ?_)
  refine nx_op (by kernel_rfl) (o_box (.agg #[.int .u64 a1.c0, .int .u64 a1.c1, .int .u64 a1.c2, .int .u64 a1.c3]) (by kernel_rfl) rfl (by simp [undef]) (fun b2 => ?_))
  refine nx_run 2 [0, 3, 4, 5] [(0, .int .i64 a0), (3, .pointer (some ⟨b2, 0, none⟩)), (4, .int .u64 0), (5, .int .i64 0)] (by kernel_rfl) ?_
  refine nx_nil (nx_then (nx_seq ?_))
  obtain ⟨x8, hx9, H⟩ := bind_s H
  refine nx_join (fun t w' => Fr Try.f14.ntmps t [(0, .int .i64 a0), (3, .pointer (some ⟨b2, 0, none⟩)), (4, .int .u64 0), (5, .int .i64 0), (13, .bool x8)] ∧ Sta [] w w' [⟨b2, #[.int .u64 a1.c0, .int .u64 a1.c1, .int .u64 a1.c2, .int .u64 a1.c3], 25⟩] [] []) ?_ ?_
  · rintro t w' ⟨hF, hS⟩
    refine nx_wp (c := ⟨Try.f14.ntmps, [], w⟩) hF hS ?_
    refine nx_cond (b := x8) rfl (fun hc11 => ?_) (fun hc11 => ?_)
    · have H := cond_t hc11 H
      refine nx_seq (nx_region ?_)
      refine nx_run 2 [0, 3, 4, 5] [(0, .int .i64 a0), (3, .pointer (some ⟨b2, 0, none⟩)), (4, .int .u64 0), (5, .int .i64 1)] (by kernel_rfl) ?_
      refine nx_nil (nx_then (nx_ret (nx_then_ret ?_)))
      obtain rfl := ret_s H
      exact nx_finish (S := S) (w := w) rfl rfl [.int .u64 0, .int .i64 1] Try.results14 (.tmp rfl (.tmp rfl .nil)) () rfl [] [] rfl rfl
    · have H := cond_f hc11 H
      refine nx_skip (nx_then (nx_seq (nx_region ?_)))
      refine nx_mem 1 [0] [0, 4, 5, 15] [(0, .int .i64 a0), (4, .int .u64 0), (5, .int .i64 0), (15, .agg #[.int .u64 a1.c0, .int .u64 a1.c1, .int .u64 a1.c2, .int .u64 a1.c3])] [⟨b2, #[.int .u64 a1.c0, .int .u64 a1.c1, .int .u64 a1.c2, .int .u64 a1.c3], 25⟩] (b2 = b2 ∧ True) (by kernel_rfl) ⟨rfl, trivial⟩ ?_
      obtain ⟨x15, hx16, H⟩ := bind_s H
      refine nx_op (by kernel_rfl) (o_callO (S := S) [.agg #[.int .u64 a1.c0, .int .u64 a1.c1, .int .u64 a1.c2, .int .u64 a1.c3]] (by kernel_rfl) Try.func60 nb60 rfl rfl (fun w' hS => ct60 a1  _ w'  hx16) (fun g17 => ?_))
      refine nx_run 5 [0, 4, 5, 6, 7] [(0, .int .i64 a0), (4, .int .u64 0), (5, .int .i64 0), (6, .int .u64 x15.1), (7, .int .i64 x15.2)] (by kernel_rfl) ?_
      refine nx_nil (nx_then (nx_seq (nx_seq (nx_region ?_))))
      refine nx_run 2 [0, 4, 5, 6, 7, 20] [(0, .int .i64 a0), (4, .int .u64 0), (5, .int .i64 0), (6, .int .u64 x15.1), (7, .int .i64 x15.2), (20, .bool (x15.2 != 0))] (by kernel_rfl) ?_
      refine nx_nil (nx_then ?_)
      refine nx_cond (b := (x15.2 != 0)) rfl (fun hc19 => ?_) (fun hc19 => ?_)
      · have H := cond_t hc19 H
        refine nx_seq (nx_region ?_)
        refine nx_run 3 [0, 4, 5, 6] [(0, .int .i64 a0), (4, .int .u64 0), (5, .int .i64 x15.2), (6, .int .u64 x15.1)] (by kernel_rfl) ?_
        refine nx_nil (nx_then (nx_ret (nx_then_ret ?_)))
        obtain rfl := ret_s H
        exact nx_finish (S := S) (w := w) rfl rfl [.int .u64 0, .int .i64 x15.2] Try.results14 (.tmp rfl (.tmp rfl .nil)) () rfl [] [] rfl rfl
      · have H := cond_f hc19 H
        refine nx_skip (nx_then (nx_seq (nx_region ?_)))
        refine nx_run 8 [4, 5] [(4, .int .u64 (wu64 ((wu64 (375 * (wu64 a0))) + (wu64 (8 * x15.1))))), (5, .int .i64 0)] (by kernel_rfl) ?_
        refine nx_nil (nx_then (nx_ret ?_))
        obtain rfl := ret_s H
        exact nx_finish (S := S) (w := w) rfl rfl [.int .u64 (wu64 ((wu64 (375 * (wu64 a0))) + (wu64 (8 * x15.1)))), .int .i64 0] Try.results14 (.tmp rfl (.tmp rfl .nil)) () rfl [] [] rfl rfl
  · refine nx_region ?_
    refine nx_run 3 [0, 3, 4, 5, 10] [(0, .int .i64 a0), (3, .pointer (some ⟨b2, 0, none⟩)), (4, .int .u64 0), (5, .int .i64 0), (10, .bool (decide (a0 < 0)))] (by kernel_rfl) ?_
    refine nx_split ((decide (a0 < 0))) (fun hc20 => ?_) (fun hc20 => ?_)
    · have hx9 := cond_t hc20 hx9
      refine nx_put 10 (.bool true) rfl (congrArg Value.bool hc20) ?_
      refine nx_run 3 [0, 3, 4, 5, 13] [(0, .int .i64 a0), (3, .pointer (some ⟨b2, 0, none⟩)), (4, .int .u64 0), (5, .int .i64 0), (13, .bool true)] (by kernel_rfl) ?_
      refine nx_nil ?_
      refine nx_sel [0, 3, 4, 5, 13] [(0, .int .i64 a0), (3, .pointer (some ⟨b2, 0, none⟩)), (4, .int .u64 0), (5, .int .i64 0), (13, .bool true)] rfl ?_
      refine nx_meet (fun t w' hF hS => ?_)
      obtain rfl := ret_s hx9
      exact ⟨hF, hS⟩
    · have hx9 := cond_f hc20 hx9
      refine nx_put 10 (.bool false) rfl (congrArg Value.bool hc20) ?_
      refine nx_run 3 [0, 3, 4, 5, 13] [(0, .int .i64 a0), (3, .pointer (some ⟨b2, 0, none⟩)), (4, .int .u64 0), (5, .int .i64 0), (13, .bool (decide (a0 > 4)))] (by kernel_rfl) ?_
      refine nx_nil ?_
      refine nx_sel [0, 3, 4, 5, 13] [(0, .int .i64 a0), (3, .pointer (some ⟨b2, 0, none⟩)), (4, .int .u64 0), (5, .int .i64 0), (13, .bool (decide (a0 > 4)))] rfl ?_
      refine nx_meet (fun t w' hF hS => ?_)
      obtain rfl := ret_s hx9
      exact ⟨hF, hS⟩
end Go.Cal
