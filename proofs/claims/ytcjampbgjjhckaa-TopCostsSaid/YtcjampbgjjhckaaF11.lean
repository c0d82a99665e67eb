/- The walk of the function cairn/gas.Grow: what it computes, as a Lean function, and that each of its calls answers so. Condition: the function gives an answer (some). Printed by program. -/
import Derived.Test.YtcjampbgjjhckaaKB
import Derived.Test.YtcjampbgjjhckaaF8
import Derived.Test.YtcjampbgjjhckaaF9
import Derived.Test.YtcjampbgjjhckaaF58
import Derived.Test.YtcjampbgjjhckaaF59
namespace Go.Cal
open Go Go.RowKit Go.Proofs
set_option maxRecDepth 100000
set_option linter.unusedVariables false
-- cairn/gas.Grow
def F11 (k : Nat) (a0 : Int) (a1 : C4) (a2 : C4) : Option (Int × Int × Int) := (bif ([a2.c0, a2.c1, a2.c2, a2.c3] == [0, 0, 0, 0]) then some (a0, 0, 0) else ((F58 k a1 a2).bind (fun x11 => ((F59 x11.1).bind (fun x18 => (((bif x11.2 then some true else (bif (!x18.2) then some true else (bif (decide (x18.1 > 8388608)) then some true else some (decide (a0 > 8388608))))) : Option Bool)).bind (fun x29 => (bif x29 then some (0, 0, 140) else ((F8 x18.1).bind (fun x36 => (bif ((if (wu64 (32 * x36)) > a0 then (wu64 (32 * x36)) else a0) == a0) then some (a0, 0, 0) else ((F9 (if (wu64 (32 * x36)) > a0 then (wu64 (32 * x36)) else a0)).bind (fun x47 => ((F9 a0).bind (fun x50 => some ((if (wu64 (32 * x36)) > a0 then (wu64 (32 * x36)) else a0), (wu64 (x47 - x50)), 0)))))))))))))))
theorem ct11 (k : Nat) (a0 : Int) (a1 : C4) (a2 : C4) (S : Nat → Prop) (w : World) {r : (Int × Int × Int)} (H : F11 k a0 a1 a2 = some r) : Calls Try.prog 11 #[.int .u64 a0, .agg #[.int .u64 a1.c0, .int .u64 a1.c1, .int .u64 a1.c2, .int .u64 a1.c3], .agg #[.int .u64 a2.c0, .int .u64 a2.c1, .int .u64 a2.c2, .int .u64 a2.c3]] w (Post S w (fun (_ : Unit) => .tuple #[.int .u64 r.1, .int .u64 r.2.1, .int .i64 r.2.2]) (fun _ => []) (fun _ => [])) := by
  unfold F11 at H
  refine calls_of_nx [.int .u64 a0, .agg #[.int .u64 a1.c0, .int .u64 a1.c1, .int .u64 a1.c2, .int .u64 a1.c3], .agg #[.int .u64 a2.c0, .int .u64 a2.c1, .int .u64 a2.c2, .int .u64 a2.c3]] [(0, .int .u64 a0), (1, .agg #[.int .u64 a1.c0, .int .u64 a1.c1, .int .u64 a1.c2, .int .u64 a1.c3]), (2, .agg #[.int .u64 a2.c0, .int .u64 a2.c1, .int .u64 a2.c2, .int .u64 a2.c3])] Try.func11 rfl rfl rfl (Sta.begin w S [] (FactsOK.nil _ _)) ?_
  refine nx_seq (nx_region ?_)
  refine nx_op (by kernel_rfl) (o_box (.agg #[.int .u64 a1.c0, .int .u64 a1.c1, .int .u64 a1.c2, .int .u64 a1.c3]) (by kernel_rfl) rfl (by simp [undef]) (fun b3 => ?_))
  refine nx_op (by kernel_rfl) (o_box (.agg #[.int .u64 a2.c0, .int .u64 a2.c1, .int .u64 a2.c2, .int .u64 a2.c3]) (by kernel_rfl) rfl (by simp [undef]) (fun b4 => ?_))
  refine nx_run 3 [0, 4, 5, 6, 7, 8] [(0, .int .u64 a0), (4, .pointer (some ⟨b3, 0, none⟩)), (5, .pointer (some ⟨b4, 0, none⟩)), (6, .int .u64 0), (7, .int .u64 0), (8, .int .i64 0)] (by kernel_rfl) ?_
  refine nx_nil (nx_then (nx_seq (nx_seq (nx_region ?_))))
  refine nx_mem 2 [0] [0, 4, 5, 6, 7, 8, 14, 15] [(0, .int .u64 a0), (4, .pointer (some ⟨b3, 0, none⟩)), (5, .pointer (some ⟨b4, 0, none⟩)), (6, .int .u64 0), (7, .int .u64 0), (8, .int .i64 0), (14, .agg #[.int .u64 a2.c0, .int .u64 a2.c1, .int .u64 a2.c2, .int .u64 a2.c3]), (15, .agg #[.int .u64 0, .int .u64 0, .int .u64 0, .int .u64 0])] [⟨b4, #[.int .u64 a2.c0, .int .u64 a2.c1, .int .u64 a2.c2, .int .u64 a2.c3], 25⟩, ⟨b3, #[.int .u64 a1.c0, .int .u64 a1.c1, .int .u64 a1.c2, .int .u64 a1.c3], 25⟩] (b4 = b4 ∧ True) (by kernel_rfl) ⟨rfl, trivial⟩ ?_
  refine nx_op (by kernel_rfl) (o_rv rfl (by kernel_rfl) (rv_eqArr .u64 .u64 (n := 4) (e := 23) [a2.c0, a2.c1, a2.c2, a2.c3] [0, 0, 0, 0] (by kernel_rfl) (by kernel_rfl) (by kernel_rfl) (by kernel_rfl) rfl rfl rfl rfl) ?_)
  refine nx_nil (nx_then ?_)
  refine nx_cond (b := ([a2.c0, a2.c1, a2.c2, a2.c3] == [0, 0, 0, 0])) rfl (fun hc6 => ?_) (fun hc6 => ?_)
  · have H := cond_t hc6 H
    refine nx_seq (nx_region ?_)
    refine nx_run 4 [0, 4, 5, 6, 7, 8] [(0, .int .u64 a0), (4, .pointer (some ⟨b3, 0, none⟩)), (5, .pointer (some ⟨b4, 0, none⟩)), (6, .int .u64 a0), (7, .int .u64 0), (8, .int .i64 0)] (by kernel_rfl) ?_
    refine nx_nil (nx_then (nx_ret (nx_then_ret ?_)))
    obtain rfl := ret_s H
    exact nx_finish (S := S) (w := w) rfl rfl [.int .u64 a0, .int .u64 0, .int .i64 0] Try.results11 (.tmp rfl (.tmp rfl (.tmp rfl .nil))) () rfl [] [] rfl rfl
  · have H := cond_f hc6 H
    refine nx_skip (nx_then (nx_seq (nx_region ?_)))
    refine nx_mem 2 [1, 0] [0, 6, 7, 8, 19, 20] [(0, .int .u64 a0), (6, .int .u64 0), (7, .int .u64 0), (8, .int .i64 0), (19, .agg #[.int .u64 a1.c0, .int .u64 a1.c1, .int .u64 a1.c2, .int .u64 a1.c3]), (20, .agg #[.int .u64 a2.c0, .int .u64 a2.c1, .int .u64 a2.c2, .int .u64 a2.c3])] [⟨b4, #[.int .u64 a2.c0, .int .u64 a2.c1, .int .u64 a2.c2, .int .u64 a2.c3], 25⟩, ⟨b3, #[.int .u64 a1.c0, .int .u64 a1.c1, .int .u64 a1.c2, .int .u64 a1.c3], 25⟩] (b4 = b4 ∧ b3 = b3 ∧ True) (by kernel_rfl) ⟨rfl, rfl, trivial⟩ ?_
    obtain ⟨x11, hx12, H⟩ := bind_s H
    refine nx_op (by kernel_rfl) (o_callO (S := S) [.agg #[.int .u64 a1.c0, .int .u64 a1.c1, .int .u64 a1.c2, .int .u64 a1.c3], .agg #[.int .u64 a2.c0, .int .u64 a2.c1, .int .u64 a2.c2, .int .u64 a2.c3]] (by kernel_rfl) Try.func58 nb58 rfl rfl (fun w' hS => ct58 k a1 a2  _ w'  hx12) (fun g13 => ?_))
    refine nx_run 3 [0, 6, 7, 8, 22, 23] [(0, .int .u64 a0), (6, .int .u64 0), (7, .int .u64 0), (8, .int .i64 0), (22, .agg #[.int .u64 x11.1.c0, .int .u64 x11.1.c1, .int .u64 x11.1.c2, .int .u64 x11.1.c3]), (23, .bool x11.2)] (by kernel_rfl) ?_
    refine nx_op (by kernel_rfl) (o_alloc (.agg #[.int .u64 0, .int .u64 0, .int .u64 0, .int .u64 0]) (by kernel_rfl) (by kernel_rfl) (fun b14 => ?_))
    refine nx_mem 2 [0] [0, 6, 7, 8, 9, 10] [(0, .int .u64 a0), (6, .int .u64 0), (7, .int .u64 0), (8, .int .i64 0), (9, .pointer (some ⟨b14, 0, none⟩)), (10, .bool x11.2)] [⟨b14, #[.int .u64 x11.1.c0, .int .u64 x11.1.c1, .int .u64 x11.1.c2, .int .u64 x11.1.c3], 25⟩, ⟨b4, #[.int .u64 a2.c0, .int .u64 a2.c1, .int .u64 a2.c2, .int .u64 a2.c3], 25⟩, ⟨b3, #[.int .u64 a1.c0, .int .u64 a1.c1, .int .u64 a1.c2, .int .u64 a1.c3], 25⟩] (b14 = b14 ∧ True) (by kernel_rfl) ⟨rfl, trivial⟩ ?_
    refine nx_nil (nx_then (nx_seq (nx_region ?_)))
    refine nx_mem 1 [0] [0, 6, 7, 8, 10, 25] [(0, .int .u64 a0), (6, .int .u64 0), (7, .int .u64 0), (8, .int .i64 0), (10, .bool x11.2), (25, .agg #[.int .u64 x11.1.c0, .int .u64 x11.1.c1, .int .u64 x11.1.c2, .int .u64 x11.1.c3])] [⟨b14, #[.int .u64 x11.1.c0, .int .u64 x11.1.c1, .int .u64 x11.1.c2, .int .u64 x11.1.c3], 25⟩, ⟨b4, #[.int .u64 a2.c0, .int .u64 a2.c1, .int .u64 a2.c2, .int .u64 a2.c3], 25⟩, ⟨b3, #[.int .u64 a1.c0, .int .u64 a1.c1, .int .u64 a1.c2, .int .u64 a1.c3], 25⟩] (b14 = b14 ∧ True) (by kernel_rfl) ⟨rfl, trivial⟩ ?_
    obtain ⟨x18, hx19, H⟩ := bind_s H
    refine nx_op (by kernel_rfl) (o_callO (S := S) [.agg #[.int .u64 x11.1.c0, .int .u64 x11.1.c1, .int .u64 x11.1.c2, .int .u64 x11.1.c3]] (by kernel_rfl) Try.func59 nb59 rfl rfl (fun w' hS => ct59 x11.1  _ w'  hx19) (fun g20 => ?_))
    refine nx_run 5 [0, 6, 7, 8, 10, 11, 12] [(0, .int .u64 a0), (6, .int .u64 0), (7, .int .u64 0), (8, .int .i64 0), (10, .bool x11.2), (11, .int .u64 x18.1), (12, .bool x18.2)] (by kernel_rfl) ?_
    refine nx_nil (nx_then (nx_seq ?_))
    obtain ⟨x29, hx30, H⟩ := bind_s H
    refine nx_join (fun t w' => Fr Try.f11.ntmps t [(0, .int .u64 a0), (6, .int .u64 0), (7, .int .u64 0), (8, .int .i64 0), (11, .int .u64 x18.1), (41, .bool x29)] ∧ Sta [] w w' [⟨b14, #[.int .u64 x11.1.c0, .int .u64 x11.1.c1, .int .u64 x11.1.c2, .int .u64 x11.1.c3], 25⟩, ⟨b4, #[.int .u64 a2.c0, .int .u64 a2.c1, .int .u64 a2.c2, .int .u64 a2.c3], 25⟩, ⟨b3, #[.int .u64 a1.c0, .int .u64 a1.c1, .int .u64 a1.c2, .int .u64 a1.c3], 25⟩] [] []) ?_ ?_
    · rintro t w' ⟨hF, hS⟩
      refine nx_wp (c := ⟨Try.f11.ntmps, [], w⟩) hF hS ?_
      refine nx_cond (b := x29) rfl (fun hc32 => ?_) (fun hc32 => ?_)
      · have H := cond_t hc32 H
        refine nx_seq (nx_region ?_)
        refine nx_run 3 [0, 6, 7, 8, 11] [(0, .int .u64 a0), (6, .int .u64 0), (7, .int .u64 0), (8, .int .i64 140), (11, .int .u64 x18.1)] (by kernel_rfl) ?_
        refine nx_nil (nx_then (nx_ret (nx_then_ret ?_)))
        obtain rfl := ret_s H
        exact nx_finish (S := S) (w := w) rfl rfl [.int .u64 0, .int .u64 0, .int .i64 140] Try.results11 (.tmp rfl (.tmp rfl (.tmp rfl .nil))) () rfl [] [] rfl rfl
      · have H := cond_f hc32 H
        refine nx_skip (nx_then (nx_seq (nx_region ?_)))
        refine nx_run 2 [0, 6, 7, 8, 42, 43] [(0, .int .u64 a0), (6, .int .u64 0), (7, .int .u64 0), (8, .int .i64 0), (42, .int .u64 a0), (43, .int .u64 x18.1)] (by kernel_rfl) ?_
        obtain ⟨x36, hx37, H⟩ := bind_s H
        refine nx_op (by kernel_rfl) (o_callO (S := S) [.int .u64 x18.1] (by kernel_rfl) Try.func8 nb8 rfl rfl (fun w' hS => ct8 x18.1  _ w'  hx37) (fun g38 => ?_))
        refine nx_run 3 [0, 6, 7, 8, 13] [(0, .int .u64 a0), (6, .int .u64 0), (7, .int .u64 0), (8, .int .i64 0), (13, .int .u64 (if (wu64 (32 * x36)) > a0 then (wu64 (32 * x36)) else a0))] (by kernel_rfl) ?_
        refine nx_nil (nx_then (nx_seq (nx_seq (nx_region ?_))))
        refine nx_run 3 [0, 6, 7, 8, 13, 49] [(0, .int .u64 a0), (6, .int .u64 0), (7, .int .u64 0), (8, .int .i64 0), (13, .int .u64 (if (wu64 (32 * x36)) > a0 then (wu64 (32 * x36)) else a0)), (49, .bool ((if (wu64 (32 * x36)) > a0 then (wu64 (32 * x36)) else a0) == a0))] (by kernel_rfl) ?_
        refine nx_nil (nx_then ?_)
        refine nx_cond (b := ((if (wu64 (32 * x36)) > a0 then (wu64 (32 * x36)) else a0) == a0)) rfl (fun hc40 => ?_) (fun hc40 => ?_)
        · have H := cond_t hc40 H
          refine nx_seq (nx_region ?_)
          refine nx_run 4 [0, 6, 7, 8, 13] [(0, .int .u64 a0), (6, .int .u64 a0), (7, .int .u64 0), (8, .int .i64 0), (13, .int .u64 (if (wu64 (32 * x36)) > a0 then (wu64 (32 * x36)) else a0))] (by kernel_rfl) ?_
          refine nx_nil (nx_then (nx_ret (nx_then_ret ?_)))
          obtain rfl := ret_s H
          exact nx_finish (S := S) (w := w) rfl rfl [.int .u64 a0, .int .u64 0, .int .i64 0] Try.results11 (.tmp rfl (.tmp rfl (.tmp rfl .nil))) () rfl [] [] rfl rfl
        · have H := cond_f hc40 H
          refine nx_skip (nx_then (nx_seq (nx_region ?_)))
          refine nx_run 2 [0, 6, 7, 8, 51, 52] [(0, .int .u64 a0), (6, .int .u64 0), (7, .int .u64 0), (8, .int .i64 0), (51, .int .u64 (if (wu64 (32 * x36)) > a0 then (wu64 (32 * x36)) else a0)), (52, .int .u64 (if (wu64 (32 * x36)) > a0 then (wu64 (32 * x36)) else a0))] (by kernel_rfl) ?_
          obtain ⟨x47, hx48, H⟩ := bind_s H
          refine nx_op (by kernel_rfl) (o_callO (S := S) [.int .u64 (if (wu64 (32 * x36)) > a0 then (wu64 (32 * x36)) else a0)] (by kernel_rfl) Try.func9 nb9 rfl rfl (fun w' hS => ct9 (if (wu64 (32 * x36)) > a0 then (wu64 (32 * x36)) else a0)  _ w'  hx48) (fun g49 => ?_))
          refine nx_run 1 [6, 7, 8, 51, 53, 54] [(6, .int .u64 0), (7, .int .u64 0), (8, .int .i64 0), (51, .int .u64 (if (wu64 (32 * x36)) > a0 then (wu64 (32 * x36)) else a0)), (53, .int .u64 x47), (54, .int .u64 a0)] (by kernel_rfl) ?_
          obtain ⟨x50, hx51, H⟩ := bind_s H
          refine nx_op (by kernel_rfl) (o_callO (S := S) [.int .u64 a0] (by kernel_rfl) Try.func9 nb9 rfl rfl (fun w' hS => ct9 a0  _ w'  hx51) (fun g52 => ?_))
          refine nx_run 4 [6, 7, 8] [(6, .int .u64 (if (wu64 (32 * x36)) > a0 then (wu64 (32 * x36)) else a0)), (7, .int .u64 (wu64 (x47 - x50))), (8, .int .i64 0)] (by kernel_rfl) ?_
          refine nx_nil (nx_then (nx_ret ?_))
          obtain rfl := ret_s H
          exact nx_finish (S := S) (w := w) rfl rfl [.int .u64 (if (wu64 (32 * x36)) > a0 then (wu64 (32 * x36)) else a0), .int .u64 (wu64 (x47 - x50)), .int .i64 0] Try.results11 (.tmp rfl (.tmp rfl (.tmp rfl .nil))) () rfl [] [] rfl rfl
    · refine nx_region ?_
      refine nx_run 2 [0, 6, 7, 8, 11, 12, 30] [(0, .int .u64 a0), (6, .int .u64 0), (7, .int .u64 0), (8, .int .i64 0), (11, .int .u64 x18.1), (12, .bool x18.2), (30, .bool x11.2)] (by kernel_rfl) ?_
      refine nx_split (x11.2) (fun hc53 => ?_) (fun hc53 => ?_)
      · have hx30 := cond_t hc53 hx30
        refine nx_put 30 (.bool true) rfl (congrArg Value.bool hc53) ?_
        refine nx_run 11 [0, 6, 7, 8, 11, 41] [(0, .int .u64 a0), (6, .int .u64 0), (7, .int .u64 0), (8, .int .i64 0), (11, .int .u64 x18.1), (41, .bool true)] (by kernel_rfl) ?_
        refine nx_nil ?_
        refine nx_sel [0, 6, 7, 8, 11, 41] [(0, .int .u64 a0), (6, .int .u64 0), (7, .int .u64 0), (8, .int .i64 0), (11, .int .u64 x18.1), (41, .bool true)] rfl ?_
        refine nx_meet (fun t w' hF hS => ?_)
        obtain rfl := ret_s hx30
        exact ⟨hF, hS⟩
      · have hx30 := cond_f hc53 hx30
        refine nx_put 30 (.bool false) rfl (congrArg Value.bool hc53) ?_
        refine nx_run 4 [0, 6, 7, 8, 11, 34] [(0, .int .u64 a0), (6, .int .u64 0), (7, .int .u64 0), (8, .int .i64 0), (11, .int .u64 x18.1), (34, .bool (!x18.2))] (by kernel_rfl) ?_
        refine nx_split ((!x18.2)) (fun hc54 => ?_) (fun hc54 => ?_)
        · have hx30 := cond_t hc54 hx30
          refine nx_put 34 (.bool true) rfl (congrArg Value.bool hc54) ?_
          refine nx_run 7 [0, 6, 7, 8, 11, 41] [(0, .int .u64 a0), (6, .int .u64 0), (7, .int .u64 0), (8, .int .i64 0), (11, .int .u64 x18.1), (41, .bool true)] (by kernel_rfl) ?_
          refine nx_nil ?_
          refine nx_sel [0, 6, 7, 8, 11, 41] [(0, .int .u64 a0), (6, .int .u64 0), (7, .int .u64 0), (8, .int .i64 0), (11, .int .u64 x18.1), (41, .bool true)] rfl ?_
          refine nx_meet (fun t w' hF hS => ?_)
          obtain rfl := ret_s hx30
          exact ⟨hF, hS⟩
        · have hx30 := cond_f hc54 hx30
          refine nx_put 34 (.bool false) rfl (congrArg Value.bool hc54) ?_
          refine nx_run 4 [0, 6, 7, 8, 11, 38] [(0, .int .u64 a0), (6, .int .u64 0), (7, .int .u64 0), (8, .int .i64 0), (11, .int .u64 x18.1), (38, .bool (decide (x18.1 > 8388608)))] (by kernel_rfl) ?_
          refine nx_split ((decide (x18.1 > 8388608))) (fun hc55 => ?_) (fun hc55 => ?_)
          · have hx30 := cond_t hc55 hx30
            refine nx_put 38 (.bool true) rfl (congrArg Value.bool hc55) ?_
            refine nx_run 3 [0, 6, 7, 8, 11, 41] [(0, .int .u64 a0), (6, .int .u64 0), (7, .int .u64 0), (8, .int .i64 0), (11, .int .u64 x18.1), (41, .bool true)] (by kernel_rfl) ?_
            refine nx_nil ?_
            refine nx_sel [0, 6, 7, 8, 11, 41] [(0, .int .u64 a0), (6, .int .u64 0), (7, .int .u64 0), (8, .int .i64 0), (11, .int .u64 x18.1), (41, .bool true)] rfl ?_
            refine nx_meet (fun t w' hF hS => ?_)
            obtain rfl := ret_s hx30
            exact ⟨hF, hS⟩
          · have hx30 := cond_f hc55 hx30
            refine nx_put 38 (.bool false) rfl (congrArg Value.bool hc55) ?_
            refine nx_run 3 [0, 6, 7, 8, 11, 41] [(0, .int .u64 a0), (6, .int .u64 0), (7, .int .u64 0), (8, .int .i64 0), (11, .int .u64 x18.1), (41, .bool (decide (a0 > 8388608)))] (by kernel_rfl) ?_
            refine nx_nil ?_
            refine nx_sel [0, 6, 7, 8, 11, 41] [(0, .int .u64 a0), (6, .int .u64 0), (7, .int .u64 0), (8, .int .i64 0), (11, .int .u64 x18.1), (41, .bool (decide (a0 > 8388608)))] rfl ?_
            refine nx_meet (fun t w' hF hS => ?_)
            obtain rfl := ret_s hx30
            exact ⟨hF, hS⟩
end Go.Cal
