/- The walk of the function cairn/word.Bits: what it computes, as a Lean function, and that each of its calls answers so. Condition: the function gives an answer (some). Printed by program. -/
import Derived.Test.YtcjampbgjjhckaaKB
import Derived.Test.YtcjampbgjjhckaaF124
namespace Go.Cal
open Go Go.RowKit Go.Proofs
set_option maxRecDepth 100000
set_option linter.unusedVariables false
-- cairn/word.Bits
def F61 (k : Nat) (a0 : C4) : Option (Int) := (bif (a0.c3 != 0) then ((F124 a0.c3).bind (fun x59 => some (wi64 (192 + x59)))) else (bif (a0.c2 != 0) then ((F124 a0.c2).bind (fun x70 => some (wi64 (128 + x70)))) else (bif (a0.c1 != 0) then ((F124 a0.c1).bind (fun x81 => some (wi64 (64 + x81)))) else (bif (a0.c0 != 0) then ((F124 a0.c0).bind (fun x92 => some (wi64 (0 + x92)))) else some 0))))
theorem ct61 (k : Nat) (a0 : C4) (S : Nat → Prop) (w : World) {r : (Int)} (H : F61 k a0 = some r) : Calls Try.prog 61 #[.agg #[.int .u64 a0.c0, .int .u64 a0.c1, .int .u64 a0.c2, .int .u64 a0.c3]] w (Post S w (fun (_ : Unit) => .int .i64 r) (fun _ => []) (fun _ => [])) := by
  unfold F61 at H
  refine calls_of_nx [.agg #[.int .u64 a0.c0, .int .u64 a0.c1, .int .u64 a0.c2, .int .u64 a0.c3]] [(0, .agg #[.int .u64 a0.c0, .int .u64 a0.c1, .int .u64 a0.c2, .int .u64 a0.c3])] Try.func61 rfl rfl rfl (Sta.begin w S [] (FactsOK.nil _ _)) ?_
  refine nx_seq (nx_region ?_)
  refine nx_op (by kernel_rfl) (o_box (.agg #[.int .u64 a0.c0, .int .u64 a0.c1, .int .u64 a0.c2, .int .u64 a0.c3]) (by kernel_rfl) rfl (by simp [undef]) (fun b2 => ?_))
  refine nx_run 1 [1, 2] [(1, .pointer (some ⟨b2, 0, none⟩)), (2, .int .i64 0)] (by kernel_rfl) ?_
  refine nx_nil (nx_then (nx_seq (nx_seq (nx_region ?_))))
  refine nx_run 1 [1, 2, 3] [(1, .pointer (some ⟨b2, 0, none⟩)), (2, .int .i64 0), (3, .int .i64 3)] (by kernel_rfl) ?_
  refine nx_nil (nx_then (nx_block (nx_unroll 18 (nx_round (nx_seq (nx_seq (nx_region ?_)))))))
  refine nx_run 2 [1, 2, 3, 4, 5] [(1, .pointer (some ⟨b2, 0, none⟩)), (2, .int .i64 0), (3, .int .i64 3), (4, .int .i64 3), (5, .bool true)] (by kernel_rfl) ?_
  refine nx_nil (nx_then ?_)
  refine nx_cond (b := true) rfl (fun _ => ?_) (fun h => nomatch h)
  refine nx_skip (nx_then (nx_seq (nx_block (nx_seq (nx_region ?_)))))
  refine nx_mem 4 [0] [1, 2, 3, 4, 5, 8, 9, 10, 11] [(1, .pointer (some ⟨b2, 0, none⟩)), (2, .int .i64 0), (3, .int .i64 3), (4, .int .i64 3), (5, .bool true), (8, .int .i64 3), (9, .pointer (some ⟨b2, 3, none⟩)), (10, .int .u64 a0.c3), (11, .bool (a0.c3 != 0))] [⟨b2, #[.int .u64 a0.c0, .int .u64 a0.c1, .int .u64 a0.c2, .int .u64 a0.c3], 25⟩] (b2 = b2 ∧ True) (by kernel_rfl) ⟨rfl, trivial⟩ ?_
  refine nx_nil (nx_then ?_)
  refine nx_cond (b := (a0.c3 != 0)) rfl (fun hc55 => ?_) (fun hc55 => ?_)
  · have H := cond_t hc55 H
    refine nx_seq (nx_region ?_)
    refine nx_mem 5 [0] [1, 2, 3, 4, 5, 8, 9, 10, 11, 12, 13, 14, 15, 16] [(1, .pointer (some ⟨b2, 0, none⟩)), (2, .int .i64 0), (3, .int .i64 3), (4, .int .i64 3), (5, .bool true), (8, .int .i64 3), (9, .pointer (some ⟨b2, 3, none⟩)), (10, .int .u64 a0.c3), (11, .bool (a0.c3 != 0)), (12, .int .i64 3), (13, .int .i64 192), (14, .int .i64 3), (15, .pointer (some ⟨b2, 3, none⟩)), (16, .int .u64 a0.c3)] [⟨b2, #[.int .u64 a0.c0, .int .u64 a0.c1, .int .u64 a0.c2, .int .u64 a0.c3], 25⟩] (b2 = b2 ∧ True) (by kernel_rfl) ⟨rfl, trivial⟩ ?_
    obtain ⟨x59, hx60, H⟩ := bind_s H
    refine nx_op (by kernel_rfl) (o_callO (S := S) [.int .u64 a0.c3] (by kernel_rfl) Try.func124 nb124 rfl rfl (fun w' hS => ct124 a0.c3  _ w'  hx60) (fun g61 => ?_))
    refine nx_run 2 [1, 2, 3, 4, 5, 8, 9, 10, 11, 12, 13, 14, 15, 16, 17, 18] [(1, .pointer (some ⟨b2, 0, none⟩)), (2, .int .i64 (wi64 (192 + x59))), (3, .int .i64 3), (4, .int .i64 3), (5, .bool true), (8, .int .i64 3), (9, .pointer (some ⟨b2, 3, none⟩)), (10, .int .u64 a0.c3), (11, .bool (a0.c3 != 0)), (12, .int .i64 3), (13, .int .i64 192), (14, .int .i64 3), (15, .pointer (some ⟨b2, 3, none⟩)), (16, .int .u64 a0.c3), (17, .int .i64 x59), (18, .int .i64 (wi64 (192 + x59)))] (by kernel_rfl) ?_
    refine nx_nil (nx_then (nx_ret (nx_in_ret (nx_then_ret (nx_then_ret (nx_in_ret (nx_then_ret ?_)))))))
    obtain rfl := ret_s H
    exact nx_finish (S := S) (w := w) rfl rfl [.int .i64 (wi64 (192 + x59))] Try.results61 (.tmp rfl .nil) () rfl [] [] rfl rfl
  · have H := cond_f hc55 H
    refine nx_skip (nx_in (nx_then (nx_region ?_)))
    refine nx_run 3 [1, 2, 3, 4, 5, 6, 7, 8, 9, 10, 11] [(1, .pointer (some ⟨b2, 0, none⟩)), (2, .int .i64 0), (3, .int .i64 2), (4, .int .i64 3), (5, .bool true), (6, .int .i64 3), (7, .int .i64 2), (8, .int .i64 3), (9, .pointer (some ⟨b2, 3, none⟩)), (10, .int .u64 a0.c3), (11, .bool (a0.c3 != 0))] (by kernel_rfl) ?_
    refine nx_nil (nx_then (nx_round (nx_seq (nx_seq (nx_region ?_)))))
    refine nx_run 2 [1, 2, 3, 4, 5, 6, 7, 8, 9, 10, 11] [(1, .pointer (some ⟨b2, 0, none⟩)), (2, .int .i64 0), (3, .int .i64 2), (4, .int .i64 2), (5, .bool true), (6, .int .i64 3), (7, .int .i64 2), (8, .int .i64 3), (9, .pointer (some ⟨b2, 3, none⟩)), (10, .int .u64 a0.c3), (11, .bool (a0.c3 != 0))] (by kernel_rfl) ?_
    refine nx_nil (nx_then ?_)
    refine nx_cond (b := true) rfl (fun _ => ?_) (fun h => nomatch h)
    refine nx_skip (nx_then (nx_seq (nx_block (nx_seq (nx_region ?_)))))
    refine nx_mem 4 [0] [1, 2, 3, 4, 5, 6, 7, 8, 9, 10, 11] [(1, .pointer (some ⟨b2, 0, none⟩)), (2, .int .i64 0), (3, .int .i64 2), (4, .int .i64 2), (5, .bool true), (6, .int .i64 3), (7, .int .i64 2), (8, .int .i64 2), (9, .pointer (some ⟨b2, 2, none⟩)), (10, .int .u64 a0.c2), (11, .bool (a0.c2 != 0))] [⟨b2, #[.int .u64 a0.c0, .int .u64 a0.c1, .int .u64 a0.c2, .int .u64 a0.c3], 25⟩] (b2 = b2 ∧ True) (by kernel_rfl) ⟨rfl, trivial⟩ ?_
    refine nx_nil (nx_then ?_)
    refine nx_cond (b := (a0.c2 != 0)) rfl (fun hc66 => ?_) (fun hc66 => ?_)
    · have H := cond_t hc66 H
      refine nx_seq (nx_region ?_)
      refine nx_mem 5 [0] [1, 2, 3, 4, 5, 6, 7, 8, 9, 10, 11, 12, 13, 14, 15, 16] [(1, .pointer (some ⟨b2, 0, none⟩)), (2, .int .i64 0), (3, .int .i64 2), (4, .int .i64 2), (5, .bool true), (6, .int .i64 3), (7, .int .i64 2), (8, .int .i64 2), (9, .pointer (some ⟨b2, 2, none⟩)), (10, .int .u64 a0.c2), (11, .bool (a0.c2 != 0)), (12, .int .i64 2), (13, .int .i64 128), (14, .int .i64 2), (15, .pointer (some ⟨b2, 2, none⟩)), (16, .int .u64 a0.c2)] [⟨b2, #[.int .u64 a0.c0, .int .u64 a0.c1, .int .u64 a0.c2, .int .u64 a0.c3], 25⟩] (b2 = b2 ∧ True) (by kernel_rfl) ⟨rfl, trivial⟩ ?_
      obtain ⟨x70, hx71, H⟩ := bind_s H
      refine nx_op (by kernel_rfl) (o_callO (S := S) [.int .u64 a0.c2] (by kernel_rfl) Try.func124 nb124 rfl rfl (fun w' hS => ct124 a0.c2  _ w'  hx71) (fun g72 => ?_))
      refine nx_run 2 [1, 2, 3, 4, 5, 6, 7, 8, 9, 10, 11, 12, 13, 14, 15, 16, 17, 18] [(1, .pointer (some ⟨b2, 0, none⟩)), (2, .int .i64 (wi64 (128 + x70))), (3, .int .i64 2), (4, .int .i64 2), (5, .bool true), (6, .int .i64 3), (7, .int .i64 2), (8, .int .i64 2), (9, .pointer (some ⟨b2, 2, none⟩)), (10, .int .u64 a0.c2), (11, .bool (a0.c2 != 0)), (12, .int .i64 2), (13, .int .i64 128), (14, .int .i64 2), (15, .pointer (some ⟨b2, 2, none⟩)), (16, .int .u64 a0.c2), (17, .int .i64 x70), (18, .int .i64 (wi64 (128 + x70)))] (by kernel_rfl) ?_
      refine nx_nil (nx_then (nx_ret (nx_in_ret (nx_then_ret (nx_then_ret (nx_in_ret (nx_then_ret ?_)))))))
      obtain rfl := ret_s H
      exact nx_finish (S := S) (w := w) rfl rfl [.int .i64 (wi64 (128 + x70))] Try.results61 (.tmp rfl .nil) () rfl [] [] rfl rfl
    · have H := cond_f hc66 H
      refine nx_skip (nx_in (nx_then (nx_region ?_)))
      refine nx_run 3 [1, 2, 3, 4, 5, 6, 7, 8, 9, 10, 11] [(1, .pointer (some ⟨b2, 0, none⟩)), (2, .int .i64 0), (3, .int .i64 1), (4, .int .i64 2), (5, .bool true), (6, .int .i64 2), (7, .int .i64 1), (8, .int .i64 2), (9, .pointer (some ⟨b2, 2, none⟩)), (10, .int .u64 a0.c2), (11, .bool (a0.c2 != 0))] (by kernel_rfl) ?_
      refine nx_nil (nx_then (nx_round (nx_seq (nx_seq (nx_region ?_)))))
      refine nx_run 2 [1, 2, 3, 4, 5, 6, 7, 8, 9, 10, 11] [(1, .pointer (some ⟨b2, 0, none⟩)), (2, .int .i64 0), (3, .int .i64 1), (4, .int .i64 1), (5, .bool true), (6, .int .i64 2), (7, .int .i64 1), (8, .int .i64 2), (9, .pointer (some ⟨b2, 2, none⟩)), (10, .int .u64 a0.c2), (11, .bool (a0.c2 != 0))] (by kernel_rfl) ?_
      refine nx_nil (nx_then ?_)
      refine nx_cond (b := true) rfl (fun _ => ?_) (fun h => nomatch h)
      refine nx_skip (nx_then (nx_seq (nx_block (nx_seq (nx_region ?_)))))
      refine nx_mem 4 [0] [1, 2, 3, 4, 5, 6, 7, 8, 9, 10, 11] [(1, .pointer (some ⟨b2, 0, none⟩)), (2, .int .i64 0), (3, .int .i64 1), (4, .int .i64 1), (5, .bool true), (6, .int .i64 2), (7, .int .i64 1), (8, .int .i64 1), (9, .pointer (some ⟨b2, 1, none⟩)), (10, .int .u64 a0.c1), (11, .bool (a0.c1 != 0))] [⟨b2, #[.int .u64 a0.c0, .int .u64 a0.c1, .int .u64 a0.c2, .int .u64 a0.c3], 25⟩] (b2 = b2 ∧ True) (by kernel_rfl) ⟨rfl, trivial⟩ ?_
      refine nx_nil (nx_then ?_)
      refine nx_cond (b := (a0.c1 != 0)) rfl (fun hc77 => ?_) (fun hc77 => ?_)
      · have H := cond_t hc77 H
        refine nx_seq (nx_region ?_)
        refine nx_mem 5 [0] [1, 2, 3, 4, 5, 6, 7, 8, 9, 10, 11, 12, 13, 14, 15, 16] [(1, .pointer (some ⟨b2, 0, none⟩)), (2, .int .i64 0), (3, .int .i64 1), (4, .int .i64 1), (5, .bool true), (6, .int .i64 2), (7, .int .i64 1), (8, .int .i64 1), (9, .pointer (some ⟨b2, 1, none⟩)), (10, .int .u64 a0.c1), (11, .bool (a0.c1 != 0)), (12, .int .i64 1), (13, .int .i64 64), (14, .int .i64 1), (15, .pointer (some ⟨b2, 1, none⟩)), (16, .int .u64 a0.c1)] [⟨b2, #[.int .u64 a0.c0, .int .u64 a0.c1, .int .u64 a0.c2, .int .u64 a0.c3], 25⟩] (b2 = b2 ∧ True) (by kernel_rfl) ⟨rfl, trivial⟩ ?_
        obtain ⟨x81, hx82, H⟩ := bind_s H
        refine nx_op (by kernel_rfl) (o_callO (S := S) [.int .u64 a0.c1] (by kernel_rfl) Try.func124 nb124 rfl rfl (fun w' hS => ct124 a0.c1  _ w'  hx82) (fun g83 => ?_))
        refine nx_run 2 [1, 2, 3, 4, 5, 6, 7, 8, 9, 10, 11, 12, 13, 14, 15, 16, 17, 18] [(1, .pointer (some ⟨b2, 0, none⟩)), (2, .int .i64 (wi64 (64 + x81))), (3, .int .i64 1), (4, .int .i64 1), (5, .bool true), (6, .int .i64 2), (7, .int .i64 1), (8, .int .i64 1), (9, .pointer (some ⟨b2, 1, none⟩)), (10, .int .u64 a0.c1), (11, .bool (a0.c1 != 0)), (12, .int .i64 1), (13, .int .i64 64), (14, .int .i64 1), (15, .pointer (some ⟨b2, 1, none⟩)), (16, .int .u64 a0.c1), (17, .int .i64 x81), (18, .int .i64 (wi64 (64 + x81)))] (by kernel_rfl) ?_
        refine nx_nil (nx_then (nx_ret (nx_in_ret (nx_then_ret (nx_then_ret (nx_in_ret (nx_then_ret ?_)))))))
        obtain rfl := ret_s H
        exact nx_finish (S := S) (w := w) rfl rfl [.int .i64 (wi64 (64 + x81))] Try.results61 (.tmp rfl .nil) () rfl [] [] rfl rfl
      · have H := cond_f hc77 H
        refine nx_skip (nx_in (nx_then (nx_region ?_)))
        refine nx_run 3 [1, 2, 3, 4, 5, 6, 7, 8, 9, 10, 11] [(1, .pointer (some ⟨b2, 0, none⟩)), (2, .int .i64 0), (3, .int .i64 0), (4, .int .i64 1), (5, .bool true), (6, .int .i64 1), (7, .int .i64 0), (8, .int .i64 1), (9, .pointer (some ⟨b2, 1, none⟩)), (10, .int .u64 a0.c1), (11, .bool (a0.c1 != 0))] (by kernel_rfl) ?_
        refine nx_nil (nx_then (nx_round (nx_seq (nx_seq (nx_region ?_)))))
        refine nx_run 2 [1, 2, 3, 4, 5, 6, 7, 8, 9, 10, 11] [(1, .pointer (some ⟨b2, 0, none⟩)), (2, .int .i64 0), (3, .int .i64 0), (4, .int .i64 0), (5, .bool true), (6, .int .i64 1), (7, .int .i64 0), (8, .int .i64 1), (9, .pointer (some ⟨b2, 1, none⟩)), (10, .int .u64 a0.c1), (11, .bool (a0.c1 != 0))] (by kernel_rfl) ?_
        refine nx_nil (nx_then ?_)
        refine nx_cond (b := true) rfl (fun _ => ?_) (fun h => nomatch h)
        refine nx_skip (nx_then (nx_seq (nx_block (nx_seq (nx_region ?_)))))
        refine nx_mem 4 [0] [1, 2, 3, 4, 5, 6, 7, 8, 9, 10, 11] [(1, .pointer (some ⟨b2, 0, none⟩)), (2, .int .i64 0), (3, .int .i64 0), (4, .int .i64 0), (5, .bool true), (6, .int .i64 1), (7, .int .i64 0), (8, .int .i64 0), (9, .pointer (some ⟨b2, 0, none⟩)), (10, .int .u64 a0.c0), (11, .bool (a0.c0 != 0))] [⟨b2, #[.int .u64 a0.c0, .int .u64 a0.c1, .int .u64 a0.c2, .int .u64 a0.c3], 25⟩] (b2 = b2 ∧ True) (by kernel_rfl) ⟨rfl, trivial⟩ ?_
        refine nx_nil (nx_then ?_)
        refine nx_cond (b := (a0.c0 != 0)) rfl (fun hc88 => ?_) (fun hc88 => ?_)
        · have H := cond_t hc88 H
          refine nx_seq (nx_region ?_)
          refine nx_mem 5 [0] [1, 2, 3, 4, 5, 6, 7, 8, 9, 10, 11, 12, 13, 14, 15, 16] [(1, .pointer (some ⟨b2, 0, none⟩)), (2, .int .i64 0), (3, .int .i64 0), (4, .int .i64 0), (5, .bool true), (6, .int .i64 1), (7, .int .i64 0), (8, .int .i64 0), (9, .pointer (some ⟨b2, 0, none⟩)), (10, .int .u64 a0.c0), (11, .bool (a0.c0 != 0)), (12, .int .i64 0), (13, .int .i64 0), (14, .int .i64 0), (15, .pointer (some ⟨b2, 0, none⟩)), (16, .int .u64 a0.c0)] [⟨b2, #[.int .u64 a0.c0, .int .u64 a0.c1, .int .u64 a0.c2, .int .u64 a0.c3], 25⟩] (b2 = b2 ∧ True) (by kernel_rfl) ⟨rfl, trivial⟩ ?_
          obtain ⟨x92, hx93, H⟩ := bind_s H
          refine nx_op (by kernel_rfl) (o_callO (S := S) [.int .u64 a0.c0] (by kernel_rfl) Try.func124 nb124 rfl rfl (fun w' hS => ct124 a0.c0  _ w'  hx93) (fun g94 => ?_))
          refine nx_run 2 [1, 2, 3, 4, 5, 6, 7, 8, 9, 10, 11, 12, 13, 14, 15, 16, 17, 18] [(1, .pointer (some ⟨b2, 0, none⟩)), (2, .int .i64 (wi64 (0 + x92))), (3, .int .i64 0), (4, .int .i64 0), (5, .bool true), (6, .int .i64 1), (7, .int .i64 0), (8, .int .i64 0), (9, .pointer (some ⟨b2, 0, none⟩)), (10, .int .u64 a0.c0), (11, .bool (a0.c0 != 0)), (12, .int .i64 0), (13, .int .i64 0), (14, .int .i64 0), (15, .pointer (some ⟨b2, 0, none⟩)), (16, .int .u64 a0.c0), (17, .int .i64 x92), (18, .int .i64 (wi64 (0 + x92)))] (by kernel_rfl) ?_
          refine nx_nil (nx_then (nx_ret (nx_in_ret (nx_then_ret (nx_then_ret (nx_in_ret (nx_then_ret ?_)))))))
          obtain rfl := ret_s H
          exact nx_finish (S := S) (w := w) rfl rfl [.int .i64 (wi64 (0 + x92))] Try.results61 (.tmp rfl .nil) () rfl [] [] rfl rfl
        · have H := cond_f hc88 H
          refine nx_skip (nx_in (nx_then (nx_region ?_)))
          refine nx_run 3 [1, 2, 3, 4, 5, 6, 7, 8, 9, 10, 11] [(1, .pointer (some ⟨b2, 0, none⟩)), (2, .int .i64 0), (3, .int .i64 (-1)), (4, .int .i64 0), (5, .bool true), (6, .int .i64 0), (7, .int .i64 (-1)), (8, .int .i64 0), (9, .pointer (some ⟨b2, 0, none⟩)), (10, .int .u64 a0.c0), (11, .bool (a0.c0 != 0))] (by kernel_rfl) ?_
          refine nx_nil (nx_then (nx_round (nx_seq (nx_seq (nx_region ?_)))))
          refine nx_run 2 [1, 2, 3, 4, 5, 6, 7, 8, 9, 10, 11] [(1, .pointer (some ⟨b2, 0, none⟩)), (2, .int .i64 0), (3, .int .i64 (-1)), (4, .int .i64 (-1)), (5, .bool false), (6, .int .i64 0), (7, .int .i64 (-1)), (8, .int .i64 0), (9, .pointer (some ⟨b2, 0, none⟩)), (10, .int .u64 a0.c0), (11, .bool (a0.c0 != 0))] (by kernel_rfl) ?_
          refine nx_nil (nx_then ?_)
          refine nx_cond (b := false) rfl (fun h => nomatch h) (fun _ => ?_)
          refine nx_exit (nx_then_exit (nx_then_exit (nx_in_exit (nx_then (nx_seq (nx_region ?_))))))
          refine nx_run 1 [2] [(2, .int .i64 0)] (by kernel_rfl) ?_
          refine nx_nil (nx_then (nx_ret ?_))
          obtain rfl := ret_s H
          exact nx_finish (S := S) (w := w) rfl rfl [.int .i64 0] Try.results61 (.tmp rfl .nil) () rfl [] [] rfl rfl
end Go.Cal
