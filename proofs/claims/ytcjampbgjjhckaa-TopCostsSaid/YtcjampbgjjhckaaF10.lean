/- The walk of the function cairn/cairntop.capped: what it computes, as a Lean function, and that each of its calls answers so. Condition: the function gives an answer (some). Printed by program. -/
import Derived.Test.YtcjampbgjjhckaaKB
namespace Go.Cal
open Go Go.RowKit Go.Proofs
set_option maxRecDepth 100000
set_option linter.unusedVariables false
-- cairn/cairntop.capped
def F10 (a0 : C4) (a1 : Int) : Option (Int) := (((bif (decide (a0.c1 > 0)) then some true else (bif (decide (a0.c2 > 0)) then some true else (bif (decide (a0.c3 > 0)) then some true else some (decide (a0.c0 > (wu64 a1)))))) : Option Bool)).bind (fun x12 => (bif x12 then some a1 else some (wi64 a0.c0)))
theorem ct10 (a0 : C4) (a1 : Int) (S : Nat → Prop) (w : World) {r : (Int)} (H : F10 a0 a1 = some r) : Calls Try.prog 10 #[.agg #[.int .u64 a0.c0, .int .u64 a0.c1, .int .u64 a0.c2, .int .u64 a0.c3], .int .i64 a1] w (Post S w (fun (_ : Unit) => .int .i64 r) (fun _ => []) (fun _ => [])) := by
  unfold F10 at H
  refine calls_of_nx [.agg #[.int .u64 a0.c0, .int .u64 a0.c1, .int .u64 a0.c2, .int .u64 a0.c3], .int .i64 a1] [(0, .agg #[.int .u64 a0.c0, .int .u64 a0.c1, .int .u64 a0.c2, .int .u64 a0.c3]), (1, .int .i64 a1)] Try.func10 rfl rfl rfl (Sta.begin w S [] (FactsOK.nil _ _)) ?_
  refine nx_seq (nx_region ?_)
  refine nx_op (by kernel_rfl) (o_box (.agg #[.int .u64 a0.c0, .int .u64 a0.c1, .int .u64 a0.c2, .int .u64 a0.c3]) (by kernel_rfl) rfl (by simp [undef]) (fun b2 => ?_))
  refine nx_run 1 [1, 2, 4] [(1, .int .i64 a1), (2, .pointer (some ⟨b2, 0, none⟩)), (4, .int .i64 0)] (by kernel_rfl) ?_
  refine nx_nil (nx_then (nx_seq ?_))
  obtain ⟨x12, hx13, H⟩ := bind_s H
  refine nx_join (fun t w' => Fr Try.f10.ntmps t [(1, .int .i64 a1), (2, .pointer (some ⟨b2, 0, none⟩)), (4, .int .i64 0), (24, .bool x12)] ∧ Sta [] w w' [⟨b2, #[.int .u64 a0.c0, .int .u64 a0.c1, .int .u64 a0.c2, .int .u64 a0.c3], 25⟩] [] []) ?_ ?_
  · rintro t w' ⟨hF, hS⟩
    refine nx_wp (c := ⟨Try.f10.ntmps, [], w⟩) hF hS ?_
    refine nx_cond (b := x12) rfl (fun hc15 => ?_) (fun hc15 => ?_)
    · have H := cond_t hc15 H
      refine nx_seq (nx_region ?_)
      refine nx_run 2 [2, 4] [(2, .pointer (some ⟨b2, 0, none⟩)), (4, .int .i64 a1)] (by kernel_rfl) ?_
      refine nx_nil (nx_then (nx_ret (nx_then_ret ?_)))
      obtain rfl := ret_s H
      exact nx_finish (S := S) (w := w) rfl rfl [.int .i64 a1] Try.results10 (.tmp rfl .nil) () rfl [] [] rfl rfl
    · have H := cond_f hc15 H
      refine nx_skip (nx_then (nx_seq (nx_region ?_)))
      refine nx_mem 4 [0] [4] [(4, .int .i64 (wi64 a0.c0))] [⟨b2, #[.int .u64 a0.c0, .int .u64 a0.c1, .int .u64 a0.c2, .int .u64 a0.c3], 25⟩] (b2 = b2 ∧ True) (by kernel_rfl) ⟨rfl, trivial⟩ ?_
      refine nx_nil (nx_then (nx_ret ?_))
      obtain rfl := ret_s H
      exact nx_finish (S := S) (w := w) rfl rfl [.int .i64 (wi64 a0.c0)] Try.results10 (.tmp rfl .nil) () rfl [] [] rfl rfl
  · refine nx_region ?_
    refine nx_mem 4 [0] [1, 2, 4, 8] [(1, .int .i64 a1), (2, .pointer (some ⟨b2, 0, none⟩)), (4, .int .i64 0), (8, .bool (decide (a0.c1 > 0)))] [⟨b2, #[.int .u64 a0.c0, .int .u64 a0.c1, .int .u64 a0.c2, .int .u64 a0.c3], 25⟩] (b2 = b2 ∧ True) (by kernel_rfl) ⟨rfl, trivial⟩ ?_
    refine nx_split ((decide (a0.c1 > 0))) (fun hc16 => ?_) (fun hc16 => ?_)
    · have hx13 := cond_t hc16 hx13
      refine nx_put 8 (.bool true) rfl (congrArg Value.bool hc16) ?_
      refine nx_run 16 [1, 2, 4, 24] [(1, .int .i64 a1), (2, .pointer (some ⟨b2, 0, none⟩)), (4, .int .i64 0), (24, .bool true)] (by kernel_rfl) ?_
      refine nx_nil ?_
      refine nx_sel [1, 2, 4, 24] [(1, .int .i64 a1), (2, .pointer (some ⟨b2, 0, none⟩)), (4, .int .i64 0), (24, .bool true)] rfl ?_
      refine nx_meet (fun t w' hF hS => ?_)
      obtain rfl := ret_s hx13
      exact ⟨hF, hS⟩
    · have hx13 := cond_f hc16 hx13
      refine nx_put 8 (.bool false) rfl (congrArg Value.bool hc16) ?_
      refine nx_mem 5 [0] [1, 2, 4, 13] [(1, .int .i64 a1), (2, .pointer (some ⟨b2, 0, none⟩)), (4, .int .i64 0), (13, .bool (decide (a0.c2 > 0)))] [⟨b2, #[.int .u64 a0.c0, .int .u64 a0.c1, .int .u64 a0.c2, .int .u64 a0.c3], 25⟩] (b2 = b2 ∧ True) (by kernel_rfl) ⟨rfl, trivial⟩ ?_
      refine nx_split ((decide (a0.c2 > 0))) (fun hc17 => ?_) (fun hc17 => ?_)
      · have hx13 := cond_t hc17 hx13
        refine nx_put 13 (.bool true) rfl (congrArg Value.bool hc17) ?_
        refine nx_run 11 [1, 2, 4, 24] [(1, .int .i64 a1), (2, .pointer (some ⟨b2, 0, none⟩)), (4, .int .i64 0), (24, .bool true)] (by kernel_rfl) ?_
        refine nx_nil ?_
        refine nx_sel [1, 2, 4, 24] [(1, .int .i64 a1), (2, .pointer (some ⟨b2, 0, none⟩)), (4, .int .i64 0), (24, .bool true)] rfl ?_
        refine nx_meet (fun t w' hF hS => ?_)
        obtain rfl := ret_s hx13
        exact ⟨hF, hS⟩
      · have hx13 := cond_f hc17 hx13
        refine nx_put 13 (.bool false) rfl (congrArg Value.bool hc17) ?_
        refine nx_mem 5 [0] [1, 2, 4, 18] [(1, .int .i64 a1), (2, .pointer (some ⟨b2, 0, none⟩)), (4, .int .i64 0), (18, .bool (decide (a0.c3 > 0)))] [⟨b2, #[.int .u64 a0.c0, .int .u64 a0.c1, .int .u64 a0.c2, .int .u64 a0.c3], 25⟩] (b2 = b2 ∧ True) (by kernel_rfl) ⟨rfl, trivial⟩ ?_
        refine nx_split ((decide (a0.c3 > 0))) (fun hc18 => ?_) (fun hc18 => ?_)
        · have hx13 := cond_t hc18 hx13
          refine nx_put 18 (.bool true) rfl (congrArg Value.bool hc18) ?_
          refine nx_run 6 [1, 2, 4, 24] [(1, .int .i64 a1), (2, .pointer (some ⟨b2, 0, none⟩)), (4, .int .i64 0), (24, .bool true)] (by kernel_rfl) ?_
          refine nx_nil ?_
          refine nx_sel [1, 2, 4, 24] [(1, .int .i64 a1), (2, .pointer (some ⟨b2, 0, none⟩)), (4, .int .i64 0), (24, .bool true)] rfl ?_
          refine nx_meet (fun t w' hF hS => ?_)
          obtain rfl := ret_s hx13
          exact ⟨hF, hS⟩
        · have hx13 := cond_f hc18 hx13
          refine nx_put 18 (.bool false) rfl (congrArg Value.bool hc18) ?_
          refine nx_mem 6 [0] [1, 2, 4, 24] [(1, .int .i64 a1), (2, .pointer (some ⟨b2, 0, none⟩)), (4, .int .i64 0), (24, .bool (decide (a0.c0 > (wu64 a1))))] [⟨b2, #[.int .u64 a0.c0, .int .u64 a0.c1, .int .u64 a0.c2, .int .u64 a0.c3], 25⟩] (b2 = b2 ∧ True) (by kernel_rfl) ⟨rfl, trivial⟩ ?_
          refine nx_nil ?_
          refine nx_sel [1, 2, 4, 24] [(1, .int .i64 a1), (2, .pointer (some ⟨b2, 0, none⟩)), (4, .int .i64 0), (24, .bool (decide (a0.c0 > (wu64 a1))))] rfl ?_
          refine nx_meet (fun t w' hF hS => ?_)
          obtain rfl := ret_s hx13
          exact ⟨hF, hS⟩
end Go.Cal
