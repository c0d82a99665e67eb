/- The walk of the function cairn/gas.Store: what it computes, as a Lean function, and that each of its calls answers so. Condition: the function gives an answer (some). Printed by program. -/
import Derived.Test.YtcjampbgjjhckaaKB
namespace Go.Cal
open Go Go.RowKit Go.Proofs
set_option maxRecDepth 100000
set_option linter.unusedVariables false
-- cairn/gas.Store
def F16 (a0 : C4) (a1 : C4) (a2 : C4) (a3 : Bool) : Option (Int × Int) := (((((bif ([a2.c0, a2.c1, a2.c2, a2.c3] == [a1.c0, a1.c1, a1.c2, a1.c3]) then some true else some (!([a1.c0, a1.c1, a1.c2, a1.c3] == [a0.c0, a0.c1, a0.c2, a0.c3]))) : Option Bool)).bind (fun x63 => (bif x63 then some 100 else (bif ([a0.c0, a0.c1, a0.c2, a0.c3] == [0, 0, 0, 0]) then some 20000 else some 2900))) : Option Int)).bind (fun x13 => (((bif (!a3) then some (wu64 (x13 + 2100)) else some x13) : Option Int)).bind (fun x17 => (bif ([a2.c0, a2.c1, a2.c2, a2.c3] == [a1.c0, a1.c1, a1.c2, a1.c3]) then some (x17, 0) else (bif ([a1.c0, a1.c1, a1.c2, a1.c3] == [a0.c0, a0.c1, a0.c2, a0.c3]) then (((((bif (!([a0.c0, a0.c1, a0.c2, a0.c3] == [0, 0, 0, 0])) then some ([a2.c0, a2.c1, a2.c2, a2.c3] == [0, 0, 0, 0]) else some false) : Option Bool)).bind (fun x35 => (bif x35 then some 4800 else some 0)) : Option Int)).bind (fun x31 => some (x17, x31)) else (((bif (!([a0.c0, a0.c1, a0.c2, a0.c3] == [0, 0, 0, 0])) then (((bif ([a1.c0, a1.c1, a1.c2, a1.c3] == [0, 0, 0, 0]) then some (-4800) else some 0) : Option Int)).bind (fun x56 => (bif ([a2.c0, a2.c1, a2.c2, a2.c3] == [0, 0, 0, 0]) then some (wi64 (x56 + 4800)) else some x56)) else some 0) : Option Int)).bind (fun x44 => (((bif ([a2.c0, a2.c1, a2.c2, a2.c3] == [a0.c0, a0.c1, a0.c2, a0.c3]) then (bif ([a0.c0, a0.c1, a0.c2, a0.c3] == [0, 0, 0, 0]) then some (wi64 (x44 + 19900)) else some (wi64 (x44 + 2800))) else some x44) : Option Int)).bind (fun x49 => some (x17, x49)))))))
theorem ct16 (a0 : C4) (a1 : C4) (a2 : C4) (a3 : Bool) (S : Nat → Prop) (w : World) {r : (Int × Int)} (H : F16 a0 a1 a2 a3 = some r) : Calls Try.prog 16 #[.agg #[.int .u64 a0.c0, .int .u64 a0.c1, .int .u64 a0.c2, .int .u64 a0.c3], .agg #[.int .u64 a1.c0, .int .u64 a1.c1, .int .u64 a1.c2, .int .u64 a1.c3], .agg #[.int .u64 a2.c0, .int .u64 a2.c1, .int .u64 a2.c2, .int .u64 a2.c3], .bool a3] w (Post S w (fun (_ : Unit) => .tuple #[.int .u64 r.1, .int .i64 r.2]) (fun _ => []) (fun _ => [])) := by
  unfold F16 at H
  refine calls_of_nx [.agg #[.int .u64 a0.c0, .int .u64 a0.c1, .int .u64 a0.c2, .int .u64 a0.c3], .agg #[.int .u64 a1.c0, .int .u64 a1.c1, .int .u64 a1.c2, .int .u64 a1.c3], .agg #[.int .u64 a2.c0, .int .u64 a2.c1, .int .u64 a2.c2, .int .u64 a2.c3], .bool a3] [(0, .agg #[.int .u64 a0.c0, .int .u64 a0.c1, .int .u64 a0.c2, .int .u64 a0.c3]), (1, .agg #[.int .u64 a1.c0, .int .u64 a1.c1, .int .u64 a1.c2, .int .u64 a1.c3]), (2, .agg #[.int .u64 a2.c0, .int .u64 a2.c1, .int .u64 a2.c2, .int .u64 a2.c3]), (3, .bool a3)] Try.func16 rfl rfl rfl (Sta.begin w S [] (FactsOK.nil _ _)) ?_
  refine nx_seq (nx_region ?_)
  refine nx_op (by kernel_rfl) (o_box (.agg #[.int .u64 a0.c0, .int .u64 a0.c1, .int .u64 a0.c2, .int .u64 a0.c3]) (by kernel_rfl) rfl (by simp [undef]) (fun b4 => ?_))
  refine nx_op (by kernel_rfl) (o_box (.agg #[.int .u64 a1.c0, .int .u64 a1.c1, .int .u64 a1.c2, .int .u64 a1.c3]) (by kernel_rfl) rfl (by simp [undef]) (fun b5 => ?_))
  refine nx_op (by kernel_rfl) (o_box (.agg #[.int .u64 a2.c0, .int .u64 a2.c1, .int .u64 a2.c2, .int .u64 a2.c3]) (by kernel_rfl) rfl (by simp [undef]) (fun b6 => ?_))
  refine nx_run 2 [3, 4, 5, 6, 8, 9] [(3, .bool a3), (4, .pointer (some ⟨b4, 0, none⟩)), (5, .pointer (some ⟨b5, 0, none⟩)), (6, .pointer (some ⟨b6, 0, none⟩)), (8, .int .u64 0), (9, .int .i64 0)] (by kernel_rfl) ?_
  refine nx_nil (nx_then (nx_seq (nx_region ?_)))
  refine nx_op (by kernel_rfl) (o_alloc (.agg #[.int .u64 0, .int .u64 0, .int .u64 0, .int .u64 0]) (by kernel_rfl) (by kernel_rfl) (fun b8 => ?_))
  refine nx_nil (nx_then (nx_seq (nx_region ?_)))
  refine nx_run 1 [3, 4, 5, 6, 8, 9, 10, 11] [(3, .bool a3), (4, .pointer (some ⟨b4, 0, none⟩)), (5, .pointer (some ⟨b5, 0, none⟩)), (6, .pointer (some ⟨b6, 0, none⟩)), (8, .int .u64 0), (9, .int .i64 0), (10, .pointer (some ⟨b8, 0, none⟩)), (11, .int .u64 2900)] (by kernel_rfl) ?_
  refine nx_nil (nx_then ?_)
  obtain ⟨x13, hx14, H⟩ := bind_s H
  refine nx_join (fun t w' => Fr Try.f16.ntmps t [(3, .bool a3), (4, .pointer (some ⟨b4, 0, none⟩)), (5, .pointer (some ⟨b5, 0, none⟩)), (6, .pointer (some ⟨b6, 0, none⟩)), (8, .int .u64 0), (9, .int .i64 0), (10, .pointer (some ⟨b8, 0, none⟩)), (11, .int .u64 x13)] ∧ Sta [] w w' [⟨b8, #[.int .u64 0, .int .u64 0, .int .u64 0, .int .u64 0], 25⟩, ⟨b6, #[.int .u64 a2.c0, .int .u64 a2.c1, .int .u64 a2.c2, .int .u64 a2.c3], 25⟩, ⟨b5, #[.int .u64 a1.c0, .int .u64 a1.c1, .int .u64 a1.c2, .int .u64 a1.c3], 25⟩, ⟨b4, #[.int .u64 a0.c0, .int .u64 a0.c1, .int .u64 a0.c2, .int .u64 a0.c3], 25⟩] [] []) ?_ ?_
  · rintro t w' ⟨hF, hS⟩
    refine nx_wp (c := ⟨Try.f16.ntmps, [], w⟩) hF hS ?_
    obtain ⟨x17, hx18, H⟩ := bind_s H
    refine nx_join (fun t w' => Fr Try.f16.ntmps t [(4, .pointer (some ⟨b4, 0, none⟩)), (5, .pointer (some ⟨b5, 0, none⟩)), (6, .pointer (some ⟨b6, 0, none⟩)), (8, .int .u64 0), (9, .int .i64 0), (10, .pointer (some ⟨b8, 0, none⟩)), (11, .int .u64 x17)] ∧ Sta [] w w' [⟨b8, #[.int .u64 0, .int .u64 0, .int .u64 0, .int .u64 0], 25⟩, ⟨b6, #[.int .u64 a2.c0, .int .u64 a2.c1, .int .u64 a2.c2, .int .u64 a2.c3], 25⟩, ⟨b5, #[.int .u64 a1.c0, .int .u64 a1.c1, .int .u64 a1.c2, .int .u64 a1.c3], 25⟩, ⟨b4, #[.int .u64 a0.c0, .int .u64 a0.c1, .int .u64 a0.c2, .int .u64 a0.c3], 25⟩] [] []) ?_ ?_
    · rintro t w' ⟨hF, hS⟩
      refine nx_wp (c := ⟨Try.f16.ntmps, [], w⟩) hF hS ?_
      refine nx_seq (nx_seq (nx_region ?_))
      refine nx_mem 2 [1, 2] [4, 5, 6, 8, 9, 10, 11, 30, 31] [(4, .pointer (some ⟨b4, 0, none⟩)), (5, .pointer (some ⟨b5, 0, none⟩)), (6, .pointer (some ⟨b6, 0, none⟩)), (8, .int .u64 0), (9, .int .i64 0), (10, .pointer (some ⟨b8, 0, none⟩)), (11, .int .u64 x17), (30, .agg #[.int .u64 a2.c0, .int .u64 a2.c1, .int .u64 a2.c2, .int .u64 a2.c3]), (31, .agg #[.int .u64 a1.c0, .int .u64 a1.c1, .int .u64 a1.c2, .int .u64 a1.c3])] [⟨b8, #[.int .u64 0, .int .u64 0, .int .u64 0, .int .u64 0], 25⟩, ⟨b6, #[.int .u64 a2.c0, .int .u64 a2.c1, .int .u64 a2.c2, .int .u64 a2.c3], 25⟩, ⟨b5, #[.int .u64 a1.c0, .int .u64 a1.c1, .int .u64 a1.c2, .int .u64 a1.c3], 25⟩, ⟨b4, #[.int .u64 a0.c0, .int .u64 a0.c1, .int .u64 a0.c2, .int .u64 a0.c3], 25⟩] (b5 = b5 ∧ b6 = b6 ∧ True) (by kernel_rfl) ⟨rfl, rfl, trivial⟩ ?_
      refine nx_op (by kernel_rfl) (o_rv rfl (by kernel_rfl) (rv_eqArr .u64 .u64 (n := 4) (e := 23) [a2.c0, a2.c1, a2.c2, a2.c3] [a1.c0, a1.c1, a1.c2, a1.c3] (by kernel_rfl) (by kernel_rfl) (by kernel_rfl) (by kernel_rfl) rfl rfl rfl rfl) ?_)
      refine nx_nil (nx_then ?_)
      refine nx_cond (b := ([a2.c0, a2.c1, a2.c2, a2.c3] == [a1.c0, a1.c1, a1.c2, a1.c3])) rfl (fun hc21 => ?_) (fun hc21 => ?_)
      · have H := cond_t hc21 H
        refine nx_seq (nx_region ?_)
        refine nx_run 3 [4, 5, 6, 8, 9, 10, 11] [(4, .pointer (some ⟨b4, 0, none⟩)), (5, .pointer (some ⟨b5, 0, none⟩)), (6, .pointer (some ⟨b6, 0, none⟩)), (8, .int .u64 x17), (9, .int .i64 0), (10, .pointer (some ⟨b8, 0, none⟩)), (11, .int .u64 x17)] (by kernel_rfl) ?_
        refine nx_nil (nx_then (nx_ret (nx_then_ret ?_)))
        obtain rfl := ret_s H
        exact nx_finish (S := S) (w := w) rfl rfl [.int .u64 x17, .int .i64 0] Try.results16 (.tmp rfl (.tmp rfl .nil)) () rfl [] [] rfl rfl
      · have H := cond_f hc21 H
        refine nx_skip (nx_then (nx_seq (nx_region ?_)))
        refine nx_run 1 [4, 5, 6, 8, 9, 10, 11, 12] [(4, .pointer (some ⟨b4, 0, none⟩)), (5, .pointer (some ⟨b5, 0, none⟩)), (6, .pointer (some ⟨b6, 0, none⟩)), (8, .int .u64 0), (9, .int .i64 0), (10, .pointer (some ⟨b8, 0, none⟩)), (11, .int .u64 x17), (12, .int .i64 0)] (by kernel_rfl) ?_
        refine nx_nil (nx_then (nx_seq (nx_seq (nx_region ?_))))
        refine nx_mem 2 [2, 3] [4, 5, 6, 8, 9, 10, 11, 12, 34, 35] [(4, .pointer (some ⟨b4, 0, none⟩)), (5, .pointer (some ⟨b5, 0, none⟩)), (6, .pointer (some ⟨b6, 0, none⟩)), (8, .int .u64 0), (9, .int .i64 0), (10, .pointer (some ⟨b8, 0, none⟩)), (11, .int .u64 x17), (12, .int .i64 0), (34, .agg #[.int .u64 a1.c0, .int .u64 a1.c1, .int .u64 a1.c2, .int .u64 a1.c3]), (35, .agg #[.int .u64 a0.c0, .int .u64 a0.c1, .int .u64 a0.c2, .int .u64 a0.c3])] [⟨b8, #[.int .u64 0, .int .u64 0, .int .u64 0, .int .u64 0], 25⟩, ⟨b6, #[.int .u64 a2.c0, .int .u64 a2.c1, .int .u64 a2.c2, .int .u64 a2.c3], 25⟩, ⟨b5, #[.int .u64 a1.c0, .int .u64 a1.c1, .int .u64 a1.c2, .int .u64 a1.c3], 25⟩, ⟨b4, #[.int .u64 a0.c0, .int .u64 a0.c1, .int .u64 a0.c2, .int .u64 a0.c3], 25⟩] (b4 = b4 ∧ b5 = b5 ∧ True) (by kernel_rfl) ⟨rfl, rfl, trivial⟩ ?_
        refine nx_op (by kernel_rfl) (o_rv rfl (by kernel_rfl) (rv_eqArr .u64 .u64 (n := 4) (e := 23) [a1.c0, a1.c1, a1.c2, a1.c3] [a0.c0, a0.c1, a0.c2, a0.c3] (by kernel_rfl) (by kernel_rfl) (by kernel_rfl) (by kernel_rfl) rfl rfl rfl rfl) ?_)
        refine nx_nil (nx_then ?_)
        refine nx_cond (b := ([a1.c0, a1.c1, a1.c2, a1.c3] == [a0.c0, a0.c1, a0.c2, a0.c3])) rfl (fun hc27 => ?_) (fun hc27 => ?_)
        · have H := cond_t hc27 H
          obtain ⟨x31, hx32, H⟩ := bind_s H
          refine nx_join (fun t w' => Fr Try.f16.ntmps t [(4, .pointer (some ⟨b4, 0, none⟩)), (5, .pointer (some ⟨b5, 0, none⟩)), (6, .pointer (some ⟨b6, 0, none⟩)), (8, .int .u64 0), (9, .int .i64 0), (10, .pointer (some ⟨b8, 0, none⟩)), (11, .int .u64 x17), (12, .int .i64 x31)] ∧ Sta [] w w' [⟨b8, #[.int .u64 0, .int .u64 0, .int .u64 0, .int .u64 0], 25⟩, ⟨b6, #[.int .u64 a2.c0, .int .u64 a2.c1, .int .u64 a2.c2, .int .u64 a2.c3], 25⟩, ⟨b5, #[.int .u64 a1.c0, .int .u64 a1.c1, .int .u64 a1.c2, .int .u64 a1.c3], 25⟩, ⟨b4, #[.int .u64 a0.c0, .int .u64 a0.c1, .int .u64 a0.c2, .int .u64 a0.c3], 25⟩] [] []) ?_ ?_
          · rintro t w' ⟨hF, hS⟩
            refine nx_wp (c := ⟨Try.f16.ntmps, [], w⟩) hF hS ?_
            refine nx_seq (nx_region ?_)
            refine nx_run 4 [4, 5, 6, 8, 9, 10, 11, 12] [(4, .pointer (some ⟨b4, 0, none⟩)), (5, .pointer (some ⟨b5, 0, none⟩)), (6, .pointer (some ⟨b6, 0, none⟩)), (8, .int .u64 x17), (9, .int .i64 x31), (10, .pointer (some ⟨b8, 0, none⟩)), (11, .int .u64 x17), (12, .int .i64 x31)] (by kernel_rfl) ?_
            refine nx_nil (nx_then (nx_ret (nx_then_ret ?_)))
            obtain rfl := ret_s H
            exact nx_finish (S := S) (w := w) rfl rfl [.int .u64 x17, .int .i64 x31] Try.results16 (.tmp rfl (.tmp rfl .nil)) () rfl [] [] rfl rfl
          · obtain ⟨x35, hx36, hx32⟩ := bind_s hx32
            refine nx_join (fun t w' => Fr Try.f16.ntmps t [(4, .pointer (some ⟨b4, 0, none⟩)), (5, .pointer (some ⟨b5, 0, none⟩)), (6, .pointer (some ⟨b6, 0, none⟩)), (8, .int .u64 0), (9, .int .i64 0), (10, .pointer (some ⟨b8, 0, none⟩)), (11, .int .u64 x17), (12, .int .i64 0), (44, .bool x35)] ∧ Sta [] w w' [⟨b8, #[.int .u64 0, .int .u64 0, .int .u64 0, .int .u64 0], 25⟩, ⟨b6, #[.int .u64 a2.c0, .int .u64 a2.c1, .int .u64 a2.c2, .int .u64 a2.c3], 25⟩, ⟨b5, #[.int .u64 a1.c0, .int .u64 a1.c1, .int .u64 a1.c2, .int .u64 a1.c3], 25⟩, ⟨b4, #[.int .u64 a0.c0, .int .u64 a0.c1, .int .u64 a0.c2, .int .u64 a0.c3], 25⟩] [] []) ?_ ?_
            · rintro t w' ⟨hF, hS⟩
              refine nx_wp (c := ⟨Try.f16.ntmps, [], w⟩) hF hS ?_
              refine nx_cond (b := x35) rfl (fun hc38 => ?_) (fun hc38 => ?_)
              · have hx32 := cond_t hc38 hx32
                refine nx_region ?_
                refine nx_run 1 [4, 5, 6, 8, 9, 10, 11, 12] [(4, .pointer (some ⟨b4, 0, none⟩)), (5, .pointer (some ⟨b5, 0, none⟩)), (6, .pointer (some ⟨b6, 0, none⟩)), (8, .int .u64 0), (9, .int .i64 0), (10, .pointer (some ⟨b8, 0, none⟩)), (11, .int .u64 x17), (12, .int .i64 4800)] (by kernel_rfl) ?_
                refine nx_nil ?_
                refine nx_sel [4, 5, 6, 8, 9, 10, 11, 12] [(4, .pointer (some ⟨b4, 0, none⟩)), (5, .pointer (some ⟨b5, 0, none⟩)), (6, .pointer (some ⟨b6, 0, none⟩)), (8, .int .u64 0), (9, .int .i64 0), (10, .pointer (some ⟨b8, 0, none⟩)), (11, .int .u64 x17), (12, .int .i64 4800)] rfl ?_
                refine nx_meet (fun t w' hF hS => ?_)
                obtain rfl := ret_s hx32
                exact ⟨hF, hS⟩
              · have hx32 := cond_f hc38 hx32
                refine nx_skip ?_
                refine nx_sel [4, 5, 6, 8, 9, 10, 11, 12] [(4, .pointer (some ⟨b4, 0, none⟩)), (5, .pointer (some ⟨b5, 0, none⟩)), (6, .pointer (some ⟨b6, 0, none⟩)), (8, .int .u64 0), (9, .int .i64 0), (10, .pointer (some ⟨b8, 0, none⟩)), (11, .int .u64 x17), (12, .int .i64 0)] rfl ?_
                refine nx_meet (fun t w' hF hS => ?_)
                obtain rfl := ret_s hx32
                exact ⟨hF, hS⟩
            · refine nx_region ?_
              refine nx_mem 2 [3, 0] [4, 5, 6, 8, 9, 10, 11, 12, 37, 38] [(4, .pointer (some ⟨b4, 0, none⟩)), (5, .pointer (some ⟨b5, 0, none⟩)), (6, .pointer (some ⟨b6, 0, none⟩)), (8, .int .u64 0), (9, .int .i64 0), (10, .pointer (some ⟨b8, 0, none⟩)), (11, .int .u64 x17), (12, .int .i64 0), (37, .agg #[.int .u64 a0.c0, .int .u64 a0.c1, .int .u64 a0.c2, .int .u64 a0.c3]), (38, .agg #[.int .u64 0, .int .u64 0, .int .u64 0, .int .u64 0])] [⟨b8, #[.int .u64 0, .int .u64 0, .int .u64 0, .int .u64 0], 25⟩, ⟨b6, #[.int .u64 a2.c0, .int .u64 a2.c1, .int .u64 a2.c2, .int .u64 a2.c3], 25⟩, ⟨b5, #[.int .u64 a1.c0, .int .u64 a1.c1, .int .u64 a1.c2, .int .u64 a1.c3], 25⟩, ⟨b4, #[.int .u64 a0.c0, .int .u64 a0.c1, .int .u64 a0.c2, .int .u64 a0.c3], 25⟩] (b8 = b8 ∧ b4 = b4 ∧ True) (by kernel_rfl) ⟨rfl, rfl, trivial⟩ ?_
              refine nx_op (by kernel_rfl) (o_rv rfl (by kernel_rfl) (rv_neArr .u64 .u64 (n := 4) (e := 23) [a0.c0, a0.c1, a0.c2, a0.c3] [0, 0, 0, 0] (by kernel_rfl) (by kernel_rfl) (by kernel_rfl) (by kernel_rfl) rfl rfl rfl rfl) ?_)
              refine nx_run 1 [4, 5, 6, 8, 9, 10, 11, 12, 40] [(4, .pointer (some ⟨b4, 0, none⟩)), (5, .pointer (some ⟨b5, 0, none⟩)), (6, .pointer (some ⟨b6, 0, none⟩)), (8, .int .u64 0), (9, .int .i64 0), (10, .pointer (some ⟨b8, 0, none⟩)), (11, .int .u64 x17), (12, .int .i64 0), (40, .bool (!([a0.c0, a0.c1, a0.c2, a0.c3] == [0, 0, 0, 0])))] (by kernel_rfl) ?_
              refine nx_split ((!([a0.c0, a0.c1, a0.c2, a0.c3] == [0, 0, 0, 0]))) (fun hc39 => ?_) (fun hc39 => ?_)
              · have hx36 := cond_t hc39 hx36
                refine nx_put 40 (.bool true) rfl (congrArg Value.bool hc39) ?_
                refine nx_mem 2 [1, 0] [4, 5, 6, 8, 9, 10, 11, 12, 40, 41, 42] [(4, .pointer (some ⟨b4, 0, none⟩)), (5, .pointer (some ⟨b5, 0, none⟩)), (6, .pointer (some ⟨b6, 0, none⟩)), (8, .int .u64 0), (9, .int .i64 0), (10, .pointer (some ⟨b8, 0, none⟩)), (11, .int .u64 x17), (12, .int .i64 0), (40, .bool true), (41, .agg #[.int .u64 a2.c0, .int .u64 a2.c1, .int .u64 a2.c2, .int .u64 a2.c3]), (42, .agg #[.int .u64 0, .int .u64 0, .int .u64 0, .int .u64 0])] [⟨b8, #[.int .u64 0, .int .u64 0, .int .u64 0, .int .u64 0], 25⟩, ⟨b6, #[.int .u64 a2.c0, .int .u64 a2.c1, .int .u64 a2.c2, .int .u64 a2.c3], 25⟩, ⟨b5, #[.int .u64 a1.c0, .int .u64 a1.c1, .int .u64 a1.c2, .int .u64 a1.c3], 25⟩, ⟨b4, #[.int .u64 a0.c0, .int .u64 a0.c1, .int .u64 a0.c2, .int .u64 a0.c3], 25⟩] (b8 = b8 ∧ b6 = b6 ∧ True) (by kernel_rfl) ⟨rfl, rfl, trivial⟩ ?_
                refine nx_op (by kernel_rfl) (o_rv rfl (by kernel_rfl) (rv_eqArr .u64 .u64 (n := 4) (e := 23) [a2.c0, a2.c1, a2.c2, a2.c3] [0, 0, 0, 0] (by kernel_rfl) (by kernel_rfl) (by kernel_rfl) (by kernel_rfl) rfl rfl rfl rfl) ?_)
                refine nx_run 1 [4, 5, 6, 8, 9, 10, 11, 12, 44] [(4, .pointer (some ⟨b4, 0, none⟩)), (5, .pointer (some ⟨b5, 0, none⟩)), (6, .pointer (some ⟨b6, 0, none⟩)), (8, .int .u64 0), (9, .int .i64 0), (10, .pointer (some ⟨b8, 0, none⟩)), (11, .int .u64 x17), (12, .int .i64 0), (44, .bool ([a2.c0, a2.c1, a2.c2, a2.c3] == [0, 0, 0, 0]))] (by kernel_rfl) ?_
                refine nx_nil ?_
                refine nx_sel [4, 5, 6, 8, 9, 10, 11, 12, 44] [(4, .pointer (some ⟨b4, 0, none⟩)), (5, .pointer (some ⟨b5, 0, none⟩)), (6, .pointer (some ⟨b6, 0, none⟩)), (8, .int .u64 0), (9, .int .i64 0), (10, .pointer (some ⟨b8, 0, none⟩)), (11, .int .u64 x17), (12, .int .i64 0), (44, .bool ([a2.c0, a2.c1, a2.c2, a2.c3] == [0, 0, 0, 0]))] rfl ?_
                refine nx_meet (fun t w' hF hS => ?_)
                obtain rfl := ret_s hx36
                exact ⟨hF, hS⟩
              · have hx36 := cond_f hc39 hx36
                refine nx_put 40 (.bool false) rfl (congrArg Value.bool hc39) ?_
                refine nx_run 4 [4, 5, 6, 8, 9, 10, 11, 12, 44] [(4, .pointer (some ⟨b4, 0, none⟩)), (5, .pointer (some ⟨b5, 0, none⟩)), (6, .pointer (some ⟨b6, 0, none⟩)), (8, .int .u64 0), (9, .int .i64 0), (10, .pointer (some ⟨b8, 0, none⟩)), (11, .int .u64 x17), (12, .int .i64 0), (44, .bool false)] (by kernel_rfl) ?_
                refine nx_nil ?_
                refine nx_sel [4, 5, 6, 8, 9, 10, 11, 12, 44] [(4, .pointer (some ⟨b4, 0, none⟩)), (5, .pointer (some ⟨b5, 0, none⟩)), (6, .pointer (some ⟨b6, 0, none⟩)), (8, .int .u64 0), (9, .int .i64 0), (10, .pointer (some ⟨b8, 0, none⟩)), (11, .int .u64 x17), (12, .int .i64 0), (44, .bool false)] rfl ?_
                refine nx_meet (fun t w' hF hS => ?_)
                obtain rfl := ret_s hx36
                exact ⟨hF, hS⟩
        · have H := cond_f hc27 H
          refine nx_skip (nx_then ?_)
          obtain ⟨x44, hx45, H⟩ := bind_s H
          refine nx_join (fun t w' => Fr Try.f16.ntmps t [(4, .pointer (some ⟨b4, 0, none⟩)), (6, .pointer (some ⟨b6, 0, none⟩)), (8, .int .u64 0), (9, .int .i64 0), (10, .pointer (some ⟨b8, 0, none⟩)), (11, .int .u64 x17), (12, .int .i64 x44)] ∧ Sta [] w w' [⟨b8, #[.int .u64 0, .int .u64 0, .int .u64 0, .int .u64 0], 25⟩, ⟨b6, #[.int .u64 a2.c0, .int .u64 a2.c1, .int .u64 a2.c2, .int .u64 a2.c3], 25⟩, ⟨b5, #[.int .u64 a1.c0, .int .u64 a1.c1, .int .u64 a1.c2, .int .u64 a1.c3], 25⟩, ⟨b4, #[.int .u64 a0.c0, .int .u64 a0.c1, .int .u64 a0.c2, .int .u64 a0.c3], 25⟩] [] []) ?_ ?_
          · rintro t w' ⟨hF, hS⟩
            refine nx_wp (c := ⟨Try.f16.ntmps, [], w⟩) hF hS ?_
            obtain ⟨x49, hx50, H⟩ := bind_s H
            refine nx_join (fun t w' => Fr Try.f16.ntmps t [(8, .int .u64 0), (9, .int .i64 0), (11, .int .u64 x17), (12, .int .i64 x49)] ∧ Sta [] w w' [⟨b8, #[.int .u64 0, .int .u64 0, .int .u64 0, .int .u64 0], 25⟩, ⟨b6, #[.int .u64 a2.c0, .int .u64 a2.c1, .int .u64 a2.c2, .int .u64 a2.c3], 25⟩, ⟨b5, #[.int .u64 a1.c0, .int .u64 a1.c1, .int .u64 a1.c2, .int .u64 a1.c3], 25⟩, ⟨b4, #[.int .u64 a0.c0, .int .u64 a0.c1, .int .u64 a0.c2, .int .u64 a0.c3], 25⟩] [] []) ?_ ?_
            · rintro t w' ⟨hF, hS⟩
              refine nx_wp (c := ⟨Try.f16.ntmps, [], w⟩) hF hS ?_
              refine nx_seq (nx_region ?_)
              refine nx_run 4 [8, 9] [(8, .int .u64 x17), (9, .int .i64 x49)] (by kernel_rfl) ?_
              refine nx_nil (nx_then (nx_ret ?_))
              obtain rfl := ret_s H
              exact nx_finish (S := S) (w := w) rfl rfl [.int .u64 x17, .int .i64 x49] Try.results16 (.tmp rfl (.tmp rfl .nil)) () rfl [] [] rfl rfl
            · refine nx_seq (nx_region ?_)
              refine nx_mem 2 [1, 3] [4, 8, 9, 10, 11, 12, 60, 61] [(4, .pointer (some ⟨b4, 0, none⟩)), (8, .int .u64 0), (9, .int .i64 0), (10, .pointer (some ⟨b8, 0, none⟩)), (11, .int .u64 x17), (12, .int .i64 x44), (60, .agg #[.int .u64 a2.c0, .int .u64 a2.c1, .int .u64 a2.c2, .int .u64 a2.c3]), (61, .agg #[.int .u64 a0.c0, .int .u64 a0.c1, .int .u64 a0.c2, .int .u64 a0.c3])] [⟨b8, #[.int .u64 0, .int .u64 0, .int .u64 0, .int .u64 0], 25⟩, ⟨b6, #[.int .u64 a2.c0, .int .u64 a2.c1, .int .u64 a2.c2, .int .u64 a2.c3], 25⟩, ⟨b5, #[.int .u64 a1.c0, .int .u64 a1.c1, .int .u64 a1.c2, .int .u64 a1.c3], 25⟩, ⟨b4, #[.int .u64 a0.c0, .int .u64 a0.c1, .int .u64 a0.c2, .int .u64 a0.c3], 25⟩] (b4 = b4 ∧ b6 = b6 ∧ True) (by kernel_rfl) ⟨rfl, rfl, trivial⟩ ?_
              refine nx_op (by kernel_rfl) (o_rv rfl (by kernel_rfl) (rv_eqArr .u64 .u64 (n := 4) (e := 23) [a2.c0, a2.c1, a2.c2, a2.c3] [a0.c0, a0.c1, a0.c2, a0.c3] (by kernel_rfl) (by kernel_rfl) (by kernel_rfl) (by kernel_rfl) rfl rfl rfl rfl) ?_)
              refine nx_nil (nx_then ?_)
              refine nx_cond (b := ([a2.c0, a2.c1, a2.c2, a2.c3] == [a0.c0, a0.c1, a0.c2, a0.c3])) rfl (fun hc52 => ?_) (fun hc52 => ?_)
              · have hx50 := cond_t hc52 hx50
                refine nx_seq (nx_region ?_)
                refine nx_mem 2 [3, 0] [8, 9, 11, 12, 63, 64] [(8, .int .u64 0), (9, .int .i64 0), (11, .int .u64 x17), (12, .int .i64 x44), (63, .agg #[.int .u64 a0.c0, .int .u64 a0.c1, .int .u64 a0.c2, .int .u64 a0.c3]), (64, .agg #[.int .u64 0, .int .u64 0, .int .u64 0, .int .u64 0])] [⟨b8, #[.int .u64 0, .int .u64 0, .int .u64 0, .int .u64 0], 25⟩, ⟨b6, #[.int .u64 a2.c0, .int .u64 a2.c1, .int .u64 a2.c2, .int .u64 a2.c3], 25⟩, ⟨b5, #[.int .u64 a1.c0, .int .u64 a1.c1, .int .u64 a1.c2, .int .u64 a1.c3], 25⟩, ⟨b4, #[.int .u64 a0.c0, .int .u64 a0.c1, .int .u64 a0.c2, .int .u64 a0.c3], 25⟩] (b8 = b8 ∧ b4 = b4 ∧ True) (by kernel_rfl) ⟨rfl, rfl, trivial⟩ ?_
                refine nx_op (by kernel_rfl) (o_rv rfl (by kernel_rfl) (rv_eqArr .u64 .u64 (n := 4) (e := 23) [a0.c0, a0.c1, a0.c2, a0.c3] [0, 0, 0, 0] (by kernel_rfl) (by kernel_rfl) (by kernel_rfl) (by kernel_rfl) rfl rfl rfl rfl) ?_)
                refine nx_nil (nx_then ?_)
                refine nx_cond (b := ([a0.c0, a0.c1, a0.c2, a0.c3] == [0, 0, 0, 0])) rfl (fun hc53 => ?_) (fun hc53 => ?_)
                · have hx50 := cond_t hc53 hx50
                  refine nx_region ?_
                  refine nx_run 3 [8, 9, 11, 12] [(8, .int .u64 0), (9, .int .i64 0), (11, .int .u64 x17), (12, .int .i64 (wi64 (x44 + 19900)))] (by kernel_rfl) ?_
                  refine nx_nil ?_
                  refine nx_sel [8, 9, 11, 12] [(8, .int .u64 0), (9, .int .i64 0), (11, .int .u64 x17), (12, .int .i64 (wi64 (x44 + 19900)))] rfl ?_
                  refine nx_meet (fun t w' hF hS => ?_)
                  obtain rfl := ret_s hx50
                  exact ⟨hF, hS⟩
                · have hx50 := cond_f hc53 hx50
                  refine nx_region ?_
                  refine nx_run 3 [8, 9, 11, 12] [(8, .int .u64 0), (9, .int .i64 0), (11, .int .u64 x17), (12, .int .i64 (wi64 (x44 + 2800)))] (by kernel_rfl) ?_
                  refine nx_nil ?_
                  refine nx_sel [8, 9, 11, 12] [(8, .int .u64 0), (9, .int .i64 0), (11, .int .u64 x17), (12, .int .i64 (wi64 (x44 + 2800)))] rfl ?_
                  refine nx_meet (fun t w' hF hS => ?_)
                  obtain rfl := ret_s hx50
                  exact ⟨hF, hS⟩
              · have hx50 := cond_f hc52 hx50
                refine nx_skip ?_
                refine nx_sel [8, 9, 11, 12] [(8, .int .u64 0), (9, .int .i64 0), (11, .int .u64 x17), (12, .int .i64 x44)] rfl ?_
                refine nx_meet (fun t w' hF hS => ?_)
                obtain rfl := ret_s hx50
                exact ⟨hF, hS⟩
          · refine nx_seq (nx_region ?_)
            refine nx_mem 2 [3, 0] [4, 5, 6, 8, 9, 10, 11, 12, 47, 48] [(4, .pointer (some ⟨b4, 0, none⟩)), (5, .pointer (some ⟨b5, 0, none⟩)), (6, .pointer (some ⟨b6, 0, none⟩)), (8, .int .u64 0), (9, .int .i64 0), (10, .pointer (some ⟨b8, 0, none⟩)), (11, .int .u64 x17), (12, .int .i64 0), (47, .agg #[.int .u64 a0.c0, .int .u64 a0.c1, .int .u64 a0.c2, .int .u64 a0.c3]), (48, .agg #[.int .u64 0, .int .u64 0, .int .u64 0, .int .u64 0])] [⟨b8, #[.int .u64 0, .int .u64 0, .int .u64 0, .int .u64 0], 25⟩, ⟨b6, #[.int .u64 a2.c0, .int .u64 a2.c1, .int .u64 a2.c2, .int .u64 a2.c3], 25⟩, ⟨b5, #[.int .u64 a1.c0, .int .u64 a1.c1, .int .u64 a1.c2, .int .u64 a1.c3], 25⟩, ⟨b4, #[.int .u64 a0.c0, .int .u64 a0.c1, .int .u64 a0.c2, .int .u64 a0.c3], 25⟩] (b8 = b8 ∧ b4 = b4 ∧ True) (by kernel_rfl) ⟨rfl, rfl, trivial⟩ ?_
            refine nx_op (by kernel_rfl) (o_rv rfl (by kernel_rfl) (rv_neArr .u64 .u64 (n := 4) (e := 23) [a0.c0, a0.c1, a0.c2, a0.c3] [0, 0, 0, 0] (by kernel_rfl) (by kernel_rfl) (by kernel_rfl) (by kernel_rfl) rfl rfl rfl rfl) ?_)
            refine nx_nil (nx_then ?_)
            refine nx_cond (b := (!([a0.c0, a0.c1, a0.c2, a0.c3] == [0, 0, 0, 0]))) rfl (fun hc54 => ?_) (fun hc54 => ?_)
            · have hx45 := cond_t hc54 hx45
              obtain ⟨x56, hx57, hx45⟩ := bind_s hx45
              refine nx_join (fun t w' => Fr Try.f16.ntmps t [(4, .pointer (some ⟨b4, 0, none⟩)), (6, .pointer (some ⟨b6, 0, none⟩)), (8, .int .u64 0), (9, .int .i64 0), (10, .pointer (some ⟨b8, 0, none⟩)), (11, .int .u64 x17), (12, .int .i64 x56)] ∧ Sta [] w w' [⟨b8, #[.int .u64 0, .int .u64 0, .int .u64 0, .int .u64 0], 25⟩, ⟨b6, #[.int .u64 a2.c0, .int .u64 a2.c1, .int .u64 a2.c2, .int .u64 a2.c3], 25⟩, ⟨b5, #[.int .u64 a1.c0, .int .u64 a1.c1, .int .u64 a1.c2, .int .u64 a1.c3], 25⟩, ⟨b4, #[.int .u64 a0.c0, .int .u64 a0.c1, .int .u64 a0.c2, .int .u64 a0.c3], 25⟩] [] []) ?_ ?_
              · rintro t w' ⟨hF, hS⟩
                refine nx_wp (c := ⟨Try.f16.ntmps, [], w⟩) hF hS ?_
                refine nx_seq (nx_region ?_)
                refine nx_mem 2 [1, 0] [4, 6, 8, 9, 10, 11, 12, 55, 56] [(4, .pointer (some ⟨b4, 0, none⟩)), (6, .pointer (some ⟨b6, 0, none⟩)), (8, .int .u64 0), (9, .int .i64 0), (10, .pointer (some ⟨b8, 0, none⟩)), (11, .int .u64 x17), (12, .int .i64 x56), (55, .agg #[.int .u64 a2.c0, .int .u64 a2.c1, .int .u64 a2.c2, .int .u64 a2.c3]), (56, .agg #[.int .u64 0, .int .u64 0, .int .u64 0, .int .u64 0])] [⟨b8, #[.int .u64 0, .int .u64 0, .int .u64 0, .int .u64 0], 25⟩, ⟨b6, #[.int .u64 a2.c0, .int .u64 a2.c1, .int .u64 a2.c2, .int .u64 a2.c3], 25⟩, ⟨b5, #[.int .u64 a1.c0, .int .u64 a1.c1, .int .u64 a1.c2, .int .u64 a1.c3], 25⟩, ⟨b4, #[.int .u64 a0.c0, .int .u64 a0.c1, .int .u64 a0.c2, .int .u64 a0.c3], 25⟩] (b8 = b8 ∧ b6 = b6 ∧ True) (by kernel_rfl) ⟨rfl, rfl, trivial⟩ ?_
                refine nx_op (by kernel_rfl) (o_rv rfl (by kernel_rfl) (rv_eqArr .u64 .u64 (n := 4) (e := 23) [a2.c0, a2.c1, a2.c2, a2.c3] [0, 0, 0, 0] (by kernel_rfl) (by kernel_rfl) (by kernel_rfl) (by kernel_rfl) rfl rfl rfl rfl) ?_)
                refine nx_nil (nx_then ?_)
                refine nx_cond (b := ([a2.c0, a2.c1, a2.c2, a2.c3] == [0, 0, 0, 0])) rfl (fun hc59 => ?_) (fun hc59 => ?_)
                · have hx45 := cond_t hc59 hx45
                  refine nx_region ?_
                  refine nx_run 3 [4, 6, 8, 9, 10, 11, 12] [(4, .pointer (some ⟨b4, 0, none⟩)), (6, .pointer (some ⟨b6, 0, none⟩)), (8, .int .u64 0), (9, .int .i64 0), (10, .pointer (some ⟨b8, 0, none⟩)), (11, .int .u64 x17), (12, .int .i64 (wi64 (x56 + 4800)))] (by kernel_rfl) ?_
                  refine nx_nil ?_
                  refine nx_sel [4, 6, 8, 9, 10, 11, 12] [(4, .pointer (some ⟨b4, 0, none⟩)), (6, .pointer (some ⟨b6, 0, none⟩)), (8, .int .u64 0), (9, .int .i64 0), (10, .pointer (some ⟨b8, 0, none⟩)), (11, .int .u64 x17), (12, .int .i64 (wi64 (x56 + 4800)))] rfl ?_
                  refine nx_meet (fun t w' hF hS => ?_)
                  obtain rfl := ret_s hx45
                  exact ⟨hF, hS⟩
                · have hx45 := cond_f hc59 hx45
                  refine nx_skip ?_
                  refine nx_sel [4, 6, 8, 9, 10, 11, 12] [(4, .pointer (some ⟨b4, 0, none⟩)), (6, .pointer (some ⟨b6, 0, none⟩)), (8, .int .u64 0), (9, .int .i64 0), (10, .pointer (some ⟨b8, 0, none⟩)), (11, .int .u64 x17), (12, .int .i64 x56)] rfl ?_
                  refine nx_meet (fun t w' hF hS => ?_)
                  obtain rfl := ret_s hx45
                  exact ⟨hF, hS⟩
              · refine nx_seq (nx_region ?_)
                refine nx_mem 2 [2, 0] [4, 6, 8, 9, 10, 11, 12, 50, 51] [(4, .pointer (some ⟨b4, 0, none⟩)), (6, .pointer (some ⟨b6, 0, none⟩)), (8, .int .u64 0), (9, .int .i64 0), (10, .pointer (some ⟨b8, 0, none⟩)), (11, .int .u64 x17), (12, .int .i64 0), (50, .agg #[.int .u64 a1.c0, .int .u64 a1.c1, .int .u64 a1.c2, .int .u64 a1.c3]), (51, .agg #[.int .u64 0, .int .u64 0, .int .u64 0, .int .u64 0])] [⟨b8, #[.int .u64 0, .int .u64 0, .int .u64 0, .int .u64 0], 25⟩, ⟨b6, #[.int .u64 a2.c0, .int .u64 a2.c1, .int .u64 a2.c2, .int .u64 a2.c3], 25⟩, ⟨b5, #[.int .u64 a1.c0, .int .u64 a1.c1, .int .u64 a1.c2, .int .u64 a1.c3], 25⟩, ⟨b4, #[.int .u64 a0.c0, .int .u64 a0.c1, .int .u64 a0.c2, .int .u64 a0.c3], 25⟩] (b8 = b8 ∧ b5 = b5 ∧ True) (by kernel_rfl) ⟨rfl, rfl, trivial⟩ ?_
                refine nx_op (by kernel_rfl) (o_rv rfl (by kernel_rfl) (rv_eqArr .u64 .u64 (n := 4) (e := 23) [a1.c0, a1.c1, a1.c2, a1.c3] [0, 0, 0, 0] (by kernel_rfl) (by kernel_rfl) (by kernel_rfl) (by kernel_rfl) rfl rfl rfl rfl) ?_)
                refine nx_nil (nx_then ?_)
                refine nx_cond (b := ([a1.c0, a1.c1, a1.c2, a1.c3] == [0, 0, 0, 0])) rfl (fun hc60 => ?_) (fun hc60 => ?_)
                · have hx57 := cond_t hc60 hx57
                  refine nx_region ?_
                  refine nx_run 3 [4, 6, 8, 9, 10, 11, 12] [(4, .pointer (some ⟨b4, 0, none⟩)), (6, .pointer (some ⟨b6, 0, none⟩)), (8, .int .u64 0), (9, .int .i64 0), (10, .pointer (some ⟨b8, 0, none⟩)), (11, .int .u64 x17), (12, .int .i64 (-4800))] (by kernel_rfl) ?_
                  refine nx_nil ?_
                  refine nx_sel [4, 6, 8, 9, 10, 11, 12] [(4, .pointer (some ⟨b4, 0, none⟩)), (6, .pointer (some ⟨b6, 0, none⟩)), (8, .int .u64 0), (9, .int .i64 0), (10, .pointer (some ⟨b8, 0, none⟩)), (11, .int .u64 x17), (12, .int .i64 (-4800))] rfl ?_
                  refine nx_meet (fun t w' hF hS => ?_)
                  obtain rfl := ret_s hx57
                  exact ⟨hF, hS⟩
                · have hx57 := cond_f hc60 hx57
                  refine nx_skip ?_
                  refine nx_sel [4, 6, 8, 9, 10, 11, 12] [(4, .pointer (some ⟨b4, 0, none⟩)), (6, .pointer (some ⟨b6, 0, none⟩)), (8, .int .u64 0), (9, .int .i64 0), (10, .pointer (some ⟨b8, 0, none⟩)), (11, .int .u64 x17), (12, .int .i64 0)] rfl ?_
                  refine nx_meet (fun t w' hF hS => ?_)
                  obtain rfl := ret_s hx57
                  exact ⟨hF, hS⟩
            · have hx45 := cond_f hc54 hx45
              refine nx_skip ?_
              refine nx_sel [4, 6, 8, 9, 10, 11, 12] [(4, .pointer (some ⟨b4, 0, none⟩)), (6, .pointer (some ⟨b6, 0, none⟩)), (8, .int .u64 0), (9, .int .i64 0), (10, .pointer (some ⟨b8, 0, none⟩)), (11, .int .u64 x17), (12, .int .i64 0)] rfl ?_
              refine nx_meet (fun t w' hF hS => ?_)
              obtain rfl := ret_s hx45
              exact ⟨hF, hS⟩
    · refine nx_seq (nx_region ?_)
      refine nx_run 2 [4, 5, 6, 8, 9, 10, 11, 27] [(4, .pointer (some ⟨b4, 0, none⟩)), (5, .pointer (some ⟨b5, 0, none⟩)), (6, .pointer (some ⟨b6, 0, none⟩)), (8, .int .u64 0), (9, .int .i64 0), (10, .pointer (some ⟨b8, 0, none⟩)), (11, .int .u64 x13), (27, .bool (!a3))] (by kernel_rfl) ?_
      refine nx_nil (nx_then ?_)
      refine nx_cond (b := (!a3)) rfl (fun hc61 => ?_) (fun hc61 => ?_)
      · have hx18 := cond_t hc61 hx18
        refine nx_region ?_
        refine nx_run 3 [4, 5, 6, 8, 9, 10, 11] [(4, .pointer (some ⟨b4, 0, none⟩)), (5, .pointer (some ⟨b5, 0, none⟩)), (6, .pointer (some ⟨b6, 0, none⟩)), (8, .int .u64 0), (9, .int .i64 0), (10, .pointer (some ⟨b8, 0, none⟩)), (11, .int .u64 (wu64 (x13 + 2100)))] (by kernel_rfl) ?_
        refine nx_nil ?_
        refine nx_sel [4, 5, 6, 8, 9, 10, 11] [(4, .pointer (some ⟨b4, 0, none⟩)), (5, .pointer (some ⟨b5, 0, none⟩)), (6, .pointer (some ⟨b6, 0, none⟩)), (8, .int .u64 0), (9, .int .i64 0), (10, .pointer (some ⟨b8, 0, none⟩)), (11, .int .u64 (wu64 (x13 + 2100)))] rfl ?_
        refine nx_meet (fun t w' hF hS => ?_)
        obtain rfl := ret_s hx18
        exact ⟨hF, hS⟩
      · have hx18 := cond_f hc61 hx18
        refine nx_skip ?_
        refine nx_sel [4, 5, 6, 8, 9, 10, 11] [(4, .pointer (some ⟨b4, 0, none⟩)), (5, .pointer (some ⟨b5, 0, none⟩)), (6, .pointer (some ⟨b6, 0, none⟩)), (8, .int .u64 0), (9, .int .i64 0), (10, .pointer (some ⟨b8, 0, none⟩)), (11, .int .u64 x13)] rfl ?_
        refine nx_meet (fun t w' hF hS => ?_)
        obtain rfl := ret_s hx18
        exact ⟨hF, hS⟩
  · refine nx_block ?_
    obtain ⟨x63, hx64, hx14⟩ := bind_s hx14
    refine nx_join (fun t w' => Fr Try.f16.ntmps t [(3, .bool a3), (4, .pointer (some ⟨b4, 0, none⟩)), (5, .pointer (some ⟨b5, 0, none⟩)), (6, .pointer (some ⟨b6, 0, none⟩)), (8, .int .u64 0), (9, .int .i64 0), (10, .pointer (some ⟨b8, 0, none⟩)), (11, .int .u64 2900), (13, .bool x63)] ∧ Sta [] w w' [⟨b8, #[.int .u64 0, .int .u64 0, .int .u64 0, .int .u64 0], 25⟩, ⟨b6, #[.int .u64 a2.c0, .int .u64 a2.c1, .int .u64 a2.c2, .int .u64 a2.c3], 25⟩, ⟨b5, #[.int .u64 a1.c0, .int .u64 a1.c1, .int .u64 a1.c2, .int .u64 a1.c3], 25⟩, ⟨b4, #[.int .u64 a0.c0, .int .u64 a0.c1, .int .u64 a0.c2, .int .u64 a0.c3], 25⟩] [] []) ?_ ?_
    · rintro t w' ⟨hF, hS⟩
      refine nx_wp (c := ⟨Try.f16.ntmps, [], w⟩) hF hS ?_
      refine nx_cond (b := x63) rfl (fun hc66 => ?_) (fun hc66 => ?_)
      · have hx14 := cond_t hc66 hx14
        refine nx_region ?_
        refine nx_run 1 [3, 4, 5, 6, 8, 9, 10, 11] [(3, .bool a3), (4, .pointer (some ⟨b4, 0, none⟩)), (5, .pointer (some ⟨b5, 0, none⟩)), (6, .pointer (some ⟨b6, 0, none⟩)), (8, .int .u64 0), (9, .int .i64 0), (10, .pointer (some ⟨b8, 0, none⟩)), (11, .int .u64 100)] (by kernel_rfl) ?_
        refine nx_nil (nx_in ?_)
        refine nx_sel [3, 4, 5, 6, 8, 9, 10, 11] [(3, .bool a3), (4, .pointer (some ⟨b4, 0, none⟩)), (5, .pointer (some ⟨b5, 0, none⟩)), (6, .pointer (some ⟨b6, 0, none⟩)), (8, .int .u64 0), (9, .int .i64 0), (10, .pointer (some ⟨b8, 0, none⟩)), (11, .int .u64 100)] rfl ?_
        refine nx_meet (fun t w' hF hS => ?_)
        obtain rfl := ret_s hx14
        exact ⟨hF, hS⟩
      · have hx14 := cond_f hc66 hx14
        refine nx_seq (nx_region ?_)
        refine nx_mem 2 [3, 0] [3, 4, 5, 6, 8, 9, 10, 11, 23, 24] [(3, .bool a3), (4, .pointer (some ⟨b4, 0, none⟩)), (5, .pointer (some ⟨b5, 0, none⟩)), (6, .pointer (some ⟨b6, 0, none⟩)), (8, .int .u64 0), (9, .int .i64 0), (10, .pointer (some ⟨b8, 0, none⟩)), (11, .int .u64 2900), (23, .agg #[.int .u64 a0.c0, .int .u64 a0.c1, .int .u64 a0.c2, .int .u64 a0.c3]), (24, .agg #[.int .u64 0, .int .u64 0, .int .u64 0, .int .u64 0])] [⟨b8, #[.int .u64 0, .int .u64 0, .int .u64 0, .int .u64 0], 25⟩, ⟨b6, #[.int .u64 a2.c0, .int .u64 a2.c1, .int .u64 a2.c2, .int .u64 a2.c3], 25⟩, ⟨b5, #[.int .u64 a1.c0, .int .u64 a1.c1, .int .u64 a1.c2, .int .u64 a1.c3], 25⟩, ⟨b4, #[.int .u64 a0.c0, .int .u64 a0.c1, .int .u64 a0.c2, .int .u64 a0.c3], 25⟩] (b8 = b8 ∧ b4 = b4 ∧ True) (by kernel_rfl) ⟨rfl, rfl, trivial⟩ ?_
        refine nx_op (by kernel_rfl) (o_rv rfl (by kernel_rfl) (rv_eqArr .u64 .u64 (n := 4) (e := 23) [a0.c0, a0.c1, a0.c2, a0.c3] [0, 0, 0, 0] (by kernel_rfl) (by kernel_rfl) (by kernel_rfl) (by kernel_rfl) rfl rfl rfl rfl) ?_)
        refine nx_run 1 [3, 4, 5, 6, 8, 9, 10, 11, 22] [(3, .bool a3), (4, .pointer (some ⟨b4, 0, none⟩)), (5, .pointer (some ⟨b5, 0, none⟩)), (6, .pointer (some ⟨b6, 0, none⟩)), (8, .int .u64 0), (9, .int .i64 0), (10, .pointer (some ⟨b8, 0, none⟩)), (11, .int .u64 2900), (22, .bool ([a0.c0, a0.c1, a0.c2, a0.c3] == [0, 0, 0, 0]))] (by kernel_rfl) ?_
        refine nx_nil (nx_then ?_)
        refine nx_cond (b := ([a0.c0, a0.c1, a0.c2, a0.c3] == [0, 0, 0, 0])) rfl (fun hc67 => ?_) (fun hc67 => ?_)
        · have hx14 := cond_t hc67 hx14
          refine nx_region ?_
          refine nx_run 1 [3, 4, 5, 6, 8, 9, 10, 11] [(3, .bool a3), (4, .pointer (some ⟨b4, 0, none⟩)), (5, .pointer (some ⟨b5, 0, none⟩)), (6, .pointer (some ⟨b6, 0, none⟩)), (8, .int .u64 0), (9, .int .i64 0), (10, .pointer (some ⟨b8, 0, none⟩)), (11, .int .u64 20000)] (by kernel_rfl) ?_
          refine nx_nil (nx_in ?_)
          refine nx_sel [3, 4, 5, 6, 8, 9, 10, 11] [(3, .bool a3), (4, .pointer (some ⟨b4, 0, none⟩)), (5, .pointer (some ⟨b5, 0, none⟩)), (6, .pointer (some ⟨b6, 0, none⟩)), (8, .int .u64 0), (9, .int .i64 0), (10, .pointer (some ⟨b8, 0, none⟩)), (11, .int .u64 20000)] rfl ?_
          refine nx_meet (fun t w' hF hS => ?_)
          obtain rfl := ret_s hx14
          exact ⟨hF, hS⟩
        · have hx14 := cond_f hc67 hx14
          refine nx_skip (nx_in ?_)
          refine nx_sel [3, 4, 5, 6, 8, 9, 10, 11] [(3, .bool a3), (4, .pointer (some ⟨b4, 0, none⟩)), (5, .pointer (some ⟨b5, 0, none⟩)), (6, .pointer (some ⟨b6, 0, none⟩)), (8, .int .u64 0), (9, .int .i64 0), (10, .pointer (some ⟨b8, 0, none⟩)), (11, .int .u64 2900)] rfl ?_
          refine nx_meet (fun t w' hF hS => ?_)
          obtain rfl := ret_s hx14
          exact ⟨hF, hS⟩
    · refine nx_region ?_
      refine nx_mem 2 [1, 2] [3, 4, 5, 6, 8, 9, 10, 11, 14, 15] [(3, .bool a3), (4, .pointer (some ⟨b4, 0, none⟩)), (5, .pointer (some ⟨b5, 0, none⟩)), (6, .pointer (some ⟨b6, 0, none⟩)), (8, .int .u64 0), (9, .int .i64 0), (10, .pointer (some ⟨b8, 0, none⟩)), (11, .int .u64 2900), (14, .agg #[.int .u64 a2.c0, .int .u64 a2.c1, .int .u64 a2.c2, .int .u64 a2.c3]), (15, .agg #[.int .u64 a1.c0, .int .u64 a1.c1, .int .u64 a1.c2, .int .u64 a1.c3])] [⟨b8, #[.int .u64 0, .int .u64 0, .int .u64 0, .int .u64 0], 25⟩, ⟨b6, #[.int .u64 a2.c0, .int .u64 a2.c1, .int .u64 a2.c2, .int .u64 a2.c3], 25⟩, ⟨b5, #[.int .u64 a1.c0, .int .u64 a1.c1, .int .u64 a1.c2, .int .u64 a1.c3], 25⟩, ⟨b4, #[.int .u64 a0.c0, .int .u64 a0.c1, .int .u64 a0.c2, .int .u64 a0.c3], 25⟩] (b5 = b5 ∧ b6 = b6 ∧ True) (by kernel_rfl) ⟨rfl, rfl, trivial⟩ ?_
      refine nx_op (by kernel_rfl) (o_rv rfl (by kernel_rfl) (rv_eqArr .u64 .u64 (n := 4) (e := 23) [a2.c0, a2.c1, a2.c2, a2.c3] [a1.c0, a1.c1, a1.c2, a1.c3] (by kernel_rfl) (by kernel_rfl) (by kernel_rfl) (by kernel_rfl) rfl rfl rfl rfl) ?_)
      refine nx_run 1 [3, 4, 5, 6, 8, 9, 10, 11, 17] [(3, .bool a3), (4, .pointer (some ⟨b4, 0, none⟩)), (5, .pointer (some ⟨b5, 0, none⟩)), (6, .pointer (some ⟨b6, 0, none⟩)), (8, .int .u64 0), (9, .int .i64 0), (10, .pointer (some ⟨b8, 0, none⟩)), (11, .int .u64 2900), (17, .bool ([a2.c0, a2.c1, a2.c2, a2.c3] == [a1.c0, a1.c1, a1.c2, a1.c3]))] (by kernel_rfl) ?_
      refine nx_split (([a2.c0, a2.c1, a2.c2, a2.c3] == [a1.c0, a1.c1, a1.c2, a1.c3])) (fun hc68 => ?_) (fun hc68 => ?_)
      · have hx64 := cond_t hc68 hx64
        refine nx_put 17 (.bool true) rfl (congrArg Value.bool hc68) ?_
        refine nx_run 5 [3, 4, 5, 6, 8, 9, 10, 11, 13] [(3, .bool a3), (4, .pointer (some ⟨b4, 0, none⟩)), (5, .pointer (some ⟨b5, 0, none⟩)), (6, .pointer (some ⟨b6, 0, none⟩)), (8, .int .u64 0), (9, .int .i64 0), (10, .pointer (some ⟨b8, 0, none⟩)), (11, .int .u64 2900), (13, .bool true)] (by kernel_rfl) ?_
        refine nx_nil ?_
        refine nx_sel [3, 4, 5, 6, 8, 9, 10, 11, 13] [(3, .bool a3), (4, .pointer (some ⟨b4, 0, none⟩)), (5, .pointer (some ⟨b5, 0, none⟩)), (6, .pointer (some ⟨b6, 0, none⟩)), (8, .int .u64 0), (9, .int .i64 0), (10, .pointer (some ⟨b8, 0, none⟩)), (11, .int .u64 2900), (13, .bool true)] rfl ?_
        refine nx_meet (fun t w' hF hS => ?_)
        obtain rfl := ret_s hx64
        exact ⟨hF, hS⟩
      · have hx64 := cond_f hc68 hx64
        refine nx_put 17 (.bool false) rfl (congrArg Value.bool hc68) ?_
        refine nx_mem 2 [2, 3] [3, 4, 5, 6, 8, 9, 10, 11, 17, 18, 19] [(3, .bool a3), (4, .pointer (some ⟨b4, 0, none⟩)), (5, .pointer (some ⟨b5, 0, none⟩)), (6, .pointer (some ⟨b6, 0, none⟩)), (8, .int .u64 0), (9, .int .i64 0), (10, .pointer (some ⟨b8, 0, none⟩)), (11, .int .u64 2900), (17, .bool false), (18, .agg #[.int .u64 a1.c0, .int .u64 a1.c1, .int .u64 a1.c2, .int .u64 a1.c3]), (19, .agg #[.int .u64 a0.c0, .int .u64 a0.c1, .int .u64 a0.c2, .int .u64 a0.c3])] [⟨b8, #[.int .u64 0, .int .u64 0, .int .u64 0, .int .u64 0], 25⟩, ⟨b6, #[.int .u64 a2.c0, .int .u64 a2.c1, .int .u64 a2.c2, .int .u64 a2.c3], 25⟩, ⟨b5, #[.int .u64 a1.c0, .int .u64 a1.c1, .int .u64 a1.c2, .int .u64 a1.c3], 25⟩, ⟨b4, #[.int .u64 a0.c0, .int .u64 a0.c1, .int .u64 a0.c2, .int .u64 a0.c3], 25⟩] (b4 = b4 ∧ b5 = b5 ∧ True) (by kernel_rfl) ⟨rfl, rfl, trivial⟩ ?_
        refine nx_op (by kernel_rfl) (o_rv rfl (by kernel_rfl) (rv_neArr .u64 .u64 (n := 4) (e := 23) [a1.c0, a1.c1, a1.c2, a1.c3] [a0.c0, a0.c1, a0.c2, a0.c3] (by kernel_rfl) (by kernel_rfl) (by kernel_rfl) (by kernel_rfl) rfl rfl rfl rfl) ?_)
        refine nx_run 2 [3, 4, 5, 6, 8, 9, 10, 11, 13] [(3, .bool a3), (4, .pointer (some ⟨b4, 0, none⟩)), (5, .pointer (some ⟨b5, 0, none⟩)), (6, .pointer (some ⟨b6, 0, none⟩)), (8, .int .u64 0), (9, .int .i64 0), (10, .pointer (some ⟨b8, 0, none⟩)), (11, .int .u64 2900), (13, .bool (!([a1.c0, a1.c1, a1.c2, a1.c3] == [a0.c0, a0.c1, a0.c2, a0.c3])))] (by kernel_rfl) ?_
        refine nx_nil ?_
        refine nx_sel [3, 4, 5, 6, 8, 9, 10, 11, 13] [(3, .bool a3), (4, .pointer (some ⟨b4, 0, none⟩)), (5, .pointer (some ⟨b5, 0, none⟩)), (6, .pointer (some ⟨b6, 0, none⟩)), (8, .int .u64 0), (9, .int .i64 0), (10, .pointer (some ⟨b8, 0, none⟩)), (11, .int .u64 2900), (13, .bool (!([a1.c0, a1.c1, a1.c2, a1.c3] == [a0.c0, a0.c1, a0.c2, a0.c3])))] rfl ?_
        refine nx_meet (fun t w' hF hS => ?_)
        obtain rfl := ret_s hx64
        exact ⟨hF, hS⟩
end Go.Cal
