/- The walk of the function cairn/cairntop.stored: what it computes, as a Lean function, and that each of its calls answers so. Condition: the function gives an answer (some). Printed by program. -/
import Derived.Test.YtcjampbgjjhckaaKB
namespace Go.Cal
open Go Go.RowKit Go.Proofs
set_option maxRecDepth 100000
set_option linter.unusedVariables false
-- cairn/cairntop.stored
def F15 (a0 : C4) (a1 : C4) (a2 : C4) (a3 : Bool) : Option (Int × Int) := (((((bif (!([a2.c0, a2.c1, a2.c2, a2.c3] == [a1.c0, a1.c1, a1.c2, a1.c3])) then some ([a1.c0, a1.c1, a1.c2, a1.c3] == [a0.c0, a0.c1, a0.c2, a0.c3]) else some false) : Option Bool)).bind (fun x95 => (bif x95 then (bif ([a0.c0, a0.c1, a0.c2, a0.c3] == [0, 0, 0, 0]) then some 20000 else some 2900) else some 100)) : Option Int)).bind (fun x13 => (((bif (!a3) then some (wu64 (x13 + 2100)) else some x13) : Option Int)).bind (fun x17 => (((bif ([a2.c0, a2.c1, a2.c2, a2.c3] == [a1.c0, a1.c1, a1.c2, a1.c3]) then some 0 else (bif ([a1.c0, a1.c1, a1.c2, a1.c3] == [a0.c0, a0.c1, a0.c2, a0.c3]) then (((bif (!([a0.c0, a0.c1, a0.c2, a0.c3] == [0, 0, 0, 0])) then some ([a2.c0, a2.c1, a2.c2, a2.c3] == [0, 0, 0, 0]) else some false) : Option Bool)).bind (fun x46 => (bif x46 then some 4800 else some 0)) else (((((bif (!([a0.c0, a0.c1, a0.c2, a0.c3] == [0, 0, 0, 0])) then some ([a1.c0, a1.c1, a1.c2, a1.c3] == [0, 0, 0, 0]) else some false) : Option Bool)).bind (fun x88 => (bif x88 then some (-4800) else some 0)) : Option Int)).bind (fun x54 => (((((bif (!([a0.c0, a0.c1, a0.c2, a0.c3] == [0, 0, 0, 0])) then some ([a2.c0, a2.c1, a2.c2, a2.c3] == [0, 0, 0, 0]) else some false) : Option Bool)).bind (fun x82 => (bif x82 then some (wi64 (x54 + 4800)) else some x54)) : Option Int)).bind (fun x60 => (((((bif ([a2.c0, a2.c1, a2.c2, a2.c3] == [a0.c0, a0.c1, a0.c2, a0.c3]) then some ([a0.c0, a0.c1, a0.c2, a0.c3] == [0, 0, 0, 0]) else some false) : Option Bool)).bind (fun x76 => (bif x76 then some (wi64 (x60 + 19900)) else some x60)) : Option Int)).bind (fun x66 => (((bif ([a2.c0, a2.c1, a2.c2, a2.c3] == [a0.c0, a0.c1, a0.c2, a0.c3]) then some (!([a0.c0, a0.c1, a0.c2, a0.c3] == [0, 0, 0, 0])) else some false) : Option Bool)).bind (fun x70 => (bif x70 then some (wi64 (x66 + 2800)) else some x66))))))) : Option Int)).bind (fun x40 => some (x17, x40))))
theorem ct15 (a0 : C4) (a1 : C4) (a2 : C4) (a3 : Bool) (S : Nat → Prop) (w : World) {r : (Int × Int)} (H : F15 a0 a1 a2 a3 = some r) : Calls Try.prog 15 #[.agg #[.int .u64 a0.c0, .int .u64 a0.c1, .int .u64 a0.c2, .int .u64 a0.c3], .agg #[.int .u64 a1.c0, .int .u64 a1.c1, .int .u64 a1.c2, .int .u64 a1.c3], .agg #[.int .u64 a2.c0, .int .u64 a2.c1, .int .u64 a2.c2, .int .u64 a2.c3], .bool a3] w (Post S w (fun (_ : Unit) => .tuple #[.int .u64 r.1, .int .i64 r.2]) (fun _ => []) (fun _ => [])) := by
  unfold F15 at H
  refine calls_of_nx [.agg #[.int .u64 a0.c0, .int .u64 a0.c1, .int .u64 a0.c2, .int .u64 a0.c3], .agg #[.int .u64 a1.c0, .int .u64 a1.c1, .int .u64 a1.c2, .int .u64 a1.c3], .agg #[.int .u64 a2.c0, .int .u64 a2.c1, .int .u64 a2.c2, .int .u64 a2.c3], .bool a3] [(0, .agg #[.int .u64 a0.c0, .int .u64 a0.c1, .int .u64 a0.c2, .int .u64 a0.c3]), (1, .agg #[.int .u64 a1.c0, .int .u64 a1.c1, .int .u64 a1.c2, .int .u64 a1.c3]), (2, .agg #[.int .u64 a2.c0, .int .u64 a2.c1, .int .u64 a2.c2, .int .u64 a2.c3]), (3, .bool a3)] Try.func15 rfl rfl rfl (Sta.begin w S [] (FactsOK.nil _ _)) ?_
  refine nx_seq (nx_region ?_)
  refine nx_op (by kernel_rfl) (o_box (.agg #[.int .u64 a0.c0, .int .u64 a0.c1, .int .u64 a0.c2, .int .u64 a0.c3]) (by kernel_rfl) rfl (by simp [undef]) (fun b4 => ?_))
  refine nx_op (by kernel_rfl) (o_box (.agg #[.int .u64 a1.c0, .int .u64 a1.c1, .int .u64 a1.c2, .int .u64 a1.c3]) (by kernel_rfl) rfl (by simp [undef]) (fun b5 => ?_))
  refine nx_op (by kernel_rfl) (o_box (.agg #[.int .u64 a2.c0, .int .u64 a2.c1, .int .u64 a2.c2, .int .u64 a2.c3]) (by kernel_rfl) rfl (by simp [undef]) (fun b6 => ?_))
  refine nx_run 2 [3, 4, 5, 6, 8, 9] [(3, .bool a3), (4, .pointer (some ⟨b4, 0, none⟩)), (5, .pointer (some ⟨b5, 0, none⟩)), (6, .pointer (some ⟨b6, 0, none⟩)), (8, .int .u64 0), (9, .int .i64 0)] (by kernel_rfl) ?_
  refine nx_nil (nx_then (nx_seq (nx_region ?_)))
  refine nx_run 1 [3, 4, 5, 6, 8, 9, 13] [(3, .bool a3), (4, .pointer (some ⟨b4, 0, none⟩)), (5, .pointer (some ⟨b5, 0, none⟩)), (6, .pointer (some ⟨b6, 0, none⟩)), (8, .int .u64 0), (9, .int .i64 0), (13, .agg #[.int .u64 0, .int .u64 0, .int .u64 0, .int .u64 0])] (by kernel_rfl) ?_
  refine nx_op (by kernel_rfl) (o_alloc (.agg #[.int .u64 0, .int .u64 0, .int .u64 0, .int .u64 0]) (by kernel_rfl) (by kernel_rfl) (fun b8 => ?_))
  refine nx_mem 1 [0] [3, 4, 5, 6, 8, 9, 10] [(3, .bool a3), (4, .pointer (some ⟨b4, 0, none⟩)), (5, .pointer (some ⟨b5, 0, none⟩)), (6, .pointer (some ⟨b6, 0, none⟩)), (8, .int .u64 0), (9, .int .i64 0), (10, .pointer (some ⟨b8, 0, none⟩))] [⟨b8, #[.int .u64 0, .int .u64 0, .int .u64 0, .int .u64 0], 25⟩, ⟨b6, #[.int .u64 a2.c0, .int .u64 a2.c1, .int .u64 a2.c2, .int .u64 a2.c3], 25⟩, ⟨b5, #[.int .u64 a1.c0, .int .u64 a1.c1, .int .u64 a1.c2, .int .u64 a1.c3], 25⟩, ⟨b4, #[.int .u64 a0.c0, .int .u64 a0.c1, .int .u64 a0.c2, .int .u64 a0.c3], 25⟩] (b8 = b8 ∧ True) (by kernel_rfl) ⟨rfl, trivial⟩ ?_
  refine nx_nil (nx_then (nx_seq (nx_region ?_)))
  refine nx_run 2 [3, 4, 5, 6, 8, 9, 10, 11, 12] [(3, .bool a3), (4, .pointer (some ⟨b4, 0, none⟩)), (5, .pointer (some ⟨b5, 0, none⟩)), (6, .pointer (some ⟨b6, 0, none⟩)), (8, .int .u64 0), (9, .int .i64 0), (10, .pointer (some ⟨b8, 0, none⟩)), (11, .int .u64 100), (12, .int .i64 0)] (by kernel_rfl) ?_
  refine nx_nil (nx_then ?_)
  obtain ⟨x13, hx14, H⟩ := bind_s H
  refine nx_join (fun t w' => Fr Try.f15.ntmps t [(3, .bool a3), (4, .pointer (some ⟨b4, 0, none⟩)), (5, .pointer (some ⟨b5, 0, none⟩)), (6, .pointer (some ⟨b6, 0, none⟩)), (8, .int .u64 0), (9, .int .i64 0), (10, .pointer (some ⟨b8, 0, none⟩)), (11, .int .u64 x13), (12, .int .i64 0)] ∧ Sta [] w w' [⟨b8, #[.int .u64 0, .int .u64 0, .int .u64 0, .int .u64 0], 25⟩, ⟨b6, #[.int .u64 a2.c0, .int .u64 a2.c1, .int .u64 a2.c2, .int .u64 a2.c3], 25⟩, ⟨b5, #[.int .u64 a1.c0, .int .u64 a1.c1, .int .u64 a1.c2, .int .u64 a1.c3], 25⟩, ⟨b4, #[.int .u64 a0.c0, .int .u64 a0.c1, .int .u64 a0.c2, .int .u64 a0.c3], 25⟩] [] []) ?_ ?_
  · rintro t w' ⟨hF, hS⟩
    refine nx_wp (c := ⟨Try.f15.ntmps, [], w⟩) hF hS ?_
    obtain ⟨x17, hx18, H⟩ := bind_s H
    refine nx_join (fun t w' => Fr Try.f15.ntmps t [(4, .pointer (some ⟨b4, 0, none⟩)), (5, .pointer (some ⟨b5, 0, none⟩)), (6, .pointer (some ⟨b6, 0, none⟩)), (8, .int .u64 0), (9, .int .i64 0), (10, .pointer (some ⟨b8, 0, none⟩)), (11, .int .u64 x17), (12, .int .i64 0)] ∧ Sta [] w w' [⟨b8, #[.int .u64 0, .int .u64 0, .int .u64 0, .int .u64 0], 25⟩, ⟨b6, #[.int .u64 a2.c0, .int .u64 a2.c1, .int .u64 a2.c2, .int .u64 a2.c3], 25⟩, ⟨b5, #[.int .u64 a1.c0, .int .u64 a1.c1, .int .u64 a1.c2, .int .u64 a1.c3], 25⟩, ⟨b4, #[.int .u64 a0.c0, .int .u64 a0.c1, .int .u64 a0.c2, .int .u64 a0.c3], 25⟩] [] []) ?_ ?_
    · rintro t w' ⟨hF, hS⟩
      refine nx_wp (c := ⟨Try.f15.ntmps, [], w⟩) hF hS ?_
      obtain ⟨x40, hx41, H⟩ := bind_s H
      refine nx_join (fun t w' => Fr Try.f15.ntmps t [(8, .int .u64 0), (9, .int .i64 0), (11, .int .u64 x17), (12, .int .i64 x40)] ∧ Sta [] w w' [⟨b8, #[.int .u64 0, .int .u64 0, .int .u64 0, .int .u64 0], 25⟩, ⟨b6, #[.int .u64 a2.c0, .int .u64 a2.c1, .int .u64 a2.c2, .int .u64 a2.c3], 25⟩, ⟨b5, #[.int .u64 a1.c0, .int .u64 a1.c1, .int .u64 a1.c2, .int .u64 a1.c3], 25⟩, ⟨b4, #[.int .u64 a0.c0, .int .u64 a0.c1, .int .u64 a0.c2, .int .u64 a0.c3], 25⟩] [] []) ?_ ?_
      · rintro t w' ⟨hF, hS⟩
        refine nx_wp (c := ⟨Try.f15.ntmps, [], w⟩) hF hS ?_
        refine nx_seq (nx_region ?_)
        refine nx_run 4 [8, 9] [(8, .int .u64 x17), (9, .int .i64 x40)] (by kernel_rfl) ?_
        refine nx_nil (nx_then (nx_ret ?_))
        obtain rfl := ret_s H
        exact nx_finish (S := S) (w := w) rfl rfl [.int .u64 x17, .int .i64 x40] Try.results15 (.tmp rfl (.tmp rfl .nil)) () rfl [] [] rfl rfl
      · refine nx_block (nx_seq (nx_region ?_))
        refine nx_mem 2 [1, 2] [4, 5, 6, 8, 9, 10, 11, 12, 70, 71] [(4, .pointer (some ⟨b4, 0, none⟩)), (5, .pointer (some ⟨b5, 0, none⟩)), (6, .pointer (some ⟨b6, 0, none⟩)), (8, .int .u64 0), (9, .int .i64 0), (10, .pointer (some ⟨b8, 0, none⟩)), (11, .int .u64 x17), (12, .int .i64 0), (70, .agg #[.int .u64 a2.c0, .int .u64 a2.c1, .int .u64 a2.c2, .int .u64 a2.c3]), (71, .agg #[.int .u64 a1.c0, .int .u64 a1.c1, .int .u64 a1.c2, .int .u64 a1.c3])] [⟨b8, #[.int .u64 0, .int .u64 0, .int .u64 0, .int .u64 0], 25⟩, ⟨b6, #[.int .u64 a2.c0, .int .u64 a2.c1, .int .u64 a2.c2, .int .u64 a2.c3], 25⟩, ⟨b5, #[.int .u64 a1.c0, .int .u64 a1.c1, .int .u64 a1.c2, .int .u64 a1.c3], 25⟩, ⟨b4, #[.int .u64 a0.c0, .int .u64 a0.c1, .int .u64 a0.c2, .int .u64 a0.c3], 25⟩] (b5 = b5 ∧ b6 = b6 ∧ True) (by kernel_rfl) ⟨rfl, rfl, trivial⟩ ?_
        refine nx_op (by kernel_rfl) (o_rv rfl (by kernel_rfl) (rv_eqArr .u64 .u64 (n := 4) (e := 23) [a2.c0, a2.c1, a2.c2, a2.c3] [a1.c0, a1.c1, a1.c2, a1.c3] (by kernel_rfl) (by kernel_rfl) (by kernel_rfl) (by kernel_rfl) rfl rfl rfl rfl) ?_)
        refine nx_run 1 [4, 5, 6, 8, 9, 10, 11, 12, 69] [(4, .pointer (some ⟨b4, 0, none⟩)), (5, .pointer (some ⟨b5, 0, none⟩)), (6, .pointer (some ⟨b6, 0, none⟩)), (8, .int .u64 0), (9, .int .i64 0), (10, .pointer (some ⟨b8, 0, none⟩)), (11, .int .u64 x17), (12, .int .i64 0), (69, .bool ([a2.c0, a2.c1, a2.c2, a2.c3] == [a1.c0, a1.c1, a1.c2, a1.c3]))] (by kernel_rfl) ?_
        refine nx_nil (nx_then ?_)
        refine nx_cond (b := ([a2.c0, a2.c1, a2.c2, a2.c3] == [a1.c0, a1.c1, a1.c2, a1.c3])) rfl (fun hc43 => ?_) (fun hc43 => ?_)
        · have hx41 := cond_t hc43 hx41
          refine nx_skip (nx_in ?_)
          refine nx_sel [8, 9, 11, 12] [(8, .int .u64 0), (9, .int .i64 0), (11, .int .u64 x17), (12, .int .i64 0)] rfl ?_
          refine nx_meet (fun t w' hF hS => ?_)
          obtain rfl := ret_s hx41
          exact ⟨hF, hS⟩
        · have hx41 := cond_f hc43 hx41
          refine nx_seq (nx_region ?_)
          refine nx_mem 2 [2, 3] [4, 5, 6, 8, 9, 10, 11, 12, 74, 75] [(4, .pointer (some ⟨b4, 0, none⟩)), (5, .pointer (some ⟨b5, 0, none⟩)), (6, .pointer (some ⟨b6, 0, none⟩)), (8, .int .u64 0), (9, .int .i64 0), (10, .pointer (some ⟨b8, 0, none⟩)), (11, .int .u64 x17), (12, .int .i64 0), (74, .agg #[.int .u64 a1.c0, .int .u64 a1.c1, .int .u64 a1.c2, .int .u64 a1.c3]), (75, .agg #[.int .u64 a0.c0, .int .u64 a0.c1, .int .u64 a0.c2, .int .u64 a0.c3])] [⟨b8, #[.int .u64 0, .int .u64 0, .int .u64 0, .int .u64 0], 25⟩, ⟨b6, #[.int .u64 a2.c0, .int .u64 a2.c1, .int .u64 a2.c2, .int .u64 a2.c3], 25⟩, ⟨b5, #[.int .u64 a1.c0, .int .u64 a1.c1, .int .u64 a1.c2, .int .u64 a1.c3], 25⟩, ⟨b4, #[.int .u64 a0.c0, .int .u64 a0.c1, .int .u64 a0.c2, .int .u64 a0.c3], 25⟩] (b4 = b4 ∧ b5 = b5 ∧ True) (by kernel_rfl) ⟨rfl, rfl, trivial⟩ ?_
          refine nx_op (by kernel_rfl) (o_rv rfl (by kernel_rfl) (rv_eqArr .u64 .u64 (n := 4) (e := 23) [a1.c0, a1.c1, a1.c2, a1.c3] [a0.c0, a0.c1, a0.c2, a0.c3] (by kernel_rfl) (by kernel_rfl) (by kernel_rfl) (by kernel_rfl) rfl rfl rfl rfl) ?_)
          refine nx_run 1 [4, 5, 6, 8, 9, 10, 11, 12, 73] [(4, .pointer (some ⟨b4, 0, none⟩)), (5, .pointer (some ⟨b5, 0, none⟩)), (6, .pointer (some ⟨b6, 0, none⟩)), (8, .int .u64 0), (9, .int .i64 0), (10, .pointer (some ⟨b8, 0, none⟩)), (11, .int .u64 x17), (12, .int .i64 0), (73, .bool ([a1.c0, a1.c1, a1.c2, a1.c3] == [a0.c0, a0.c1, a0.c2, a0.c3]))] (by kernel_rfl) ?_
          refine nx_nil (nx_then ?_)
          refine nx_cond (b := ([a1.c0, a1.c1, a1.c2, a1.c3] == [a0.c0, a0.c1, a0.c2, a0.c3])) rfl (fun hc44 => ?_) (fun hc44 => ?_)
          · have hx41 := cond_t hc44 hx41
            obtain ⟨x46, hx47, hx41⟩ := bind_s hx41
            refine nx_join (fun t w' => Fr Try.f15.ntmps t [(8, .int .u64 0), (9, .int .i64 0), (11, .int .u64 x17), (12, .int .i64 0), (84, .bool x46)] ∧ Sta [] w w' [⟨b8, #[.int .u64 0, .int .u64 0, .int .u64 0, .int .u64 0], 25⟩, ⟨b6, #[.int .u64 a2.c0, .int .u64 a2.c1, .int .u64 a2.c2, .int .u64 a2.c3], 25⟩, ⟨b5, #[.int .u64 a1.c0, .int .u64 a1.c1, .int .u64 a1.c2, .int .u64 a1.c3], 25⟩, ⟨b4, #[.int .u64 a0.c0, .int .u64 a0.c1, .int .u64 a0.c2, .int .u64 a0.c3], 25⟩] [] []) ?_ ?_
            · rintro t w' ⟨hF, hS⟩
              refine nx_wp (c := ⟨Try.f15.ntmps, [], w⟩) hF hS ?_
              refine nx_cond (b := x46) rfl (fun hc49 => ?_) (fun hc49 => ?_)
              · have hx41 := cond_t hc49 hx41
                refine nx_region ?_
                refine nx_run 1 [8, 9, 11, 12] [(8, .int .u64 0), (9, .int .i64 0), (11, .int .u64 x17), (12, .int .i64 4800)] (by kernel_rfl) ?_
                refine nx_nil (nx_in ?_)
                refine nx_sel [8, 9, 11, 12] [(8, .int .u64 0), (9, .int .i64 0), (11, .int .u64 x17), (12, .int .i64 4800)] rfl ?_
                refine nx_meet (fun t w' hF hS => ?_)
                obtain rfl := ret_s hx41
                exact ⟨hF, hS⟩
              · have hx41 := cond_f hc49 hx41
                refine nx_skip (nx_in ?_)
                refine nx_sel [8, 9, 11, 12] [(8, .int .u64 0), (9, .int .i64 0), (11, .int .u64 x17), (12, .int .i64 0)] rfl ?_
                refine nx_meet (fun t w' hF hS => ?_)
                obtain rfl := ret_s hx41
                exact ⟨hF, hS⟩
            · refine nx_region ?_
              refine nx_mem 2 [3, 0] [6, 8, 9, 10, 11, 12, 77, 78] [(6, .pointer (some ⟨b6, 0, none⟩)), (8, .int .u64 0), (9, .int .i64 0), (10, .pointer (some ⟨b8, 0, none⟩)), (11, .int .u64 x17), (12, .int .i64 0), (77, .agg #[.int .u64 a0.c0, .int .u64 a0.c1, .int .u64 a0.c2, .int .u64 a0.c3]), (78, .agg #[.int .u64 0, .int .u64 0, .int .u64 0, .int .u64 0])] [⟨b8, #[.int .u64 0, .int .u64 0, .int .u64 0, .int .u64 0], 25⟩, ⟨b6, #[.int .u64 a2.c0, .int .u64 a2.c1, .int .u64 a2.c2, .int .u64 a2.c3], 25⟩, ⟨b5, #[.int .u64 a1.c0, .int .u64 a1.c1, .int .u64 a1.c2, .int .u64 a1.c3], 25⟩, ⟨b4, #[.int .u64 a0.c0, .int .u64 a0.c1, .int .u64 a0.c2, .int .u64 a0.c3], 25⟩] (b8 = b8 ∧ b4 = b4 ∧ True) (by kernel_rfl) ⟨rfl, rfl, trivial⟩ ?_
              refine nx_op (by kernel_rfl) (o_rv rfl (by kernel_rfl) (rv_neArr .u64 .u64 (n := 4) (e := 23) [a0.c0, a0.c1, a0.c2, a0.c3] [0, 0, 0, 0] (by kernel_rfl) (by kernel_rfl) (by kernel_rfl) (by kernel_rfl) rfl rfl rfl rfl) ?_)
              refine nx_run 1 [6, 8, 9, 10, 11, 12, 80] [(6, .pointer (some ⟨b6, 0, none⟩)), (8, .int .u64 0), (9, .int .i64 0), (10, .pointer (some ⟨b8, 0, none⟩)), (11, .int .u64 x17), (12, .int .i64 0), (80, .bool (!([a0.c0, a0.c1, a0.c2, a0.c3] == [0, 0, 0, 0])))] (by kernel_rfl) ?_
              refine nx_split ((!([a0.c0, a0.c1, a0.c2, a0.c3] == [0, 0, 0, 0]))) (fun hc50 => ?_) (fun hc50 => ?_)
              · have hx47 := cond_t hc50 hx47
                refine nx_put 80 (.bool true) rfl (congrArg Value.bool hc50) ?_
                refine nx_mem 2 [1, 0] [8, 9, 11, 12, 80, 81, 82] [(8, .int .u64 0), (9, .int .i64 0), (11, .int .u64 x17), (12, .int .i64 0), (80, .bool true), (81, .agg #[.int .u64 a2.c0, .int .u64 a2.c1, .int .u64 a2.c2, .int .u64 a2.c3]), (82, .agg #[.int .u64 0, .int .u64 0, .int .u64 0, .int .u64 0])] [⟨b8, #[.int .u64 0, .int .u64 0, .int .u64 0, .int .u64 0], 25⟩, ⟨b6, #[.int .u64 a2.c0, .int .u64 a2.c1, .int .u64 a2.c2, .int .u64 a2.c3], 25⟩, ⟨b5, #[.int .u64 a1.c0, .int .u64 a1.c1, .int .u64 a1.c2, .int .u64 a1.c3], 25⟩, ⟨b4, #[.int .u64 a0.c0, .int .u64 a0.c1, .int .u64 a0.c2, .int .u64 a0.c3], 25⟩] (b8 = b8 ∧ b6 = b6 ∧ True) (by kernel_rfl) ⟨rfl, rfl, trivial⟩ ?_
                refine nx_op (by kernel_rfl) (o_rv rfl (by kernel_rfl) (rv_eqArr .u64 .u64 (n := 4) (e := 23) [a2.c0, a2.c1, a2.c2, a2.c3] [0, 0, 0, 0] (by kernel_rfl) (by kernel_rfl) (by kernel_rfl) (by kernel_rfl) rfl rfl rfl rfl) ?_)
                refine nx_run 1 [8, 9, 11, 12, 84] [(8, .int .u64 0), (9, .int .i64 0), (11, .int .u64 x17), (12, .int .i64 0), (84, .bool ([a2.c0, a2.c1, a2.c2, a2.c3] == [0, 0, 0, 0]))] (by kernel_rfl) ?_
                refine nx_nil ?_
                refine nx_sel [8, 9, 11, 12, 84] [(8, .int .u64 0), (9, .int .i64 0), (11, .int .u64 x17), (12, .int .i64 0), (84, .bool ([a2.c0, a2.c1, a2.c2, a2.c3] == [0, 0, 0, 0]))] rfl ?_
                refine nx_meet (fun t w' hF hS => ?_)
                obtain rfl := ret_s hx47
                exact ⟨hF, hS⟩
              · have hx47 := cond_f hc50 hx47
                refine nx_put 80 (.bool false) rfl (congrArg Value.bool hc50) ?_
                refine nx_run 4 [8, 9, 11, 12, 84] [(8, .int .u64 0), (9, .int .i64 0), (11, .int .u64 x17), (12, .int .i64 0), (84, .bool false)] (by kernel_rfl) ?_
                refine nx_nil ?_
                refine nx_sel [8, 9, 11, 12, 84] [(8, .int .u64 0), (9, .int .i64 0), (11, .int .u64 x17), (12, .int .i64 0), (84, .bool false)] rfl ?_
                refine nx_meet (fun t w' hF hS => ?_)
                obtain rfl := ret_s hx47
                exact ⟨hF, hS⟩
          · have hx41 := cond_f hc44 hx41
            obtain ⟨x54, hx55, hx41⟩ := bind_s hx41
            refine nx_join (fun t w' => Fr Try.f15.ntmps t [(4, .pointer (some ⟨b4, 0, none⟩)), (6, .pointer (some ⟨b6, 0, none⟩)), (8, .int .u64 0), (9, .int .i64 0), (10, .pointer (some ⟨b8, 0, none⟩)), (11, .int .u64 x17), (12, .int .i64 x54)] ∧ Sta [] w w' [⟨b8, #[.int .u64 0, .int .u64 0, .int .u64 0, .int .u64 0], 25⟩, ⟨b6, #[.int .u64 a2.c0, .int .u64 a2.c1, .int .u64 a2.c2, .int .u64 a2.c3], 25⟩, ⟨b5, #[.int .u64 a1.c0, .int .u64 a1.c1, .int .u64 a1.c2, .int .u64 a1.c3], 25⟩, ⟨b4, #[.int .u64 a0.c0, .int .u64 a0.c1, .int .u64 a0.c2, .int .u64 a0.c3], 25⟩] [] []) ?_ ?_
            · rintro t w' ⟨hF, hS⟩
              refine nx_wp (c := ⟨Try.f15.ntmps, [], w⟩) hF hS ?_
              obtain ⟨x60, hx61, hx41⟩ := bind_s hx41
              refine nx_join (fun t w' => Fr Try.f15.ntmps t [(4, .pointer (some ⟨b4, 0, none⟩)), (6, .pointer (some ⟨b6, 0, none⟩)), (8, .int .u64 0), (9, .int .i64 0), (10, .pointer (some ⟨b8, 0, none⟩)), (11, .int .u64 x17), (12, .int .i64 x60)] ∧ Sta [] w w' [⟨b8, #[.int .u64 0, .int .u64 0, .int .u64 0, .int .u64 0], 25⟩, ⟨b6, #[.int .u64 a2.c0, .int .u64 a2.c1, .int .u64 a2.c2, .int .u64 a2.c3], 25⟩, ⟨b5, #[.int .u64 a1.c0, .int .u64 a1.c1, .int .u64 a1.c2, .int .u64 a1.c3], 25⟩, ⟨b4, #[.int .u64 a0.c0, .int .u64 a0.c1, .int .u64 a0.c2, .int .u64 a0.c3], 25⟩] [] []) ?_ ?_
              · rintro t w' ⟨hF, hS⟩
                refine nx_wp (c := ⟨Try.f15.ntmps, [], w⟩) hF hS ?_
                obtain ⟨x66, hx67, hx41⟩ := bind_s hx41
                refine nx_join (fun t w' => Fr Try.f15.ntmps t [(4, .pointer (some ⟨b4, 0, none⟩)), (6, .pointer (some ⟨b6, 0, none⟩)), (8, .int .u64 0), (9, .int .i64 0), (10, .pointer (some ⟨b8, 0, none⟩)), (11, .int .u64 x17), (12, .int .i64 x66)] ∧ Sta [] w w' [⟨b8, #[.int .u64 0, .int .u64 0, .int .u64 0, .int .u64 0], 25⟩, ⟨b6, #[.int .u64 a2.c0, .int .u64 a2.c1, .int .u64 a2.c2, .int .u64 a2.c3], 25⟩, ⟨b5, #[.int .u64 a1.c0, .int .u64 a1.c1, .int .u64 a1.c2, .int .u64 a1.c3], 25⟩, ⟨b4, #[.int .u64 a0.c0, .int .u64 a0.c1, .int .u64 a0.c2, .int .u64 a0.c3], 25⟩] [] []) ?_ ?_
                · rintro t w' ⟨hF, hS⟩
                  refine nx_wp (c := ⟨Try.f15.ntmps, [], w⟩) hF hS ?_
                  obtain ⟨x70, hx71, hx41⟩ := bind_s hx41
                  refine nx_join (fun t w' => Fr Try.f15.ntmps t [(8, .int .u64 0), (9, .int .i64 0), (11, .int .u64 x17), (12, .int .i64 x66), (66, .bool x70)] ∧ Sta [] w w' [⟨b8, #[.int .u64 0, .int .u64 0, .int .u64 0, .int .u64 0], 25⟩, ⟨b6, #[.int .u64 a2.c0, .int .u64 a2.c1, .int .u64 a2.c2, .int .u64 a2.c3], 25⟩, ⟨b5, #[.int .u64 a1.c0, .int .u64 a1.c1, .int .u64 a1.c2, .int .u64 a1.c3], 25⟩, ⟨b4, #[.int .u64 a0.c0, .int .u64 a0.c1, .int .u64 a0.c2, .int .u64 a0.c3], 25⟩] [] []) ?_ ?_
                  · rintro t w' ⟨hF, hS⟩
                    refine nx_wp (c := ⟨Try.f15.ntmps, [], w⟩) hF hS ?_
                    refine nx_cond (b := x70) rfl (fun hc73 => ?_) (fun hc73 => ?_)
                    · have hx41 := cond_t hc73 hx41
                      refine nx_region ?_
                      refine nx_run 3 [8, 9, 11, 12] [(8, .int .u64 0), (9, .int .i64 0), (11, .int .u64 x17), (12, .int .i64 (wi64 (x66 + 2800)))] (by kernel_rfl) ?_
                      refine nx_nil (nx_in ?_)
                      refine nx_sel [8, 9, 11, 12] [(8, .int .u64 0), (9, .int .i64 0), (11, .int .u64 x17), (12, .int .i64 (wi64 (x66 + 2800)))] rfl ?_
                      refine nx_meet (fun t w' hF hS => ?_)
                      obtain rfl := ret_s hx41
                      exact ⟨hF, hS⟩
                    · have hx41 := cond_f hc73 hx41
                      refine nx_skip (nx_in ?_)
                      refine nx_sel [8, 9, 11, 12] [(8, .int .u64 0), (9, .int .i64 0), (11, .int .u64 x17), (12, .int .i64 x66)] rfl ?_
                      refine nx_meet (fun t w' hF hS => ?_)
                      obtain rfl := ret_s hx41
                      exact ⟨hF, hS⟩
                  · refine nx_region ?_
                    refine nx_mem 2 [1, 3] [4, 8, 9, 10, 11, 12, 59, 60] [(4, .pointer (some ⟨b4, 0, none⟩)), (8, .int .u64 0), (9, .int .i64 0), (10, .pointer (some ⟨b8, 0, none⟩)), (11, .int .u64 x17), (12, .int .i64 x66), (59, .agg #[.int .u64 a2.c0, .int .u64 a2.c1, .int .u64 a2.c2, .int .u64 a2.c3]), (60, .agg #[.int .u64 a0.c0, .int .u64 a0.c1, .int .u64 a0.c2, .int .u64 a0.c3])] [⟨b8, #[.int .u64 0, .int .u64 0, .int .u64 0, .int .u64 0], 25⟩, ⟨b6, #[.int .u64 a2.c0, .int .u64 a2.c1, .int .u64 a2.c2, .int .u64 a2.c3], 25⟩, ⟨b5, #[.int .u64 a1.c0, .int .u64 a1.c1, .int .u64 a1.c2, .int .u64 a1.c3], 25⟩, ⟨b4, #[.int .u64 a0.c0, .int .u64 a0.c1, .int .u64 a0.c2, .int .u64 a0.c3], 25⟩] (b4 = b4 ∧ b6 = b6 ∧ True) (by kernel_rfl) ⟨rfl, rfl, trivial⟩ ?_
                    refine nx_op (by kernel_rfl) (o_rv rfl (by kernel_rfl) (rv_eqArr .u64 .u64 (n := 4) (e := 23) [a2.c0, a2.c1, a2.c2, a2.c3] [a0.c0, a0.c1, a0.c2, a0.c3] (by kernel_rfl) (by kernel_rfl) (by kernel_rfl) (by kernel_rfl) rfl rfl rfl rfl) ?_)
                    refine nx_run 1 [4, 8, 9, 10, 11, 12, 62] [(4, .pointer (some ⟨b4, 0, none⟩)), (8, .int .u64 0), (9, .int .i64 0), (10, .pointer (some ⟨b8, 0, none⟩)), (11, .int .u64 x17), (12, .int .i64 x66), (62, .bool ([a2.c0, a2.c1, a2.c2, a2.c3] == [a0.c0, a0.c1, a0.c2, a0.c3]))] (by kernel_rfl) ?_
                    refine nx_split (([a2.c0, a2.c1, a2.c2, a2.c3] == [a0.c0, a0.c1, a0.c2, a0.c3])) (fun hc74 => ?_) (fun hc74 => ?_)
                    · have hx71 := cond_t hc74 hx71
                      refine nx_put 62 (.bool true) rfl (congrArg Value.bool hc74) ?_
                      refine nx_mem 2 [3, 0] [8, 9, 11, 12, 62, 63, 64] [(8, .int .u64 0), (9, .int .i64 0), (11, .int .u64 x17), (12, .int .i64 x66), (62, .bool true), (63, .agg #[.int .u64 a0.c0, .int .u64 a0.c1, .int .u64 a0.c2, .int .u64 a0.c3]), (64, .agg #[.int .u64 0, .int .u64 0, .int .u64 0, .int .u64 0])] [⟨b8, #[.int .u64 0, .int .u64 0, .int .u64 0, .int .u64 0], 25⟩, ⟨b6, #[.int .u64 a2.c0, .int .u64 a2.c1, .int .u64 a2.c2, .int .u64 a2.c3], 25⟩, ⟨b5, #[.int .u64 a1.c0, .int .u64 a1.c1, .int .u64 a1.c2, .int .u64 a1.c3], 25⟩, ⟨b4, #[.int .u64 a0.c0, .int .u64 a0.c1, .int .u64 a0.c2, .int .u64 a0.c3], 25⟩] (b8 = b8 ∧ b4 = b4 ∧ True) (by kernel_rfl) ⟨rfl, rfl, trivial⟩ ?_
                      refine nx_op (by kernel_rfl) (o_rv rfl (by kernel_rfl) (rv_neArr .u64 .u64 (n := 4) (e := 23) [a0.c0, a0.c1, a0.c2, a0.c3] [0, 0, 0, 0] (by kernel_rfl) (by kernel_rfl) (by kernel_rfl) (by kernel_rfl) rfl rfl rfl rfl) ?_)
                      refine nx_run 1 [8, 9, 11, 12, 66] [(8, .int .u64 0), (9, .int .i64 0), (11, .int .u64 x17), (12, .int .i64 x66), (66, .bool (!([a0.c0, a0.c1, a0.c2, a0.c3] == [0, 0, 0, 0])))] (by kernel_rfl) ?_
                      refine nx_nil ?_
                      refine nx_sel [8, 9, 11, 12, 66] [(8, .int .u64 0), (9, .int .i64 0), (11, .int .u64 x17), (12, .int .i64 x66), (66, .bool (!([a0.c0, a0.c1, a0.c2, a0.c3] == [0, 0, 0, 0])))] rfl ?_
                      refine nx_meet (fun t w' hF hS => ?_)
                      obtain rfl := ret_s hx71
                      exact ⟨hF, hS⟩
                    · have hx71 := cond_f hc74 hx71
                      refine nx_put 62 (.bool false) rfl (congrArg Value.bool hc74) ?_
                      refine nx_run 4 [8, 9, 11, 12, 66] [(8, .int .u64 0), (9, .int .i64 0), (11, .int .u64 x17), (12, .int .i64 x66), (66, .bool false)] (by kernel_rfl) ?_
                      refine nx_nil ?_
                      refine nx_sel [8, 9, 11, 12, 66] [(8, .int .u64 0), (9, .int .i64 0), (11, .int .u64 x17), (12, .int .i64 x66), (66, .bool false)] rfl ?_
                      refine nx_meet (fun t w' hF hS => ?_)
                      obtain rfl := ret_s hx71
                      exact ⟨hF, hS⟩
                · obtain ⟨x76, hx77, hx67⟩ := bind_s hx67
                  refine nx_join (fun t w' => Fr Try.f15.ntmps t [(4, .pointer (some ⟨b4, 0, none⟩)), (6, .pointer (some ⟨b6, 0, none⟩)), (8, .int .u64 0), (9, .int .i64 0), (10, .pointer (some ⟨b8, 0, none⟩)), (11, .int .u64 x17), (12, .int .i64 x60), (56, .bool x76)] ∧ Sta [] w w' [⟨b8, #[.int .u64 0, .int .u64 0, .int .u64 0, .int .u64 0], 25⟩, ⟨b6, #[.int .u64 a2.c0, .int .u64 a2.c1, .int .u64 a2.c2, .int .u64 a2.c3], 25⟩, ⟨b5, #[.int .u64 a1.c0, .int .u64 a1.c1, .int .u64 a1.c2, .int .u64 a1.c3], 25⟩, ⟨b4, #[.int .u64 a0.c0, .int .u64 a0.c1, .int .u64 a0.c2, .int .u64 a0.c3], 25⟩] [] []) ?_ ?_
                  · rintro t w' ⟨hF, hS⟩
                    refine nx_wp (c := ⟨Try.f15.ntmps, [], w⟩) hF hS ?_
                    refine nx_cond (b := x76) rfl (fun hc79 => ?_) (fun hc79 => ?_)
                    · have hx67 := cond_t hc79 hx67
                      refine nx_region ?_
                      refine nx_run 3 [4, 6, 8, 9, 10, 11, 12] [(4, .pointer (some ⟨b4, 0, none⟩)), (6, .pointer (some ⟨b6, 0, none⟩)), (8, .int .u64 0), (9, .int .i64 0), (10, .pointer (some ⟨b8, 0, none⟩)), (11, .int .u64 x17), (12, .int .i64 (wi64 (x60 + 19900)))] (by kernel_rfl) ?_
                      refine nx_nil ?_
                      refine nx_sel [4, 6, 8, 9, 10, 11, 12] [(4, .pointer (some ⟨b4, 0, none⟩)), (6, .pointer (some ⟨b6, 0, none⟩)), (8, .int .u64 0), (9, .int .i64 0), (10, .pointer (some ⟨b8, 0, none⟩)), (11, .int .u64 x17), (12, .int .i64 (wi64 (x60 + 19900)))] rfl ?_
                      refine nx_meet (fun t w' hF hS => ?_)
                      obtain rfl := ret_s hx67
                      exact ⟨hF, hS⟩
                    · have hx67 := cond_f hc79 hx67
                      refine nx_skip ?_
                      refine nx_sel [4, 6, 8, 9, 10, 11, 12] [(4, .pointer (some ⟨b4, 0, none⟩)), (6, .pointer (some ⟨b6, 0, none⟩)), (8, .int .u64 0), (9, .int .i64 0), (10, .pointer (some ⟨b8, 0, none⟩)), (11, .int .u64 x17), (12, .int .i64 x60)] rfl ?_
                      refine nx_meet (fun t w' hF hS => ?_)
                      obtain rfl := ret_s hx67
                      exact ⟨hF, hS⟩
                  · refine nx_region ?_
                    refine nx_mem 2 [1, 3] [4, 6, 8, 9, 10, 11, 12, 49, 50] [(4, .pointer (some ⟨b4, 0, none⟩)), (6, .pointer (some ⟨b6, 0, none⟩)), (8, .int .u64 0), (9, .int .i64 0), (10, .pointer (some ⟨b8, 0, none⟩)), (11, .int .u64 x17), (12, .int .i64 x60), (49, .agg #[.int .u64 a2.c0, .int .u64 a2.c1, .int .u64 a2.c2, .int .u64 a2.c3]), (50, .agg #[.int .u64 a0.c0, .int .u64 a0.c1, .int .u64 a0.c2, .int .u64 a0.c3])] [⟨b8, #[.int .u64 0, .int .u64 0, .int .u64 0, .int .u64 0], 25⟩, ⟨b6, #[.int .u64 a2.c0, .int .u64 a2.c1, .int .u64 a2.c2, .int .u64 a2.c3], 25⟩, ⟨b5, #[.int .u64 a1.c0, .int .u64 a1.c1, .int .u64 a1.c2, .int .u64 a1.c3], 25⟩, ⟨b4, #[.int .u64 a0.c0, .int .u64 a0.c1, .int .u64 a0.c2, .int .u64 a0.c3], 25⟩] (b4 = b4 ∧ b6 = b6 ∧ True) (by kernel_rfl) ⟨rfl, rfl, trivial⟩ ?_
                    refine nx_op (by kernel_rfl) (o_rv rfl (by kernel_rfl) (rv_eqArr .u64 .u64 (n := 4) (e := 23) [a2.c0, a2.c1, a2.c2, a2.c3] [a0.c0, a0.c1, a0.c2, a0.c3] (by kernel_rfl) (by kernel_rfl) (by kernel_rfl) (by kernel_rfl) rfl rfl rfl rfl) ?_)
                    refine nx_run 1 [4, 6, 8, 9, 10, 11, 12, 52] [(4, .pointer (some ⟨b4, 0, none⟩)), (6, .pointer (some ⟨b6, 0, none⟩)), (8, .int .u64 0), (9, .int .i64 0), (10, .pointer (some ⟨b8, 0, none⟩)), (11, .int .u64 x17), (12, .int .i64 x60), (52, .bool ([a2.c0, a2.c1, a2.c2, a2.c3] == [a0.c0, a0.c1, a0.c2, a0.c3]))] (by kernel_rfl) ?_
                    refine nx_split (([a2.c0, a2.c1, a2.c2, a2.c3] == [a0.c0, a0.c1, a0.c2, a0.c3])) (fun hc80 => ?_) (fun hc80 => ?_)
                    · have hx77 := cond_t hc80 hx77
                      refine nx_put 52 (.bool true) rfl (congrArg Value.bool hc80) ?_
                      refine nx_mem 2 [3, 0] [4, 6, 8, 9, 10, 11, 12, 52, 53, 54] [(4, .pointer (some ⟨b4, 0, none⟩)), (6, .pointer (some ⟨b6, 0, none⟩)), (8, .int .u64 0), (9, .int .i64 0), (10, .pointer (some ⟨b8, 0, none⟩)), (11, .int .u64 x17), (12, .int .i64 x60), (52, .bool true), (53, .agg #[.int .u64 a0.c0, .int .u64 a0.c1, .int .u64 a0.c2, .int .u64 a0.c3]), (54, .agg #[.int .u64 0, .int .u64 0, .int .u64 0, .int .u64 0])] [⟨b8, #[.int .u64 0, .int .u64 0, .int .u64 0, .int .u64 0], 25⟩, ⟨b6, #[.int .u64 a2.c0, .int .u64 a2.c1, .int .u64 a2.c2, .int .u64 a2.c3], 25⟩, ⟨b5, #[.int .u64 a1.c0, .int .u64 a1.c1, .int .u64 a1.c2, .int .u64 a1.c3], 25⟩, ⟨b4, #[.int .u64 a0.c0, .int .u64 a0.c1, .int .u64 a0.c2, .int .u64 a0.c3], 25⟩] (b8 = b8 ∧ b4 = b4 ∧ True) (by kernel_rfl) ⟨rfl, rfl, trivial⟩ ?_
                      refine nx_op (by kernel_rfl) (o_rv rfl (by kernel_rfl) (rv_eqArr .u64 .u64 (n := 4) (e := 23) [a0.c0, a0.c1, a0.c2, a0.c3] [0, 0, 0, 0] (by kernel_rfl) (by kernel_rfl) (by kernel_rfl) (by kernel_rfl) rfl rfl rfl rfl) ?_)
                      refine nx_run 1 [4, 6, 8, 9, 10, 11, 12, 56] [(4, .pointer (some ⟨b4, 0, none⟩)), (6, .pointer (some ⟨b6, 0, none⟩)), (8, .int .u64 0), (9, .int .i64 0), (10, .pointer (some ⟨b8, 0, none⟩)), (11, .int .u64 x17), (12, .int .i64 x60), (56, .bool ([a0.c0, a0.c1, a0.c2, a0.c3] == [0, 0, 0, 0]))] (by kernel_rfl) ?_
                      refine nx_nil ?_
                      refine nx_sel [4, 6, 8, 9, 10, 11, 12, 56] [(4, .pointer (some ⟨b4, 0, none⟩)), (6, .pointer (some ⟨b6, 0, none⟩)), (8, .int .u64 0), (9, .int .i64 0), (10, .pointer (some ⟨b8, 0, none⟩)), (11, .int .u64 x17), (12, .int .i64 x60), (56, .bool ([a0.c0, a0.c1, a0.c2, a0.c3] == [0, 0, 0, 0]))] rfl ?_
                      refine nx_meet (fun t w' hF hS => ?_)
                      obtain rfl := ret_s hx77
                      exact ⟨hF, hS⟩
                    · have hx77 := cond_f hc80 hx77
                      refine nx_put 52 (.bool false) rfl (congrArg Value.bool hc80) ?_
                      refine nx_run 4 [4, 6, 8, 9, 10, 11, 12, 56] [(4, .pointer (some ⟨b4, 0, none⟩)), (6, .pointer (some ⟨b6, 0, none⟩)), (8, .int .u64 0), (9, .int .i64 0), (10, .pointer (some ⟨b8, 0, none⟩)), (11, .int .u64 x17), (12, .int .i64 x60), (56, .bool false)] (by kernel_rfl) ?_
                      refine nx_nil ?_
                      refine nx_sel [4, 6, 8, 9, 10, 11, 12, 56] [(4, .pointer (some ⟨b4, 0, none⟩)), (6, .pointer (some ⟨b6, 0, none⟩)), (8, .int .u64 0), (9, .int .i64 0), (10, .pointer (some ⟨b8, 0, none⟩)), (11, .int .u64 x17), (12, .int .i64 x60), (56, .bool false)] rfl ?_
                      refine nx_meet (fun t w' hF hS => ?_)
                      obtain rfl := ret_s hx77
                      exact ⟨hF, hS⟩
              · obtain ⟨x82, hx83, hx61⟩ := bind_s hx61
                refine nx_join (fun t w' => Fr Try.f15.ntmps t [(4, .pointer (some ⟨b4, 0, none⟩)), (6, .pointer (some ⟨b6, 0, none⟩)), (8, .int .u64 0), (9, .int .i64 0), (10, .pointer (some ⟨b8, 0, none⟩)), (11, .int .u64 x17), (12, .int .i64 x54), (46, .bool x82)] ∧ Sta [] w w' [⟨b8, #[.int .u64 0, .int .u64 0, .int .u64 0, .int .u64 0], 25⟩, ⟨b6, #[.int .u64 a2.c0, .int .u64 a2.c1, .int .u64 a2.c2, .int .u64 a2.c3], 25⟩, ⟨b5, #[.int .u64 a1.c0, .int .u64 a1.c1, .int .u64 a1.c2, .int .u64 a1.c3], 25⟩, ⟨b4, #[.int .u64 a0.c0, .int .u64 a0.c1, .int .u64 a0.c2, .int .u64 a0.c3], 25⟩] [] []) ?_ ?_
                · rintro t w' ⟨hF, hS⟩
                  refine nx_wp (c := ⟨Try.f15.ntmps, [], w⟩) hF hS ?_
                  refine nx_cond (b := x82) rfl (fun hc85 => ?_) (fun hc85 => ?_)
                  · have hx61 := cond_t hc85 hx61
                    refine nx_region ?_
                    refine nx_run 3 [4, 6, 8, 9, 10, 11, 12] [(4, .pointer (some ⟨b4, 0, none⟩)), (6, .pointer (some ⟨b6, 0, none⟩)), (8, .int .u64 0), (9, .int .i64 0), (10, .pointer (some ⟨b8, 0, none⟩)), (11, .int .u64 x17), (12, .int .i64 (wi64 (x54 + 4800)))] (by kernel_rfl) ?_
                    refine nx_nil ?_
                    refine nx_sel [4, 6, 8, 9, 10, 11, 12] [(4, .pointer (some ⟨b4, 0, none⟩)), (6, .pointer (some ⟨b6, 0, none⟩)), (8, .int .u64 0), (9, .int .i64 0), (10, .pointer (some ⟨b8, 0, none⟩)), (11, .int .u64 x17), (12, .int .i64 (wi64 (x54 + 4800)))] rfl ?_
                    refine nx_meet (fun t w' hF hS => ?_)
                    obtain rfl := ret_s hx61
                    exact ⟨hF, hS⟩
                  · have hx61 := cond_f hc85 hx61
                    refine nx_skip ?_
                    refine nx_sel [4, 6, 8, 9, 10, 11, 12] [(4, .pointer (some ⟨b4, 0, none⟩)), (6, .pointer (some ⟨b6, 0, none⟩)), (8, .int .u64 0), (9, .int .i64 0), (10, .pointer (some ⟨b8, 0, none⟩)), (11, .int .u64 x17), (12, .int .i64 x54)] rfl ?_
                    refine nx_meet (fun t w' hF hS => ?_)
                    obtain rfl := ret_s hx61
                    exact ⟨hF, hS⟩
                · refine nx_region ?_
                  refine nx_mem 2 [3, 0] [4, 6, 8, 9, 10, 11, 12, 39, 40] [(4, .pointer (some ⟨b4, 0, none⟩)), (6, .pointer (some ⟨b6, 0, none⟩)), (8, .int .u64 0), (9, .int .i64 0), (10, .pointer (some ⟨b8, 0, none⟩)), (11, .int .u64 x17), (12, .int .i64 x54), (39, .agg #[.int .u64 a0.c0, .int .u64 a0.c1, .int .u64 a0.c2, .int .u64 a0.c3]), (40, .agg #[.int .u64 0, .int .u64 0, .int .u64 0, .int .u64 0])] [⟨b8, #[.int .u64 0, .int .u64 0, .int .u64 0, .int .u64 0], 25⟩, ⟨b6, #[.int .u64 a2.c0, .int .u64 a2.c1, .int .u64 a2.c2, .int .u64 a2.c3], 25⟩, ⟨b5, #[.int .u64 a1.c0, .int .u64 a1.c1, .int .u64 a1.c2, .int .u64 a1.c3], 25⟩, ⟨b4, #[.int .u64 a0.c0, .int .u64 a0.c1, .int .u64 a0.c2, .int .u64 a0.c3], 25⟩] (b8 = b8 ∧ b4 = b4 ∧ True) (by kernel_rfl) ⟨rfl, rfl, trivial⟩ ?_
                  refine nx_op (by kernel_rfl) (o_rv rfl (by kernel_rfl) (rv_neArr .u64 .u64 (n := 4) (e := 23) [a0.c0, a0.c1, a0.c2, a0.c3] [0, 0, 0, 0] (by kernel_rfl) (by kernel_rfl) (by kernel_rfl) (by kernel_rfl) rfl rfl rfl rfl) ?_)
                  refine nx_run 1 [4, 6, 8, 9, 10, 11, 12, 42] [(4, .pointer (some ⟨b4, 0, none⟩)), (6, .pointer (some ⟨b6, 0, none⟩)), (8, .int .u64 0), (9, .int .i64 0), (10, .pointer (some ⟨b8, 0, none⟩)), (11, .int .u64 x17), (12, .int .i64 x54), (42, .bool (!([a0.c0, a0.c1, a0.c2, a0.c3] == [0, 0, 0, 0])))] (by kernel_rfl) ?_
                  refine nx_split ((!([a0.c0, a0.c1, a0.c2, a0.c3] == [0, 0, 0, 0]))) (fun hc86 => ?_) (fun hc86 => ?_)
                  · have hx83 := cond_t hc86 hx83
                    refine nx_put 42 (.bool true) rfl (congrArg Value.bool hc86) ?_
                    refine nx_mem 2 [1, 0] [4, 6, 8, 9, 10, 11, 12, 42, 43, 44] [(4, .pointer (some ⟨b4, 0, none⟩)), (6, .pointer (some ⟨b6, 0, none⟩)), (8, .int .u64 0), (9, .int .i64 0), (10, .pointer (some ⟨b8, 0, none⟩)), (11, .int .u64 x17), (12, .int .i64 x54), (42, .bool true), (43, .agg #[.int .u64 a2.c0, .int .u64 a2.c1, .int .u64 a2.c2, .int .u64 a2.c3]), (44, .agg #[.int .u64 0, .int .u64 0, .int .u64 0, .int .u64 0])] [⟨b8, #[.int .u64 0, .int .u64 0, .int .u64 0, .int .u64 0], 25⟩, ⟨b6, #[.int .u64 a2.c0, .int .u64 a2.c1, .int .u64 a2.c2, .int .u64 a2.c3], 25⟩, ⟨b5, #[.int .u64 a1.c0, .int .u64 a1.c1, .int .u64 a1.c2, .int .u64 a1.c3], 25⟩, ⟨b4, #[.int .u64 a0.c0, .int .u64 a0.c1, .int .u64 a0.c2, .int .u64 a0.c3], 25⟩] (b8 = b8 ∧ b6 = b6 ∧ True) (by kernel_rfl) ⟨rfl, rfl, trivial⟩ ?_
                    refine nx_op (by kernel_rfl) (o_rv rfl (by kernel_rfl) (rv_eqArr .u64 .u64 (n := 4) (e := 23) [a2.c0, a2.c1, a2.c2, a2.c3] [0, 0, 0, 0] (by kernel_rfl) (by kernel_rfl) (by kernel_rfl) (by kernel_rfl) rfl rfl rfl rfl) ?_)
                    refine nx_run 1 [4, 6, 8, 9, 10, 11, 12, 46] [(4, .pointer (some ⟨b4, 0, none⟩)), (6, .pointer (some ⟨b6, 0, none⟩)), (8, .int .u64 0), (9, .int .i64 0), (10, .pointer (some ⟨b8, 0, none⟩)), (11, .int .u64 x17), (12, .int .i64 x54), (46, .bool ([a2.c0, a2.c1, a2.c2, a2.c3] == [0, 0, 0, 0]))] (by kernel_rfl) ?_
                    refine nx_nil ?_
                    refine nx_sel [4, 6, 8, 9, 10, 11, 12, 46] [(4, .pointer (some ⟨b4, 0, none⟩)), (6, .pointer (some ⟨b6, 0, none⟩)), (8, .int .u64 0), (9, .int .i64 0), (10, .pointer (some ⟨b8, 0, none⟩)), (11, .int .u64 x17), (12, .int .i64 x54), (46, .bool ([a2.c0, a2.c1, a2.c2, a2.c3] == [0, 0, 0, 0]))] rfl ?_
                    refine nx_meet (fun t w' hF hS => ?_)
                    obtain rfl := ret_s hx83
                    exact ⟨hF, hS⟩
                  · have hx83 := cond_f hc86 hx83
                    refine nx_put 42 (.bool false) rfl (congrArg Value.bool hc86) ?_
                    refine nx_run 4 [4, 6, 8, 9, 10, 11, 12, 46] [(4, .pointer (some ⟨b4, 0, none⟩)), (6, .pointer (some ⟨b6, 0, none⟩)), (8, .int .u64 0), (9, .int .i64 0), (10, .pointer (some ⟨b8, 0, none⟩)), (11, .int .u64 x17), (12, .int .i64 x54), (46, .bool false)] (by kernel_rfl) ?_
                    refine nx_nil ?_
                    refine nx_sel [4, 6, 8, 9, 10, 11, 12, 46] [(4, .pointer (some ⟨b4, 0, none⟩)), (6, .pointer (some ⟨b6, 0, none⟩)), (8, .int .u64 0), (9, .int .i64 0), (10, .pointer (some ⟨b8, 0, none⟩)), (11, .int .u64 x17), (12, .int .i64 x54), (46, .bool false)] rfl ?_
                    refine nx_meet (fun t w' hF hS => ?_)
                    obtain rfl := ret_s hx83
                    exact ⟨hF, hS⟩
            · obtain ⟨x88, hx89, hx55⟩ := bind_s hx55
              refine nx_join (fun t w' => Fr Try.f15.ntmps t [(4, .pointer (some ⟨b4, 0, none⟩)), (6, .pointer (some ⟨b6, 0, none⟩)), (8, .int .u64 0), (9, .int .i64 0), (10, .pointer (some ⟨b8, 0, none⟩)), (11, .int .u64 x17), (12, .int .i64 0), (36, .bool x88)] ∧ Sta [] w w' [⟨b8, #[.int .u64 0, .int .u64 0, .int .u64 0, .int .u64 0], 25⟩, ⟨b6, #[.int .u64 a2.c0, .int .u64 a2.c1, .int .u64 a2.c2, .int .u64 a2.c3], 25⟩, ⟨b5, #[.int .u64 a1.c0, .int .u64 a1.c1, .int .u64 a1.c2, .int .u64 a1.c3], 25⟩, ⟨b4, #[.int .u64 a0.c0, .int .u64 a0.c1, .int .u64 a0.c2, .int .u64 a0.c3], 25⟩] [] []) ?_ ?_
              · rintro t w' ⟨hF, hS⟩
                refine nx_wp (c := ⟨Try.f15.ntmps, [], w⟩) hF hS ?_
                refine nx_cond (b := x88) rfl (fun hc91 => ?_) (fun hc91 => ?_)
                · have hx55 := cond_t hc91 hx55
                  refine nx_region ?_
                  refine nx_run 3 [4, 6, 8, 9, 10, 11, 12] [(4, .pointer (some ⟨b4, 0, none⟩)), (6, .pointer (some ⟨b6, 0, none⟩)), (8, .int .u64 0), (9, .int .i64 0), (10, .pointer (some ⟨b8, 0, none⟩)), (11, .int .u64 x17), (12, .int .i64 (-4800))] (by kernel_rfl) ?_
                  refine nx_nil ?_
                  refine nx_sel [4, 6, 8, 9, 10, 11, 12] [(4, .pointer (some ⟨b4, 0, none⟩)), (6, .pointer (some ⟨b6, 0, none⟩)), (8, .int .u64 0), (9, .int .i64 0), (10, .pointer (some ⟨b8, 0, none⟩)), (11, .int .u64 x17), (12, .int .i64 (-4800))] rfl ?_
                  refine nx_meet (fun t w' hF hS => ?_)
                  obtain rfl := ret_s hx55
                  exact ⟨hF, hS⟩
                · have hx55 := cond_f hc91 hx55
                  refine nx_skip ?_
                  refine nx_sel [4, 6, 8, 9, 10, 11, 12] [(4, .pointer (some ⟨b4, 0, none⟩)), (6, .pointer (some ⟨b6, 0, none⟩)), (8, .int .u64 0), (9, .int .i64 0), (10, .pointer (some ⟨b8, 0, none⟩)), (11, .int .u64 x17), (12, .int .i64 0)] rfl ?_
                  refine nx_meet (fun t w' hF hS => ?_)
                  obtain rfl := ret_s hx55
                  exact ⟨hF, hS⟩
              · refine nx_region ?_
                refine nx_mem 2 [3, 0] [4, 5, 6, 8, 9, 10, 11, 12, 29, 30] [(4, .pointer (some ⟨b4, 0, none⟩)), (5, .pointer (some ⟨b5, 0, none⟩)), (6, .pointer (some ⟨b6, 0, none⟩)), (8, .int .u64 0), (9, .int .i64 0), (10, .pointer (some ⟨b8, 0, none⟩)), (11, .int .u64 x17), (12, .int .i64 0), (29, .agg #[.int .u64 a0.c0, .int .u64 a0.c1, .int .u64 a0.c2, .int .u64 a0.c3]), (30, .agg #[.int .u64 0, .int .u64 0, .int .u64 0, .int .u64 0])] [⟨b8, #[.int .u64 0, .int .u64 0, .int .u64 0, .int .u64 0], 25⟩, ⟨b6, #[.int .u64 a2.c0, .int .u64 a2.c1, .int .u64 a2.c2, .int .u64 a2.c3], 25⟩, ⟨b5, #[.int .u64 a1.c0, .int .u64 a1.c1, .int .u64 a1.c2, .int .u64 a1.c3], 25⟩, ⟨b4, #[.int .u64 a0.c0, .int .u64 a0.c1, .int .u64 a0.c2, .int .u64 a0.c3], 25⟩] (b8 = b8 ∧ b4 = b4 ∧ True) (by kernel_rfl) ⟨rfl, rfl, trivial⟩ ?_
                refine nx_op (by kernel_rfl) (o_rv rfl (by kernel_rfl) (rv_neArr .u64 .u64 (n := 4) (e := 23) [a0.c0, a0.c1, a0.c2, a0.c3] [0, 0, 0, 0] (by kernel_rfl) (by kernel_rfl) (by kernel_rfl) (by kernel_rfl) rfl rfl rfl rfl) ?_)
                refine nx_run 1 [4, 5, 6, 8, 9, 10, 11, 12, 32] [(4, .pointer (some ⟨b4, 0, none⟩)), (5, .pointer (some ⟨b5, 0, none⟩)), (6, .pointer (some ⟨b6, 0, none⟩)), (8, .int .u64 0), (9, .int .i64 0), (10, .pointer (some ⟨b8, 0, none⟩)), (11, .int .u64 x17), (12, .int .i64 0), (32, .bool (!([a0.c0, a0.c1, a0.c2, a0.c3] == [0, 0, 0, 0])))] (by kernel_rfl) ?_
                refine nx_split ((!([a0.c0, a0.c1, a0.c2, a0.c3] == [0, 0, 0, 0]))) (fun hc92 => ?_) (fun hc92 => ?_)
                · have hx89 := cond_t hc92 hx89
                  refine nx_put 32 (.bool true) rfl (congrArg Value.bool hc92) ?_
                  refine nx_mem 2 [2, 0] [4, 6, 8, 9, 10, 11, 12, 32, 33, 34] [(4, .pointer (some ⟨b4, 0, none⟩)), (6, .pointer (some ⟨b6, 0, none⟩)), (8, .int .u64 0), (9, .int .i64 0), (10, .pointer (some ⟨b8, 0, none⟩)), (11, .int .u64 x17), (12, .int .i64 0), (32, .bool true), (33, .agg #[.int .u64 a1.c0, .int .u64 a1.c1, .int .u64 a1.c2, .int .u64 a1.c3]), (34, .agg #[.int .u64 0, .int .u64 0, .int .u64 0, .int .u64 0])] [⟨b8, #[.int .u64 0, .int .u64 0, .int .u64 0, .int .u64 0], 25⟩, ⟨b6, #[.int .u64 a2.c0, .int .u64 a2.c1, .int .u64 a2.c2, .int .u64 a2.c3], 25⟩, ⟨b5, #[.int .u64 a1.c0, .int .u64 a1.c1, .int .u64 a1.c2, .int .u64 a1.c3], 25⟩, ⟨b4, #[.int .u64 a0.c0, .int .u64 a0.c1, .int .u64 a0.c2, .int .u64 a0.c3], 25⟩] (b8 = b8 ∧ b5 = b5 ∧ True) (by kernel_rfl) ⟨rfl, rfl, trivial⟩ ?_
                  refine nx_op (by kernel_rfl) (o_rv rfl (by kernel_rfl) (rv_eqArr .u64 .u64 (n := 4) (e := 23) [a1.c0, a1.c1, a1.c2, a1.c3] [0, 0, 0, 0] (by kernel_rfl) (by kernel_rfl) (by kernel_rfl) (by kernel_rfl) rfl rfl rfl rfl) ?_)
                  refine nx_run 1 [4, 6, 8, 9, 10, 11, 12, 36] [(4, .pointer (some ⟨b4, 0, none⟩)), (6, .pointer (some ⟨b6, 0, none⟩)), (8, .int .u64 0), (9, .int .i64 0), (10, .pointer (some ⟨b8, 0, none⟩)), (11, .int .u64 x17), (12, .int .i64 0), (36, .bool ([a1.c0, a1.c1, a1.c2, a1.c3] == [0, 0, 0, 0]))] (by kernel_rfl) ?_
                  refine nx_nil ?_
                  refine nx_sel [4, 6, 8, 9, 10, 11, 12, 36] [(4, .pointer (some ⟨b4, 0, none⟩)), (6, .pointer (some ⟨b6, 0, none⟩)), (8, .int .u64 0), (9, .int .i64 0), (10, .pointer (some ⟨b8, 0, none⟩)), (11, .int .u64 x17), (12, .int .i64 0), (36, .bool ([a1.c0, a1.c1, a1.c2, a1.c3] == [0, 0, 0, 0]))] rfl ?_
                  refine nx_meet (fun t w' hF hS => ?_)
                  obtain rfl := ret_s hx89
                  exact ⟨hF, hS⟩
                · have hx89 := cond_f hc92 hx89
                  refine nx_put 32 (.bool false) rfl (congrArg Value.bool hc92) ?_
                  refine nx_run 4 [4, 6, 8, 9, 10, 11, 12, 36] [(4, .pointer (some ⟨b4, 0, none⟩)), (6, .pointer (some ⟨b6, 0, none⟩)), (8, .int .u64 0), (9, .int .i64 0), (10, .pointer (some ⟨b8, 0, none⟩)), (11, .int .u64 x17), (12, .int .i64 0), (36, .bool false)] (by kernel_rfl) ?_
                  refine nx_nil ?_
                  refine nx_sel [4, 6, 8, 9, 10, 11, 12, 36] [(4, .pointer (some ⟨b4, 0, none⟩)), (6, .pointer (some ⟨b6, 0, none⟩)), (8, .int .u64 0), (9, .int .i64 0), (10, .pointer (some ⟨b8, 0, none⟩)), (11, .int .u64 x17), (12, .int .i64 0), (36, .bool false)] rfl ?_
                  refine nx_meet (fun t w' hF hS => ?_)
                  obtain rfl := ret_s hx89
                  exact ⟨hF, hS⟩
    · refine nx_seq (nx_region ?_)
      refine nx_run 2 [4, 5, 6, 8, 9, 10, 11, 12, 26] [(4, .pointer (some ⟨b4, 0, none⟩)), (5, .pointer (some ⟨b5, 0, none⟩)), (6, .pointer (some ⟨b6, 0, none⟩)), (8, .int .u64 0), (9, .int .i64 0), (10, .pointer (some ⟨b8, 0, none⟩)), (11, .int .u64 x13), (12, .int .i64 0), (26, .bool (!a3))] (by kernel_rfl) ?_
      refine nx_nil (nx_then ?_)
      refine nx_cond (b := (!a3)) rfl (fun hc93 => ?_) (fun hc93 => ?_)
      · have hx18 := cond_t hc93 hx18
        refine nx_region ?_
        refine nx_run 3 [4, 5, 6, 8, 9, 10, 11, 12] [(4, .pointer (some ⟨b4, 0, none⟩)), (5, .pointer (some ⟨b5, 0, none⟩)), (6, .pointer (some ⟨b6, 0, none⟩)), (8, .int .u64 0), (9, .int .i64 0), (10, .pointer (some ⟨b8, 0, none⟩)), (11, .int .u64 (wu64 (x13 + 2100))), (12, .int .i64 0)] (by kernel_rfl) ?_
        refine nx_nil ?_
        refine nx_sel [4, 5, 6, 8, 9, 10, 11, 12] [(4, .pointer (some ⟨b4, 0, none⟩)), (5, .pointer (some ⟨b5, 0, none⟩)), (6, .pointer (some ⟨b6, 0, none⟩)), (8, .int .u64 0), (9, .int .i64 0), (10, .pointer (some ⟨b8, 0, none⟩)), (11, .int .u64 (wu64 (x13 + 2100))), (12, .int .i64 0)] rfl ?_
        refine nx_meet (fun t w' hF hS => ?_)
        obtain rfl := ret_s hx18
        exact ⟨hF, hS⟩
      · have hx18 := cond_f hc93 hx18
        refine nx_skip ?_
        refine nx_sel [4, 5, 6, 8, 9, 10, 11, 12] [(4, .pointer (some ⟨b4, 0, none⟩)), (5, .pointer (some ⟨b5, 0, none⟩)), (6, .pointer (some ⟨b6, 0, none⟩)), (8, .int .u64 0), (9, .int .i64 0), (10, .pointer (some ⟨b8, 0, none⟩)), (11, .int .u64 x13), (12, .int .i64 0)] rfl ?_
        refine nx_meet (fun t w' hF hS => ?_)
        obtain rfl := ret_s hx18
        exact ⟨hF, hS⟩
  · obtain ⟨x95, hx96, hx14⟩ := bind_s hx14
    refine nx_join (fun t w' => Fr Try.f15.ntmps t [(3, .bool a3), (4, .pointer (some ⟨b4, 0, none⟩)), (5, .pointer (some ⟨b5, 0, none⟩)), (6, .pointer (some ⟨b6, 0, none⟩)), (8, .int .u64 0), (9, .int .i64 0), (10, .pointer (some ⟨b8, 0, none⟩)), (11, .int .u64 100), (12, .int .i64 0), (21, .bool x95)] ∧ Sta [] w w' [⟨b8, #[.int .u64 0, .int .u64 0, .int .u64 0, .int .u64 0], 25⟩, ⟨b6, #[.int .u64 a2.c0, .int .u64 a2.c1, .int .u64 a2.c2, .int .u64 a2.c3], 25⟩, ⟨b5, #[.int .u64 a1.c0, .int .u64 a1.c1, .int .u64 a1.c2, .int .u64 a1.c3], 25⟩, ⟨b4, #[.int .u64 a0.c0, .int .u64 a0.c1, .int .u64 a0.c2, .int .u64 a0.c3], 25⟩] [] []) ?_ ?_
    · rintro t w' ⟨hF, hS⟩
      refine nx_wp (c := ⟨Try.f15.ntmps, [], w⟩) hF hS ?_
      refine nx_cond (b := x95) rfl (fun hc98 => ?_) (fun hc98 => ?_)
      · have hx14 := cond_t hc98 hx14
        refine nx_seq (nx_region ?_)
        refine nx_run 1 [3, 4, 5, 6, 8, 9, 10, 11, 12] [(3, .bool a3), (4, .pointer (some ⟨b4, 0, none⟩)), (5, .pointer (some ⟨b5, 0, none⟩)), (6, .pointer (some ⟨b6, 0, none⟩)), (8, .int .u64 0), (9, .int .i64 0), (10, .pointer (some ⟨b8, 0, none⟩)), (11, .int .u64 2900), (12, .int .i64 0)] (by kernel_rfl) ?_
        refine nx_nil (nx_then (nx_seq (nx_region ?_)))
        refine nx_mem 2 [3, 0] [3, 4, 5, 6, 8, 9, 10, 11, 12, 22, 23] [(3, .bool a3), (4, .pointer (some ⟨b4, 0, none⟩)), (5, .pointer (some ⟨b5, 0, none⟩)), (6, .pointer (some ⟨b6, 0, none⟩)), (8, .int .u64 0), (9, .int .i64 0), (10, .pointer (some ⟨b8, 0, none⟩)), (11, .int .u64 2900), (12, .int .i64 0), (22, .agg #[.int .u64 a0.c0, .int .u64 a0.c1, .int .u64 a0.c2, .int .u64 a0.c3]), (23, .agg #[.int .u64 0, .int .u64 0, .int .u64 0, .int .u64 0])] [⟨b8, #[.int .u64 0, .int .u64 0, .int .u64 0, .int .u64 0], 25⟩, ⟨b6, #[.int .u64 a2.c0, .int .u64 a2.c1, .int .u64 a2.c2, .int .u64 a2.c3], 25⟩, ⟨b5, #[.int .u64 a1.c0, .int .u64 a1.c1, .int .u64 a1.c2, .int .u64 a1.c3], 25⟩, ⟨b4, #[.int .u64 a0.c0, .int .u64 a0.c1, .int .u64 a0.c2, .int .u64 a0.c3], 25⟩] (b8 = b8 ∧ b4 = b4 ∧ True) (by kernel_rfl) ⟨rfl, rfl, trivial⟩ ?_
        refine nx_op (by kernel_rfl) (o_rv rfl (by kernel_rfl) (rv_eqArr .u64 .u64 (n := 4) (e := 23) [a0.c0, a0.c1, a0.c2, a0.c3] [0, 0, 0, 0] (by kernel_rfl) (by kernel_rfl) (by kernel_rfl) (by kernel_rfl) rfl rfl rfl rfl) ?_)
        refine nx_nil (nx_then ?_)
        refine nx_cond (b := ([a0.c0, a0.c1, a0.c2, a0.c3] == [0, 0, 0, 0])) rfl (fun hc99 => ?_) (fun hc99 => ?_)
        · have hx14 := cond_t hc99 hx14
          refine nx_region ?_
          refine nx_run 1 [3, 4, 5, 6, 8, 9, 10, 11, 12] [(3, .bool a3), (4, .pointer (some ⟨b4, 0, none⟩)), (5, .pointer (some ⟨b5, 0, none⟩)), (6, .pointer (some ⟨b6, 0, none⟩)), (8, .int .u64 0), (9, .int .i64 0), (10, .pointer (some ⟨b8, 0, none⟩)), (11, .int .u64 20000), (12, .int .i64 0)] (by kernel_rfl) ?_
          refine nx_nil ?_
          refine nx_sel [3, 4, 5, 6, 8, 9, 10, 11, 12] [(3, .bool a3), (4, .pointer (some ⟨b4, 0, none⟩)), (5, .pointer (some ⟨b5, 0, none⟩)), (6, .pointer (some ⟨b6, 0, none⟩)), (8, .int .u64 0), (9, .int .i64 0), (10, .pointer (some ⟨b8, 0, none⟩)), (11, .int .u64 20000), (12, .int .i64 0)] rfl ?_
          refine nx_meet (fun t w' hF hS => ?_)
          obtain rfl := ret_s hx14
          exact ⟨hF, hS⟩
        · have hx14 := cond_f hc99 hx14
          refine nx_skip ?_
          refine nx_sel [3, 4, 5, 6, 8, 9, 10, 11, 12] [(3, .bool a3), (4, .pointer (some ⟨b4, 0, none⟩)), (5, .pointer (some ⟨b5, 0, none⟩)), (6, .pointer (some ⟨b6, 0, none⟩)), (8, .int .u64 0), (9, .int .i64 0), (10, .pointer (some ⟨b8, 0, none⟩)), (11, .int .u64 2900), (12, .int .i64 0)] rfl ?_
          refine nx_meet (fun t w' hF hS => ?_)
          obtain rfl := ret_s hx14
          exact ⟨hF, hS⟩
      · have hx14 := cond_f hc98 hx14
        refine nx_skip ?_
        refine nx_sel [3, 4, 5, 6, 8, 9, 10, 11, 12] [(3, .bool a3), (4, .pointer (some ⟨b4, 0, none⟩)), (5, .pointer (some ⟨b5, 0, none⟩)), (6, .pointer (some ⟨b6, 0, none⟩)), (8, .int .u64 0), (9, .int .i64 0), (10, .pointer (some ⟨b8, 0, none⟩)), (11, .int .u64 100), (12, .int .i64 0)] rfl ?_
        refine nx_meet (fun t w' hF hS => ?_)
        obtain rfl := ret_s hx14
        exact ⟨hF, hS⟩
    · refine nx_region ?_
      refine nx_mem 2 [1, 2] [3, 4, 5, 6, 8, 9, 10, 11, 12, 14, 15] [(3, .bool a3), (4, .pointer (some ⟨b4, 0, none⟩)), (5, .pointer (some ⟨b5, 0, none⟩)), (6, .pointer (some ⟨b6, 0, none⟩)), (8, .int .u64 0), (9, .int .i64 0), (10, .pointer (some ⟨b8, 0, none⟩)), (11, .int .u64 100), (12, .int .i64 0), (14, .agg #[.int .u64 a2.c0, .int .u64 a2.c1, .int .u64 a2.c2, .int .u64 a2.c3]), (15, .agg #[.int .u64 a1.c0, .int .u64 a1.c1, .int .u64 a1.c2, .int .u64 a1.c3])] [⟨b8, #[.int .u64 0, .int .u64 0, .int .u64 0, .int .u64 0], 25⟩, ⟨b6, #[.int .u64 a2.c0, .int .u64 a2.c1, .int .u64 a2.c2, .int .u64 a2.c3], 25⟩, ⟨b5, #[.int .u64 a1.c0, .int .u64 a1.c1, .int .u64 a1.c2, .int .u64 a1.c3], 25⟩, ⟨b4, #[.int .u64 a0.c0, .int .u64 a0.c1, .int .u64 a0.c2, .int .u64 a0.c3], 25⟩] (b5 = b5 ∧ b6 = b6 ∧ True) (by kernel_rfl) ⟨rfl, rfl, trivial⟩ ?_
      refine nx_op (by kernel_rfl) (o_rv rfl (by kernel_rfl) (rv_neArr .u64 .u64 (n := 4) (e := 23) [a2.c0, a2.c1, a2.c2, a2.c3] [a1.c0, a1.c1, a1.c2, a1.c3] (by kernel_rfl) (by kernel_rfl) (by kernel_rfl) (by kernel_rfl) rfl rfl rfl rfl) ?_)
      refine nx_run 1 [3, 4, 5, 6, 8, 9, 10, 11, 12, 17] [(3, .bool a3), (4, .pointer (some ⟨b4, 0, none⟩)), (5, .pointer (some ⟨b5, 0, none⟩)), (6, .pointer (some ⟨b6, 0, none⟩)), (8, .int .u64 0), (9, .int .i64 0), (10, .pointer (some ⟨b8, 0, none⟩)), (11, .int .u64 100), (12, .int .i64 0), (17, .bool (!([a2.c0, a2.c1, a2.c2, a2.c3] == [a1.c0, a1.c1, a1.c2, a1.c3])))] (by kernel_rfl) ?_
      refine nx_split ((!([a2.c0, a2.c1, a2.c2, a2.c3] == [a1.c0, a1.c1, a1.c2, a1.c3]))) (fun hc100 => ?_) (fun hc100 => ?_)
      · have hx96 := cond_t hc100 hx96
        refine nx_put 17 (.bool true) rfl (congrArg Value.bool hc100) ?_
        refine nx_mem 2 [2, 3] [3, 4, 5, 6, 8, 9, 10, 11, 12, 17, 18, 19] [(3, .bool a3), (4, .pointer (some ⟨b4, 0, none⟩)), (5, .pointer (some ⟨b5, 0, none⟩)), (6, .pointer (some ⟨b6, 0, none⟩)), (8, .int .u64 0), (9, .int .i64 0), (10, .pointer (some ⟨b8, 0, none⟩)), (11, .int .u64 100), (12, .int .i64 0), (17, .bool true), (18, .agg #[.int .u64 a1.c0, .int .u64 a1.c1, .int .u64 a1.c2, .int .u64 a1.c3]), (19, .agg #[.int .u64 a0.c0, .int .u64 a0.c1, .int .u64 a0.c2, .int .u64 a0.c3])] [⟨b8, #[.int .u64 0, .int .u64 0, .int .u64 0, .int .u64 0], 25⟩, ⟨b6, #[.int .u64 a2.c0, .int .u64 a2.c1, .int .u64 a2.c2, .int .u64 a2.c3], 25⟩, ⟨b5, #[.int .u64 a1.c0, .int .u64 a1.c1, .int .u64 a1.c2, .int .u64 a1.c3], 25⟩, ⟨b4, #[.int .u64 a0.c0, .int .u64 a0.c1, .int .u64 a0.c2, .int .u64 a0.c3], 25⟩] (b4 = b4 ∧ b5 = b5 ∧ True) (by kernel_rfl) ⟨rfl, rfl, trivial⟩ ?_
        refine nx_op (by kernel_rfl) (o_rv rfl (by kernel_rfl) (rv_eqArr .u64 .u64 (n := 4) (e := 23) [a1.c0, a1.c1, a1.c2, a1.c3] [a0.c0, a0.c1, a0.c2, a0.c3] (by kernel_rfl) (by kernel_rfl) (by kernel_rfl) (by kernel_rfl) rfl rfl rfl rfl) ?_)
        refine nx_run 1 [3, 4, 5, 6, 8, 9, 10, 11, 12, 21] [(3, .bool a3), (4, .pointer (some ⟨b4, 0, none⟩)), (5, .pointer (some ⟨b5, 0, none⟩)), (6, .pointer (some ⟨b6, 0, none⟩)), (8, .int .u64 0), (9, .int .i64 0), (10, .pointer (some ⟨b8, 0, none⟩)), (11, .int .u64 100), (12, .int .i64 0), (21, .bool ([a1.c0, a1.c1, a1.c2, a1.c3] == [a0.c0, a0.c1, a0.c2, a0.c3]))] (by kernel_rfl) ?_
        refine nx_nil ?_
        refine nx_sel [3, 4, 5, 6, 8, 9, 10, 11, 12, 21] [(3, .bool a3), (4, .pointer (some ⟨b4, 0, none⟩)), (5, .pointer (some ⟨b5, 0, none⟩)), (6, .pointer (some ⟨b6, 0, none⟩)), (8, .int .u64 0), (9, .int .i64 0), (10, .pointer (some ⟨b8, 0, none⟩)), (11, .int .u64 100), (12, .int .i64 0), (21, .bool ([a1.c0, a1.c1, a1.c2, a1.c3] == [a0.c0, a0.c1, a0.c2, a0.c3]))] rfl ?_
        refine nx_meet (fun t w' hF hS => ?_)
        obtain rfl := ret_s hx96
        exact ⟨hF, hS⟩
      · have hx96 := cond_f hc100 hx96
        refine nx_put 17 (.bool false) rfl (congrArg Value.bool hc100) ?_
        refine nx_run 4 [3, 4, 5, 6, 8, 9, 10, 11, 12, 21] [(3, .bool a3), (4, .pointer (some ⟨b4, 0, none⟩)), (5, .pointer (some ⟨b5, 0, none⟩)), (6, .pointer (some ⟨b6, 0, none⟩)), (8, .int .u64 0), (9, .int .i64 0), (10, .pointer (some ⟨b8, 0, none⟩)), (11, .int .u64 100), (12, .int .i64 0), (21, .bool false)] (by kernel_rfl) ?_
        refine nx_nil ?_
        refine nx_sel [3, 4, 5, 6, 8, 9, 10, 11, 12, 21] [(3, .bool a3), (4, .pointer (some ⟨b4, 0, none⟩)), (5, .pointer (some ⟨b5, 0, none⟩)), (6, .pointer (some ⟨b6, 0, none⟩)), (8, .int .u64 0), (9, .int .i64 0), (10, .pointer (some ⟨b8, 0, none⟩)), (11, .int .u64 100), (12, .int .i64 0), (21, .bool false)] rfl ?_
        refine nx_meet (fun t w' hF hS => ?_)
        obtain rfl := ret_s hx96
        exact ⟨hF, hS⟩
end Go.Cal
