/- The walk of the function cairn/cairntop.trimmed: what it computes, as a Lean function, and that each of its calls answers so. Condition: the function gives an answer (some). Printed by program. -/
import Derived.Test.YtcjampbgjjhckaaKB
namespace Go.Cal
open Go Go.RowKit Go.Proofs
set_option maxRecDepth 100000
set_option linter.unusedVariables false
-- cairn/cairntop.trimmed
def F86_l0 : Nat → List Int → Option (List Int)
  | 0, _ => none
  | n + 1, v87 => (((bif (decide ((v87.length : Int) > 0)) then (bif inb (wi64 ((v87.length : Int) - 1)) v87.length then some (true, true, ((gI v87 (wi64 ((v87.length : Int) - 1))) == 0)) else none) else some (false, false, false)) : Option (Bool × Bool × Bool))).bind (fun x99 => (bif x99.2.2 then (bif (decide (0 ≤ (0 : Int)) && decide (0 ≤ (wi64 ((v87.length : Int) - 1))) && decide ((wi64 ((v87.length : Int) - 1)) ≤ (v87.length : Int))) then (F86_l0 n ((v87.take (wi64 ((v87.length : Int) - 1)).toNat).drop (0 : Int).toNat)) else none) else some v87))
def F86 (k : Nat) (a0 : List Int) : Option (List Int) := (((F86_l0 k a0) : Option (List Int))).bind (fun x48 => some x48)
theorem ct86 (k : Nat) (a0 : List Int) (A_0 : Option Addr) (c_0 : Nat) (S : Nat → Prop) (w : World) (hf0 : (rdI A_0 c_0 .u32 a0).P S w) {r : (List Int)} (H : F86 k a0 = some r) : Calls Try.prog 86 #[.slice A_0 a0.length c_0] w (Post S w (fun (x : (Option Addr × Nat)) => .slice x.1 r.length x.2) (fun _ => []) (fun x => [rdI x.1 x.2 .u32 r])) := by
  unfold F86 at H
  refine calls_of_nx [.slice A_0 a0.length c_0] [(0, .slice A_0 a0.length c_0)] Try.func86 rfl rfl rfl (Sta.begin w S [rdI A_0 c_0 .u32 a0] (FactsOK.cons hf0 (FactsOK.nil _ _))) ?_
  refine nx_seq (nx_region ?_)
  refine nx_run 1 [0, 2] [(0, .slice A_0 a0.length c_0), (2, .slice none 0 0)] (by kernel_rfl) ?_
  refine nx_nil (nx_then ?_)
  obtain ⟨x48, hx49, H⟩ := bind_s H
  refine nx_join (fun t w' => ∃ (A51 : Option Addr) (c52 : Nat), Fr Try.f86.ntmps t [(0, .slice A51 x48.length c52), (2, .slice none 0 0)] ∧ Sta [] w w' [] [] [(rdI A_0 c_0 .u32 a0, sa S w), (rdI A51 c52 .u32 x48, sa S w)]) ?_ ?_
  · rintro t w' ⟨A51, c52, hF, hS⟩
    refine nx_wp (c := ⟨Try.f86.ntmps, [], w⟩) hF hS ?_
    refine nx_seq (nx_region ?_)
    refine nx_run 2 [2] [(2, .slice A51 x48.length c52)] (by kernel_rfl) ?_
    refine nx_nil (nx_then (nx_ret ?_))
    obtain rfl := ret_s H
    exact nx_finish (S := S) (w := w) rfl rfl [.slice A51 x48.length c52] Try.results86 (.tmp rfl .nil) (A51, c52) rfl [] [false, true] rfl rfl
  · refine nx_block ?_
    refine nx_dup 0 rfl ?_
    refine nx_pick [1, 0] ?_
    refine nx_sel [0, 2] [(0, .slice A_0 a0.length c_0), (2, .slice none 0 0)] rfl ?_
    refine nx_loop (fun n t w' => ∃ (v87 : List Int) (A88 : Option Addr) (c89 : Nat), F86_l0 n v87 = some x48 ∧ Fr Try.f86.ntmps t [(0, .slice A88 v87.length c89), (2, .slice none 0 0)] ∧ Sta [] w w' [] [] [(rdI A_0 c_0 .u32 a0, sa S w), (rdI A88 c89 .u32 v87, sa S w)]) k ?_ ?_
    · exact fun t w' hF hS => ⟨a0, A_0, c_0, hx49, hF, hS⟩
    · rintro n t w' ⟨v87, A88, c89, hx49, hF, hS⟩
      cases n with
      | zero => exact (none_s hx49).elim
      | succ n =>
        refine nx_wp (c := ⟨Try.f86.ntmps, [], w⟩) hF hS ?_
        rw [F86_l0] at hx49
        refine nx_seq ?_
        obtain ⟨x99, hx100, hx49⟩ := bind_s hx49
        refine nx_join (fun t w' => Fr Try.f86.ntmps t [(0, .slice A88 v87.length c89), (2, .slice none 0 0), (3, .slice A88 v87.length c89), (4, .int .i64 (v87.length : Int)), (5, .bool x99.1), (6, .bool x99.2.1), (14, .bool x99.2.2)] ∧ Sta [] w w' [] [] [(rdI A_0 c_0 .u32 a0, sa S w), (rdI A88 c89 .u32 v87, sa S w)]) ?_ ?_
        · rintro t w' ⟨hF, hS⟩
          refine nx_wp (c := ⟨Try.f86.ntmps, [], w⟩) hF hS ?_
          refine nx_cond (b := x99.2.2) rfl (fun hc104 => ?_) (fun hc104 => ?_)
          · have hx49 := cond_t hc104 hx49
            refine nx_skip (nx_then (nx_block (nx_region ?_)))
            refine nx_run 4 [0, 2, 3, 4, 5, 6, 14, 15, 16, 17, 18] [(0, .slice A88 v87.length c89), (2, .slice none 0 0), (3, .slice A88 v87.length c89), (4, .int .i64 (v87.length : Int)), (5, .bool x99.1), (6, .bool x99.2.1), (14, .bool x99.2.2), (15, .slice A88 v87.length c89), (16, .slice A88 v87.length c89), (17, .int .i64 (v87.length : Int)), (18, .int .i64 (wi64 ((v87.length : Int) - 1)))] (by kernel_rfl) ?_
            obtain ⟨hb106, hx49⟩ := cond_n hx49
            refine nx_op (by kernel_rfl) (o_sliceR (e := 22) 1 (0 : Int) (wi64 ((v87.length : Int) - 1)) .i64 .i64 (by kernel_rfl) rfl (by kernel_rfl) (by kernel_rfl) rfl rfl rfl hb106 (fun A107 c108 => ?_))
            refine nx_run 1 [0, 2, 3, 4, 5, 6, 14, 15, 16, 17, 18, 19] [(0, .slice A107 (((v87.take (wi64 ((v87.length : Int) - 1)).toNat).drop (0 : Int).toNat).length) c108), (2, .slice none 0 0), (3, .slice A88 v87.length c89), (4, .int .i64 (v87.length : Int)), (5, .bool x99.1), (6, .bool x99.2.1), (14, .bool x99.2.2), (15, .slice A88 v87.length c89), (16, .slice A88 v87.length c89), (17, .int .i64 (v87.length : Int)), (18, .int .i64 (wi64 ((v87.length : Int) - 1))), (19, .slice A107 (((v87.take (wi64 ((v87.length : Int) - 1)).toNat).drop (0 : Int).toNat).length) c108)] (by kernel_rfl) ?_
            refine nx_nil (nx_in ?_)
            refine nx_dup 0 rfl ?_
            refine nx_pick [2, 0] ?_
            refine nx_sel [0, 2] [(0, .slice A107 (((v87.take (wi64 ((v87.length : Int) - 1)).toNat).drop (0 : Int).toNat).length) c108), (2, .slice none 0 0)] rfl ?_
            exact nx_again n (Nat.lt_succ_self n) (fun t w' hF hS => ⟨((v87.take (wi64 ((v87.length : Int) - 1)).toNat).drop (0 : Int).toNat), A107, c108, hx49, hF, hS⟩)
          · have hx49 := cond_f hc104 hx49
            refine nx_exit (nx_then_exit (nx_then_exit (nx_in_exit ?_)))
            refine nx_dup 1 rfl ?_
            refine nx_pick [1, 0] ?_
            refine nx_sel [0, 2] [(0, .slice A88 v87.length c89), (2, .slice none 0 0)] rfl ?_
            refine nx_meet (fun t w' hF hS => ?_)
            obtain rfl := ret_s hx49
            exact ⟨A88, c89, hF, hS⟩
        · refine nx_region ?_
          refine nx_run 4 [0, 2, 3, 4, 5, 6] [(0, .slice A88 v87.length c89), (2, .slice none 0 0), (3, .slice A88 v87.length c89), (4, .int .i64 (v87.length : Int)), (5, .bool (decide ((v87.length : Int) > 0))), (6, .bool (decide ((v87.length : Int) > 0)))] (by kernel_rfl) ?_
          refine nx_split ((decide ((v87.length : Int) > 0))) (fun hc110 => ?_) (fun hc110 => ?_)
          · have hx100 := cond_t hc110 hx100
            refine nx_put 5 (.bool true) rfl (congrArg Value.bool hc110) ?_
            refine nx_put 6 (.bool true) rfl (congrArg Value.bool hc110) ?_
            refine nx_run 4 [0, 2, 3, 4, 5, 6, 7, 8, 9, 10] [(0, .slice A88 v87.length c89), (2, .slice none 0 0), (3, .slice A88 v87.length c89), (4, .int .i64 (v87.length : Int)), (5, .bool true), (6, .bool true), (7, .slice A88 v87.length c89), (8, .slice A88 v87.length c89), (9, .int .i64 (v87.length : Int)), (10, .int .i64 (wi64 ((v87.length : Int) - 1)))] (by kernel_rfl) ?_
            obtain ⟨hb111, hx100⟩ := cond_n hx100
            refine nx_op (by kernel_rfl) (o_rv rfl (by kernel_rfl) (rv_idxR (e := 22) 1 rfl (by kernel_rfl) (by kernel_rfl) rfl rfl hb111) ?_)
            refine nx_op (by kernel_rfl) (o_rv rfl (by kernel_rfl) (rv_ldR (i := (wi64 ((v87.length : Int) - 1))) 1 rfl (by kernel_rfl) rfl hb111) ?_)
            refine nx_run 2 [0, 2, 3, 4, 5, 6, 7, 8, 9, 10, 11, 12, 13, 14] [(0, .slice A88 v87.length c89), (2, .slice none 0 0), (3, .slice A88 v87.length c89), (4, .int .i64 (v87.length : Int)), (5, .bool true), (6, .bool true), (7, .slice A88 v87.length c89), (8, .slice A88 v87.length c89), (9, .int .i64 (v87.length : Int)), (10, .int .i64 (wi64 ((v87.length : Int) - 1))), (11, .pointer (pAt A88 (((wi64 ((v87.length : Int) - 1))).toNat))), (12, .int .u32 (gI v87 (wi64 ((v87.length : Int) - 1)))), (13, .bool ((gI v87 (wi64 ((v87.length : Int) - 1))) == 0)), (14, .bool ((gI v87 (wi64 ((v87.length : Int) - 1))) == 0))] (by kernel_rfl) ?_
            refine nx_nil ?_
            refine nx_sel [0, 2, 3, 4, 5, 6, 14] [(0, .slice A88 v87.length c89), (2, .slice none 0 0), (3, .slice A88 v87.length c89), (4, .int .i64 (v87.length : Int)), (5, .bool true), (6, .bool true), (14, .bool ((gI v87 (wi64 ((v87.length : Int) - 1))) == 0))] rfl ?_
            refine nx_meet (fun t w' hF hS => ?_)
            obtain rfl := ret_s hx100
            exact ⟨hF, hS⟩
          · have hx100 := cond_f hc110 hx100
            refine nx_put 5 (.bool false) rfl (congrArg Value.bool hc110) ?_
            refine nx_put 6 (.bool false) rfl (congrArg Value.bool hc110) ?_
            refine nx_run 8 [0, 2, 3, 4, 5, 6, 7, 8, 9, 10, 11, 12, 13, 14] [(0, .slice A88 v87.length c89), (2, .slice none 0 0), (3, .slice A88 v87.length c89), (4, .int .i64 (v87.length : Int)), (5, .bool false), (6, .bool false), (7, undef), (8, undef), (9, undef), (10, undef), (11, undef), (12, undef), (13, undef), (14, .bool false)] (by kernel_rfl) ?_
            refine nx_nil ?_
            refine nx_sel [0, 2, 3, 4, 5, 6, 14] [(0, .slice A88 v87.length c89), (2, .slice none 0 0), (3, .slice A88 v87.length c89), (4, .int .i64 (v87.length : Int)), (5, .bool false), (6, .bool false), (14, .bool false)] rfl ?_
            refine nx_meet (fun t w' hF hS => ?_)
            obtain rfl := ret_s hx100
            exact ⟨hF, hS⟩
end Go.Cal
