/- The walk of the function cairn/gas.Data: what it computes, as a Lean function, and that each of its calls answers so. Condition: the function gives an answer (some). Printed by program. -/
import Derived.Test.YtcjampbgjjhckaaKB
namespace Go.Cal
open Go Go.RowKit Go.Proofs
set_option maxRecDepth 100000
set_option linter.unusedVariables false
-- cairn/gas.Data
def F25_l0 (a0 : List Int) : Nat → Int → Int → Option Int
  | 0, _, _ => none
  | n + 1, v34, v35 => (bif (decide (v35 < (a0.length : Int))) then (((bif inb v35 a0.length then (bif ((gI a0 v35) == 0) then some (wu64 (v34 + 4)) else some (wu64 (v34 + 16))) else none) : Option Int)).bind (fun x40 => (F25_l0 a0 n x40 (wi64 (v35 + 1)))) else some v34)
def F25 (k : Nat) (a0 : List Int) : Option (Int) := (((F25_l0 a0 k 0 0) : Option Int)).bind (fun x19 => some x19)
theorem ct25 (k : Nat) (a0 : List Int) (A_0 : Option Addr) (c_0 : Nat) (S : Nat → Prop) (w : World) (hf0 : (rdI A_0 c_0 .u8 a0).P S w) {r : (Int)} (H : F25 k a0 = some r) : Calls Try.prog 25 #[.slice A_0 a0.length c_0] w (Post S w (fun (_ : Unit) => .int .u64 r) (fun _ => []) (fun _ => [])) := by
  unfold F25 at H
  refine calls_of_nx [.slice A_0 a0.length c_0] [(0, .slice A_0 a0.length c_0)] Try.func25 rfl rfl rfl (Sta.begin w S [rdI A_0 c_0 .u8 a0] (FactsOK.cons hf0 (FactsOK.nil _ _))) ?_
  refine nx_seq (nx_region ?_)
  refine nx_run 1 [0, 2] [(0, .slice A_0 a0.length c_0), (2, .int .u64 0)] (by kernel_rfl) ?_
  refine nx_nil (nx_then (nx_seq (nx_region ?_)))
  refine nx_run 1 [0, 2, 3] [(0, .slice A_0 a0.length c_0), (2, .int .u64 0), (3, .int .u64 0)] (by kernel_rfl) ?_
  refine nx_nil (nx_then ?_)
  obtain ⟨x19, hx20, H⟩ := bind_s H
  refine nx_join (fun t w' => Fr Try.f25.ntmps t [(2, .int .u64 0), (3, .int .u64 x19)] ∧ Sta [] w w' [] [] [(rdI A_0 c_0 .u8 a0, sa S w)]) ?_ ?_
  · rintro t w' ⟨hF, hS⟩
    refine nx_wp (c := ⟨Try.f25.ntmps, [], w⟩) hF hS ?_
    refine nx_seq (nx_region ?_)
    refine nx_run 2 [2] [(2, .int .u64 x19)] (by kernel_rfl) ?_
    refine nx_nil (nx_then (nx_ret ?_))
    obtain rfl := ret_s H
    exact nx_finish (S := S) (w := w) rfl rfl [.int .u64 x19] Try.results25 (.tmp rfl .nil) () rfl [] [false] rfl rfl
  · refine nx_seq (nx_region ?_)
    refine nx_run 3 [2, 3, 6, 7, 8] [(2, .int .u64 0), (3, .int .u64 0), (6, .slice A_0 a0.length c_0), (7, .int .i64 (a0.length : Int)), (8, .int .i64 0)] (by kernel_rfl) ?_
    refine nx_nil (nx_then (nx_block ?_))
    refine nx_sel [2, 3, 6, 7, 8] [(2, .int .u64 0), (3, .int .u64 0), (6, .slice A_0 a0.length c_0), (7, .int .i64 (a0.length : Int)), (8, .int .i64 0)] rfl ?_
    refine nx_loop (fun n t w' => ∃ (v34 : Int) (v35 : Int), F25_l0 a0 n v34 v35 = some x19 ∧ Fr Try.f25.ntmps t [(2, .int .u64 0), (3, .int .u64 v34), (6, .slice A_0 a0.length c_0), (7, .int .i64 (a0.length : Int)), (8, .int .i64 v35)] ∧ Sta [] w w' [] [] [(rdI A_0 c_0 .u8 a0, sa S w)]) k ?_ ?_
    · exact fun t w' hF hS => ⟨0, 0, hx20, hF, hS⟩
    · rintro n t w' ⟨v34, v35, hx20, hF, hS⟩
      cases n with
      | zero => exact (none_s hx20).elim
      | succ n =>
        refine nx_wp (c := ⟨Try.f25.ntmps, [], w⟩) hF hS ?_
        rw [F25_l0] at hx20
        refine nx_seq (nx_region ?_)
        refine nx_run 1 [2, 3, 6, 7, 8, 9] [(2, .int .u64 0), (3, .int .u64 v34), (6, .slice A_0 a0.length c_0), (7, .int .i64 (a0.length : Int)), (8, .int .i64 v35), (9, .bool (decide (v35 < (a0.length : Int))))] (by kernel_rfl) ?_
        refine nx_nil (nx_then (nx_seq ?_))
        refine nx_cond (b := (decide (v35 < (a0.length : Int)))) rfl (fun hc37 => ?_) (fun hc37 => ?_)
        · have hx20 := cond_t hc37 hx20
          refine nx_skip (nx_then ?_)
          obtain ⟨x40, hx41, hx20⟩ := bind_s hx20
          refine nx_join (fun t w' => Fr Try.f25.ntmps t [(2, .int .u64 0), (3, .int .u64 x40), (5, .int .u8 (gI a0 v35)), (6, .slice A_0 a0.length c_0), (7, .int .i64 (a0.length : Int)), (8, .int .i64 v35), (9, .bool (decide (v35 < (a0.length : Int)))), (10, .pointer (pAt A_0 v35.toNat)), (11, .int .u8 (gI a0 v35)), (12, .int .u8 (gI a0 v35)), (13, .bool ((gI a0 v35) == 0))] ∧ Sta [] w w' [] [] [(rdI A_0 c_0 .u8 a0, sa S w)]) ?_ ?_
          · rintro t w' ⟨hF, hS⟩
            refine nx_wp (c := ⟨Try.f25.ntmps, [], w⟩) hF hS ?_
            refine nx_region ?_
            refine nx_run 2 [2, 3, 5, 6, 7, 8, 9, 10, 11, 12, 13, 18] [(2, .int .u64 0), (3, .int .u64 x40), (5, .int .u8 (gI a0 v35)), (6, .slice A_0 a0.length c_0), (7, .int .i64 (a0.length : Int)), (8, .int .i64 (wi64 (v35 + 1))), (9, .bool (decide (v35 < (a0.length : Int)))), (10, .pointer (pAt A_0 v35.toNat)), (11, .int .u8 (gI a0 v35)), (12, .int .u8 (gI a0 v35)), (13, .bool ((gI a0 v35) == 0)), (18, .int .i64 (wi64 (v35 + 1)))] (by kernel_rfl) ?_
            refine nx_nil ?_
            refine nx_sel [2, 3, 6, 7, 8] [(2, .int .u64 0), (3, .int .u64 x40), (6, .slice A_0 a0.length c_0), (7, .int .i64 (a0.length : Int)), (8, .int .i64 (wi64 (v35 + 1)))] rfl ?_
            exact nx_again n (Nat.lt_succ_self n) (fun t w' hF hS => ⟨x40, (wi64 (v35 + 1)), hx20, hF, hS⟩)
          · refine nx_block (nx_seq (nx_region ?_))
            obtain ⟨hb44, hx41⟩ := cond_n hx41
            refine nx_op (by kernel_rfl) (o_rv rfl (by kernel_rfl) (rv_idxR (e := 5) 0 rfl (by kernel_rfl) (by kernel_rfl) rfl rfl hb44) ?_)
            refine nx_op (by kernel_rfl) (o_rv rfl (by kernel_rfl) (rv_ldR (i := v35) 0 rfl (by kernel_rfl) rfl hb44) ?_)
            refine nx_run 1 [2, 3, 5, 6, 7, 8, 9, 10, 11] [(2, .int .u64 0), (3, .int .u64 v34), (5, .int .u8 (gI a0 v35)), (6, .slice A_0 a0.length c_0), (7, .int .i64 (a0.length : Int)), (8, .int .i64 v35), (9, .bool (decide (v35 < (a0.length : Int)))), (10, .pointer (pAt A_0 v35.toNat)), (11, .int .u8 (gI a0 v35))] (by kernel_rfl) ?_
            refine nx_nil (nx_then (nx_seq (nx_region ?_)))
            refine nx_run 2 [2, 3, 5, 6, 7, 8, 9, 10, 11, 12, 13] [(2, .int .u64 0), (3, .int .u64 v34), (5, .int .u8 (gI a0 v35)), (6, .slice A_0 a0.length c_0), (7, .int .i64 (a0.length : Int)), (8, .int .i64 v35), (9, .bool (decide (v35 < (a0.length : Int)))), (10, .pointer (pAt A_0 v35.toNat)), (11, .int .u8 (gI a0 v35)), (12, .int .u8 (gI a0 v35)), (13, .bool ((gI a0 v35) == 0))] (by kernel_rfl) ?_
            refine nx_nil (nx_then ?_)
            refine nx_cond (b := ((gI a0 v35) == 0)) rfl (fun hc45 => ?_) (fun hc45 => ?_)
            · have hx41 := cond_t hc45 hx41
              refine nx_region ?_
              refine nx_run 3 [2, 3, 5, 6, 7, 8, 9, 10, 11, 12, 13, 14, 15] [(2, .int .u64 0), (3, .int .u64 (wu64 (v34 + 4))), (5, .int .u8 (gI a0 v35)), (6, .slice A_0 a0.length c_0), (7, .int .i64 (a0.length : Int)), (8, .int .i64 v35), (9, .bool (decide (v35 < (a0.length : Int)))), (10, .pointer (pAt A_0 v35.toNat)), (11, .int .u8 (gI a0 v35)), (12, .int .u8 (gI a0 v35)), (13, .bool ((gI a0 v35) == 0)), (14, .int .u64 v34), (15, .int .u64 (wu64 (v34 + 4)))] (by kernel_rfl) ?_
              refine nx_nil (nx_in ?_)
              refine nx_sel [2, 3, 5, 6, 7, 8, 9, 10, 11, 12, 13] [(2, .int .u64 0), (3, .int .u64 (wu64 (v34 + 4))), (5, .int .u8 (gI a0 v35)), (6, .slice A_0 a0.length c_0), (7, .int .i64 (a0.length : Int)), (8, .int .i64 v35), (9, .bool (decide (v35 < (a0.length : Int)))), (10, .pointer (pAt A_0 v35.toNat)), (11, .int .u8 (gI a0 v35)), (12, .int .u8 (gI a0 v35)), (13, .bool ((gI a0 v35) == 0))] rfl ?_
              refine nx_meet (fun t w' hF hS => ?_)
              obtain rfl := ret_s hx41
              exact ⟨hF, hS⟩
            · have hx41 := cond_f hc45 hx41
              refine nx_region ?_
              refine nx_run 3 [2, 3, 5, 6, 7, 8, 9, 10, 11, 12, 13, 16, 17] [(2, .int .u64 0), (3, .int .u64 (wu64 (v34 + 16))), (5, .int .u8 (gI a0 v35)), (6, .slice A_0 a0.length c_0), (7, .int .i64 (a0.length : Int)), (8, .int .i64 v35), (9, .bool (decide (v35 < (a0.length : Int)))), (10, .pointer (pAt A_0 v35.toNat)), (11, .int .u8 (gI a0 v35)), (12, .int .u8 (gI a0 v35)), (13, .bool ((gI a0 v35) == 0)), (16, .int .u64 v34), (17, .int .u64 (wu64 (v34 + 16)))] (by kernel_rfl) ?_
              refine nx_nil (nx_in ?_)
              refine nx_sel [2, 3, 5, 6, 7, 8, 9, 10, 11, 12, 13] [(2, .int .u64 0), (3, .int .u64 (wu64 (v34 + 16))), (5, .int .u8 (gI a0 v35)), (6, .slice A_0 a0.length c_0), (7, .int .i64 (a0.length : Int)), (8, .int .i64 v35), (9, .bool (decide (v35 < (a0.length : Int)))), (10, .pointer (pAt A_0 v35.toNat)), (11, .int .u8 (gI a0 v35)), (12, .int .u8 (gI a0 v35)), (13, .bool ((gI a0 v35) == 0))] rfl ?_
              refine nx_meet (fun t w' hF hS => ?_)
              obtain rfl := ret_s hx41
              exact ⟨hF, hS⟩
        · have hx20 := cond_f hc37 hx20
          refine nx_exit (nx_then_exit (nx_then_exit (nx_in_exit ?_)))
          refine nx_sel [2, 3] [(2, .int .u64 0), (3, .int .u64 v34)] rfl ?_
          refine nx_meet (fun t w' hF hS => ?_)
          obtain rfl := ret_s hx20
          exact ⟨hF, hS⟩
end Go.Cal
