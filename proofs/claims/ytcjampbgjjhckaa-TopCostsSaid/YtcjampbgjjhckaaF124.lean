/- The walk of the function math/bits.Len64: what it computes, as a Lean function, and that each of its calls answers so. Condition: the function gives an answer (some). Printed by program. -/
import Derived.Test.YtcjampbgjjhckaaKB
namespace Go.Cal
open Go Go.RowKit Go.Proofs
set_option maxRecDepth 100000
set_option linter.unusedVariables false
def str_14a5d850c2 : ByteArray := ⟨#[0, 1, 2, 2, 3, 3, 3, 3, 4, 4, 4, 4, 4, 4, 4, 4, 5, 5, 5, 5, 5, 5, 5, 5, 5, 5, 5, 5, 5, 5, 5, 5, 6, 6, 6, 6, 6, 6, 6, 6, 6, 6, 6, 6, 6, 6, 6, 6, 6, 6, 6, 6, 6, 6, 6, 6, 6, 6, 6, 6, 6, 6, 6, 6, 7, 7, 7, 7, 7, 7, 7, 7, 7, 7, 7, 7, 7, 7, 7, 7, 7, 7, 7, 7, 7, 7, 7, 7, 7, 7, 7, 7, 7, 7, 7, 7, 7, 7, 7, 7, 7, 7, 7, 7, 7, 7, 7, 7, 7, 7, 7, 7, 7, 7, 7, 7, 7, 7, 7, 7, 7, 7, 7, 7, 7, 7, 7, 7, 8, 8, 8, 8, 8, 8, 8, 8, 8, 8, 8, 8, 8, 8, 8, 8, 8, 8, 8, 8, 8, 8, 8, 8, 8, 8, 8, 8, 8, 8, 8, 8, 8, 8, 8, 8, 8, 8, 8, 8, 8, 8, 8, 8, 8, 8, 8, 8, 8, 8, 8, 8, 8, 8, 8, 8, 8, 8, 8, 8, 8, 8, 8, 8, 8, 8, 8, 8, 8, 8, 8, 8, 8, 8, 8, 8, 8, 8, 8, 8, 8, 8, 8, 8, 8, 8, 8, 8, 8, 8, 8, 8, 8, 8, 8, 8, 8, 8, 8, 8, 8, 8, 8, 8, 8, 8, 8, 8, 8, 8, 8, 8, 8, 8, 8, 8, 8, 8, 8, 8, 8, 8, 8, 8, 8, 8, 8, 8]⟩
-- math/bits.Len64
def F124 (a0 : Int) : Option (Int) := (((bif (decide (a0 ≥ 4294967296)) then some ((shrK .u64 a0 32), 32) else some (a0, 0)) : Option (Int × Int))).bind (fun x2 => (((bif (decide (x2.1 ≥ 65536)) then some ((shrK .u64 x2.1 16), (wi64 (x2.2 + 16))) else some (x2.1, x2.2)) : Option (Int × Int))).bind (fun x7 => (((bif (decide (x7.1 ≥ 256)) then some ((shrK .u64 x7.1 8), (wi64 (x7.2 + 8))) else some (x7.1, x7.2)) : Option (Int × Int))).bind (fun x12 => (bif inb (wu8 x12.1) str_14a5d850c2.size then some (wi64 (x12.2 + (wi64 (bI str_14a5d850c2 (wu8 x12.1))))) else none))))
theorem ct124 (a0 : Int) (S : Nat → Prop) (w : World) {r : (Int)} (H : F124 a0 = some r) : Calls Try.prog 124 #[.int .u64 a0] w (Post S w (fun (_ : Unit) => .int .i64 r) (fun _ => []) (fun _ => [])) := by
  unfold F124 at H
  refine calls_of_nx [.int .u64 a0] [(0, .int .u64 a0)] Try.func124 rfl rfl rfl (Sta.begin w S [] (FactsOK.nil _ _)) ?_
  refine nx_seq (nx_region ?_)
  refine nx_run 1 [0, 2] [(0, .int .u64 a0), (2, .int .i64 0)] (by kernel_rfl) ?_
  refine nx_nil (nx_then ?_)
  obtain ⟨x2, hx3, H⟩ := bind_s H
  refine nx_join (fun t w' => Fr Try.f124.ntmps t [(0, .int .u64 x2.1), (2, .int .i64 x2.2)] ∧ Sta [] w w' [] [] []) ?_ ?_
  · rintro t w' ⟨hF, hS⟩
    refine nx_wp (c := ⟨Try.f124.ntmps, [], w⟩) hF hS ?_
    obtain ⟨x7, hx8, H⟩ := bind_s H
    refine nx_join (fun t w' => Fr Try.f124.ntmps t [(0, .int .u64 x7.1), (2, .int .i64 x7.2)] ∧ Sta [] w w' [] [] []) ?_ ?_
    · rintro t w' ⟨hF, hS⟩
      refine nx_wp (c := ⟨Try.f124.ntmps, [], w⟩) hF hS ?_
      obtain ⟨x12, hx13, H⟩ := bind_s H
      refine nx_join (fun t w' => Fr Try.f124.ntmps t [(0, .int .u64 x12.1), (2, .int .i64 x12.2)] ∧ Sta [] w w' [] [] []) ?_ ?_
      · rintro t w' ⟨hF, hS⟩
        refine nx_wp (c := ⟨Try.f124.ntmps, [], w⟩) hF hS ?_
        refine nx_seq (nx_region ?_)
        refine nx_run 3 [2, 19, 21] [(2, .int .i64 x12.2), (19, .int .i64 x12.2), (21, .int .u8 (wu8 x12.1))] (by kernel_rfl) ?_
        obtain ⟨hb17, H⟩ := cond_n H
        refine nx_op (by kernel_rfl) (o_rv rfl (by kernel_rfl) (rv_idxStr (s := str_14a5d850c2) rfl rfl hb17 (by kernel_rfl)) ?_)
        refine nx_run 3 [2] [(2, .int .i64 (wi64 (x12.2 + (wi64 (bI str_14a5d850c2 (wu8 x12.1))))))] (by kernel_rfl) ?_
        refine nx_nil (nx_then (nx_ret ?_))
        obtain rfl := ret_s H
        exact nx_finish (S := S) (w := w) rfl rfl [.int .i64 (wi64 (x12.2 + (wi64 (bI str_14a5d850c2 (wu8 x12.1)))))] Try.results124 (.tmp rfl .nil) () rfl [] [] rfl rfl
      · refine nx_seq (nx_region ?_)
        refine nx_run 2 [0, 2, 14] [(0, .int .u64 x7.1), (2, .int .i64 x7.2), (14, .bool (decide (x7.1 ≥ 256)))] (by kernel_rfl) ?_
        refine nx_nil (nx_then ?_)
        refine nx_cond (b := (decide (x7.1 ≥ 256))) rfl (fun hc18 => ?_) (fun hc18 => ?_)
        · have hx13 := cond_t hc18 hx13
          refine nx_seq (nx_region ?_)
          refine nx_run 3 [0, 2] [(0, .int .u64 (shrK .u64 x7.1 8)), (2, .int .i64 x7.2)] (by kernel_rfl) ?_
          refine nx_nil (nx_then (nx_region ?_))
          refine nx_run 3 [0, 2] [(0, .int .u64 (shrK .u64 x7.1 8)), (2, .int .i64 (wi64 (x7.2 + 8)))] (by kernel_rfl) ?_
          refine nx_nil ?_
          refine nx_sel [0, 2] [(0, .int .u64 (shrK .u64 x7.1 8)), (2, .int .i64 (wi64 (x7.2 + 8)))] rfl ?_
          refine nx_meet (fun t w' hF hS => ?_)
          obtain rfl := ret_s hx13
          exact ⟨hF, hS⟩
        · have hx13 := cond_f hc18 hx13
          refine nx_skip ?_
          refine nx_sel [0, 2] [(0, .int .u64 x7.1), (2, .int .i64 x7.2)] rfl ?_
          refine nx_meet (fun t w' hF hS => ?_)
          obtain rfl := ret_s hx13
          exact ⟨hF, hS⟩
    · refine nx_seq (nx_region ?_)
      refine nx_run 2 [0, 2, 8] [(0, .int .u64 x2.1), (2, .int .i64 x2.2), (8, .bool (decide (x2.1 ≥ 65536)))] (by kernel_rfl) ?_
      refine nx_nil (nx_then ?_)
      refine nx_cond (b := (decide (x2.1 ≥ 65536))) rfl (fun hc19 => ?_) (fun hc19 => ?_)
      · have hx8 := cond_t hc19 hx8
        refine nx_seq (nx_region ?_)
        refine nx_run 3 [0, 2] [(0, .int .u64 (shrK .u64 x2.1 16)), (2, .int .i64 x2.2)] (by kernel_rfl) ?_
        refine nx_nil (nx_then (nx_region ?_))
        refine nx_run 3 [0, 2] [(0, .int .u64 (shrK .u64 x2.1 16)), (2, .int .i64 (wi64 (x2.2 + 16)))] (by kernel_rfl) ?_
        refine nx_nil ?_
        refine nx_sel [0, 2] [(0, .int .u64 (shrK .u64 x2.1 16)), (2, .int .i64 (wi64 (x2.2 + 16)))] rfl ?_
        refine nx_meet (fun t w' hF hS => ?_)
        obtain rfl := ret_s hx8
        exact ⟨hF, hS⟩
      · have hx8 := cond_f hc19 hx8
        refine nx_skip ?_
        refine nx_sel [0, 2] [(0, .int .u64 x2.1), (2, .int .i64 x2.2)] rfl ?_
        refine nx_meet (fun t w' hF hS => ?_)
        obtain rfl := ret_s hx8
        exact ⟨hF, hS⟩
  · refine nx_seq (nx_region ?_)
    refine nx_run 2 [0, 2, 4] [(0, .int .u64 a0), (2, .int .i64 0), (4, .bool (decide (a0 ≥ 4294967296)))] (by kernel_rfl) ?_
    refine nx_nil (nx_then ?_)
    refine nx_cond (b := (decide (a0 ≥ 4294967296))) rfl (fun hc20 => ?_) (fun hc20 => ?_)
    · have hx3 := cond_t hc20 hx3
      refine nx_seq (nx_region ?_)
      refine nx_run 3 [0, 2] [(0, .int .u64 (shrK .u64 a0 32)), (2, .int .i64 0)] (by kernel_rfl) ?_
      refine nx_nil (nx_then (nx_region ?_))
      refine nx_run 1 [0, 2] [(0, .int .u64 (shrK .u64 a0 32)), (2, .int .i64 32)] (by kernel_rfl) ?_
      refine nx_nil ?_
      refine nx_sel [0, 2] [(0, .int .u64 (shrK .u64 a0 32)), (2, .int .i64 32)] rfl ?_
      refine nx_meet (fun t w' hF hS => ?_)
      obtain rfl := ret_s hx3
      exact ⟨hF, hS⟩
    · have hx3 := cond_f hc20 hx3
      refine nx_skip ?_
      refine nx_sel [0, 2] [(0, .int .u64 a0), (2, .int .i64 0)] rfl ?_
      refine nx_meet (fun t w' hF hS => ?_)
      obtain rfl := ret_s hx3
      exact ⟨hF, hS⟩
end Go.Cal
