/- What Words, Memory, capped, Small, Copy, Keccak, Log and Carry answer at words in range. Conditions: the numbers are in their kinds' ranges. -/
import Derived.Test.YtcjampbgjjhckaaPC1
namespace Go.Cal
open Go
set_option maxRecDepth 100000
def wd (m : Int) : Int := (m + 31) / 32
def mem (m : Int) : Int := 3 * wd m + (wd m * wd m) / 512
theorem wd_r {m : Int} (h0 : 0 ≤ m) (h1 : m ≤ 16777216) : 0 ≤ wd m ∧ wd m ≤ 524288 := by unfold wd; omega
theorem wd2_r {m : Int} (h0 : 0 ≤ m) (h1 : m ≤ 16777216) : 0 ≤ wd m * wd m ∧ wd m * wd m ≤ 274877906944 := by
  have h := wd_r h0 h1
  exact ⟨Int.mul_nonneg h.1 h.1, Int.le_trans (Int.mul_le_mul h.2 h.2 h.1 (by decide)) (by decide)⟩
theorem F8_eq {m : Int} (h0 : 0 ≤ m) (h1 : m < 9223372036854775808) : F8 m = some (wd m) := by
  unfold F8 wd
  rw [tmod_of h0, tdiv_of h0]
  by_cases h : m % 32 = 0
  · have e : (m % 32 != 0) = false := by simp [h]
    rw [e, cond_false, Option.bind_some, wu64_of (by omega) (by omega)]
    congr 1; omega
  · have e : (m % 32 != 0) = true := by simp [h]
    rw [e, cond_true, Option.bind_some, wu64_of (x := m / 32) (by omega) (by omega), wu64_of (by omega) (by omega)]
    congr 1; omega
theorem F7_eq {m : Int} (h0 : 0 ≤ m) (h1 : m ≤ 16777216) : F7 m = some (mem m) := by
  have h := wd_r h0 h1
  have h2 := wd2_r h0 h1
  unfold F7 mem
  have e : wu64 ((wu64 (m + 31)).tdiv 32) = wd m := by
    rw [wu64_of (x := m + 31) (by omega) (by omega), tdiv_of (by omega)]
    show wu64 (wd m) = wd m
    exact wu64_of h.1 (by omega)
  rw [e]
  generalize wd m * wd m = q at *
  generalize wd m = w at *
  rw [wu64_of (x := q) (by omega) (by omega), tdiv_of h2.1, wu64_of (x := 3 * w) (by omega) (by omega), wu64_of (x := q / 512) (by omega) (by omega), wu64_of (by omega) (by omega)]
theorem F9_eq {m : Int} (h0 : 0 ≤ m) (h1 : m ≤ 8388608) : F9 m = some (mem m) := by
  have h := wd_r h0 (by omega)
  have h2 := wd2_r h0 (by omega)
  have e : decide (m > 8388608) = false := by simp; omega
  unfold F9 mem
  rw [e, cond_false, F8_eq h0 (by omega), Option.bind_some]
  generalize wd m * wd m = q at *
  generalize wd m = w at *
  rw [wu64_of (x := q) (by omega) (by omega), tdiv_of h2.1, wu64_of (x := 3 * w) (by omega) (by omega), wu64_of (x := q / 512) (by omega) (by omega), wu64_of (by omega) (by omega)]
theorem F9_over {m : Int} (h1 : m > 8388608) : F9 m = some 33554433 := by
  have e : decide (m > 8388608) = true := by simp; omega
  unfold F9
  rw [e, cond_true]
/-! ### words that fit -/
def hz (a : C4) : Prop := a.c1 = 0 ∧ a.c2 = 0 ∧ a.c3 = 0
instance (a : C4) : Decidable (hz a) := by unfold hz; infer_instance
theorem F59_t {a : C4} (_h : ok4 a) (hh : hz a) : F59 a = some (a.c0, true) := by
  unfold F59
  rw [hh.1, hh.2.1, hh.2.2]
  rfl
theorem F59_f {a : C4} (h : ok4 a) (hh : ¬ hz a) : F59 a = some (0, false) := by
  obtain ⟨h0, h1, h2, h3⟩ := h
  have o1 := or64_zero h1 h2
  have o2 := or64_zero ⟨o1.1, o1.2.1⟩ h3
  have e : (orK .u64 (orK .u64 a.c1 a.c2) a.c3 != 0) = true := by
    rw [bne_iff_ne]
    intro h
    have h12 := o2.2.2.1 h
    have h11 := o1.2.2.1 h12.1
    exact hh ⟨h11.1, h11.2, h12.2⟩
  unfold F59
  rw [e, cond_true]
def fits (a : C4) : Prop := hz a ∧ a.c0 ≤ 8388608
instance (a : C4) : Decidable (fits a) := by unfold fits; infer_instance
def cap (a : C4) : Int := if fits a then a.c0 else 8388609
theorem F10_eq {a : C4} (h : ok4 a) : F10 a 8388609 = some (cap a) := by
  obtain ⟨h0, h1, h2, h3⟩ := h
  unfold F10 cap fits hz
  rw [wu64_of (x := 8388609) (by decide) (by decide)]
  by_cases z1 : a.c1 = 0
  · by_cases z2 : a.c2 = 0
    · by_cases z3 : a.c3 = 0
      · by_cases z0 : a.c0 ≤ 8388608
        · have e : decide (a.c0 > 8388609) = false := by simp; omega
          simp [z1, z2, z3, z0, e]
          exact wi64_of (by omega) (by omega)
        · by_cases z4 : a.c0 = 8388609
          · simp [z1, z2, z3, z4]
            rfl
          · have e : decide (a.c0 > 8388609) = true := by simp; omega
            simp [z1, z2, z3, z0, e]
      · have e : decide (a.c3 > 0) = true := by simp; omega
        simp [z1, z2, z3, e]
    · have e : decide (a.c2 > 0) = true := by simp; omega
      simp [z1, z2, e]
  · have e : decide (a.c1 > 0) = true := by simp; omega
    simp [z1, e]
theorem cap_r {a : C4} (h : ok4 a) : 0 ≤ cap a ∧ cap a ≤ 8388609 ∧ (cap a ≤ 8388608 ↔ fits a) := by
  obtain ⟨h0, h1, h2, h3⟩ := h
  unfold cap
  split
  · rename_i hf
    have := hf.2
    exact ⟨h0.1, by omega, fun _ => hf, fun _ => this⟩
  · rename_i hf
    exact ⟨by decide, by decide, fun h => by omega, fun h => absurd h hf⟩
theorem F60_t {a : C4} (h : ok4 a) (hf : fits a) : F60 a = some (a.c0, 0) := by
  unfold F60
  have e : decide (a.c0 > 8388608) = false := by have := hf.2; simp; omega
  rw [F59_t h hf.1]
  simp [e]
theorem F60_f {a : C4} (h : ok4 a) (hf : ¬ fits a) : F60 a = some (0, 140) := by
  unfold F60
  by_cases hh : hz a
  · have e : decide (a.c0 > 8388608) = true := by
      simp only [decide_eq_true_eq]
      by_cases h4 : a.c0 > 8388608
      · exact h4
      · exact absurd ⟨hh, by omega⟩ hf
    rw [F59_t h hh]
    simp [e]
  · rw [F59_f h hh]
    rfl
theorem F12_t {a : C4} (h : ok4 a) (hf : fits a) : F12 a = some (3 * wd a.c0, 0) := by
  have h1 := hf.2
  have h0 := h.1.1
  have hw := wd_r h0 (by omega)
  unfold F12
  rw [F60_t h hf, Option.bind_some, F8_eq h0 (by omega), Option.bind_some, wu64_of (by omega) (by omega)]
theorem F12_f {a : C4} (h : ok4 a) (hf : ¬ fits a) : F12 a = some (0, 140) := by
  unfold F12
  rw [F60_f h hf, Option.bind_some, F8_eq (by decide) (by decide), Option.bind_some]
  rfl
theorem F13_t {a : C4} (h : ok4 a) (hf : fits a) : F13 a = some (6 * wd a.c0, 0) := by
  have h1 := hf.2
  have h0 := h.1.1
  have hw := wd_r h0 (by omega)
  unfold F13
  rw [F60_t h hf, Option.bind_some, F8_eq h0 (by omega), Option.bind_some, wu64_of (by omega) (by omega)]
theorem F13_f {a : C4} (h : ok4 a) (hf : ¬ fits a) : F13 a = some (0, 140) := by
  unfold F13
  rw [F60_f h hf, Option.bind_some, F8_eq (by decide) (by decide), Option.bind_some]
  rfl
theorem F14_big {t : Int} {a : C4} (ht : t > 4) : F14 t a = some (0, 1) := by
  unfold F14
  have e1 : decide (t < 0) = false := by simp; omega
  have e2 : decide (t > 4) = true := by simp; omega
  rw [e1, e2]
  rfl
theorem F14_f {t : Int} {a : C4} (h : ok4 a) (h0 : 0 ≤ t) (ht : ¬ t > 4) (hf : ¬ fits a) : F14 t a = some (0, 140) := by
  unfold F14
  have e1 : decide (t < 0) = false := by simp; omega
  have e2 : decide (t > 4) = false := by simp; omega
  rw [e1, e2, F60_f h hf]
  rfl
theorem F14_t {t : Int} {a : C4} (h : ok4 a) (h0 : 0 ≤ t) (ht : ¬ t > 4) (hf : fits a) : F14 t a = some (375 * t + 8 * a.c0, 0) := by
  have h1 := hf.2
  have h2 := h.1.1
  unfold F14
  have e1 : decide (t < 0) = false := by simp; omega
  have e2 : decide (t > 4) = false := by simp; omega
  rw [e1, e2, F60_t h hf]
  simp
  rw [wu64_of (x := t) (by omega) (by omega), wu64_of (x := 375 * t) (by omega) (by omega), wu64_of (x := 8 * a.c0) (by omega) (by omega), wu64_of (by omega) (by omega)]
/-! ### the sum of two words -/
theorem add64_s {x y c : Int} (hx : 0 ≤ x ∧ x < 18446744073709551616) (hy : 0 ≤ y ∧ y < 18446744073709551616) (hc : 0 ≤ c ∧ c ≤ 1) :
    ∃ s d, add64F x y c = some (s, d) ∧ 0 ≤ s ∧ s < 18446744073709551616 ∧ 0 ≤ d ∧ d ≤ 1 ∧ s + 18446744073709551616 * d = x + y + c := by
  have e : Nat.ble c.toNat 1 = true := Nat.ble_eq_true_of_le (by omega)
  refine ⟨_, _, by unfold add64F; rw [e, cond_true], ?_⟩
  simp only [Int.ofNat_eq_natCast]
  omega
theorem F58_eq {a b : C4} (ha : ok4 a) (hb : ok4 b) (k : Nat) : ∃ z cy, F58 k a b = some (z, cy) ∧ ok4 z ∧ ((cy = false ∧ hz z ∧ z.c0 ≤ 8388608) ↔ (fits a ∧ fits b ∧ a.c0 + b.c0 ≤ 8388608)) ∧ ((cy = false ∧ hz z ∧ z.c0 ≤ 8388608) → z.c0 = a.c0 + b.c0) := by
  obtain ⟨a0, a1, a2, a3⟩ := ha
  obtain ⟨b0, b1, b2, b3⟩ := hb
  obtain ⟨s0, d0, e0, p0⟩ := add64_s a0 b0 (c := 0) (by decide)
  obtain ⟨s1, d1, e1, p1⟩ := add64_s a1 b1 (c := d0) (by omega)
  obtain ⟨s2, d2, e2, p2⟩ := add64_s a2 b2 (c := d1) (by omega)
  obtain ⟨s3, d3, e3, p3⟩ := add64_s a3 b3 (c := d2) (by omega)
  refine ⟨⟨s0, s1, s2, s3⟩, d3 != 0, ?_, by simp only [ok4]; omega, ?_⟩
  · unfold F58
    simp only [e0, e1, e2, e3, Option.bind_some]
  · simp only [hz, fits, bne_eq_false_iff_eq]
    omega
end Go.Cal
