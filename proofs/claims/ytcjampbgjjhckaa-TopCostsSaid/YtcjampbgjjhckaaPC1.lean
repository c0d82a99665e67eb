/- wordNat gives the digits of a word, and natBits of them is the word's bit length. Conditions: the numbers are in their kinds' ranges. -/
import Derived.Test.YtcjampbgjjhckaaPC0
namespace Go.Cal
open Go
set_option maxRecDepth 100000
theorem apOk_t {n m b : Nat} (h1 : (n + m) * b ≤ 140737488355328) (h2 : n + m ≤ 9223372036854775807) : apOk n m b = true := by
  unfold apOk
  rw [Bool.and_eq_true]
  exact ⟨Nat.ble_eq_true_of_le h1, Nat.ble_eq_true_of_le h2⟩
def dg (c : Int) (s : Nat) : Int := c / 2 ^ s % 65536
theorem dg_eq {c : Int} (s : Nat) (hs : s < 64) (h0 : 0 ≤ c) (h1 : c < 18446744073709551616) : wu32 (andK .u64 (shrK .u64 c (s : Int)) 65535) = dg c s := by
  have hp : (0 : Int) < 2 ^ s := Int.pow_pos (by decide)
  have hd : 0 ≤ c / 2 ^ s := Int.ediv_nonneg h0 (Int.le_of_lt hp)
  have hd2 : c / 2 ^ s ≤ c := Int.ediv_le_self _ h0
  have := and_mask (k := .u64) (x := c / 2 ^ s) 16 rfl hd (by show c / 2 ^ s < 2 ^ 64; omega) (by decide)
  rw [shr64 (by omega) (by omega)]
  simp only [Int.toNat_natCast]
  rw [show ((65535 : Int)) = 2 ^ 16 - 1 by decide, this]
  have e : (c / 2 ^ s) % 2 ^ 16 = dg c s := rfl
  rw [e]
  unfold dg
  exact wu32_of (by omega) (by omega)
theorem dg_r (c : Int) (s : Nat) : 0 ≤ dg c s ∧ dg c s < 65536 := by unfold dg; omega
theorem natOf_step (L v : List Int) (i n : Nat) (hi : i < L.length) (hL : L.length ≤ 1000) (hv : v.length ≤ 1000) (h0 : 0 ≤ L[i]) (h1 : L[i] < 18446744073709551616) :
    F51_l0 L (n + 1) v (i : Int) = F51_l0 L n (v ++ [dg L[i] 0, dg L[i] 16, dg L[i] 32, dg L[i] 48]) ((i + 1 : Nat) : Int) := by
  rw [F51_l0]
  have e1 : decide ((i : Int) < (L.length : Int)) = true := by simp; omega
  have e2 : inb (i : Int) L.length = true := by simp [inb]; omega
  have a1 : apOk v.length 1 4 = true := apOk_t (by omega) (by omega)
  have d0 := dg_eq 0 (by decide) h0 h1
  have d1 := dg_eq 16 (by decide) h0 h1
  have d2 := dg_eq 32 (by decide) h0 h1
  have d3 := dg_eq 48 (by decide) h0 h1
  rw [gI_of hi]
  have d0' : wu32 (andK .u64 (shrK .u64 L[i] 0) 65535) = dg L[i] 0 := d0
  have d1' : wu32 (andK .u64 (shrK .u64 L[i] 16) 65535) = dg L[i] 16 := d1
  have d2' : wu32 (andK .u64 (shrK .u64 L[i] 32) 65535) = dg L[i] 32 := d2
  have d3' : wu32 (andK .u64 (shrK .u64 L[i] 48) 65535) = dg L[i] 48 := d3
  rw [d0', d1', d2', d3', e1, e2, a1]
  have a2 : apOk (v ++ [dg L[i] 0]).length 1 4 = true := apOk_t (by simp; omega) (by simp; omega)
  have a3 : apOk ((v ++ [dg L[i] 0]) ++ [dg L[i] 16]).length 1 4 = true := apOk_t (by simp; omega) (by simp; omega)
  have a4 : apOk (((v ++ [dg L[i] 0]) ++ [dg L[i] 16]) ++ [dg L[i] 32]).length 1 4 = true := apOk_t (by simp; omega) (by simp; omega)
  simp only [cond_true, a2, a3, a4, Option.bind_some]
  rw [wi64_of (by omega) (by omega)]
  simp
def digits (a : C4) : List Int := [dg a.c0 0, dg a.c0 16, dg a.c0 32, dg a.c0 48, dg a.c1 0, dg a.c1 16, dg a.c1 32, dg a.c1 48, dg a.c2 0, dg a.c2 16, dg a.c2 32, dg a.c2 48, dg a.c3 0, dg a.c3 16, dg a.c3 32, dg a.c3 48]
theorem natOf_word {a : C4} (h : ok4 a) (n : Nat) : F51_l0 [a.c0, a.c1, a.c2, a.c3] (n + 5) [] 0 = some (digits a) := by
  obtain ⟨⟨p0, q0⟩, ⟨p1, q1⟩, ⟨p2, q2⟩, ⟨p3, q3⟩⟩ := h
  have s0 := natOf_step [a.c0, a.c1, a.c2, a.c3] [] 0 (n + 4) (by simp) (by simp) (by simp) p0 q0
  have s1 := natOf_step [a.c0, a.c1, a.c2, a.c3] [dg a.c0 0, dg a.c0 16, dg a.c0 32, dg a.c0 48] 1 (n + 3) (by simp) (by simp) (by simp) p1 q1
  have s2 := natOf_step [a.c0, a.c1, a.c2, a.c3] [dg a.c0 0, dg a.c0 16, dg a.c0 32, dg a.c0 48, dg a.c1 0, dg a.c1 16, dg a.c1 32, dg a.c1 48] 2 (n + 2) (by simp) (by simp) (by simp) p2 q2
  have s3 := natOf_step [a.c0, a.c1, a.c2, a.c3] [dg a.c0 0, dg a.c0 16, dg a.c0 32, dg a.c0 48, dg a.c1 0, dg a.c1 16, dg a.c1 32, dg a.c1 48, dg a.c2 0, dg a.c2 16, dg a.c2 32, dg a.c2 48] 3 (n + 1) (by simp) (by simp) (by simp) p3 q3
  have s4 : F51_l0 [a.c0, a.c1, a.c2, a.c3] (n + 1) (digits a) ((4 : Nat) : Int) = some (digits a) := by
    rw [F51_l0]
    rfl
  exact s0.trans (s1.trans (s2.trans (s3.trans s4)))
theorem limb_digits (c : Int) (h0 : 0 ≤ c) (h1 : c < 18446744073709551616) : (dg c 0).toNat + 65536 * ((dg c 16).toNat + 65536 * ((dg c 32).toNat + 65536 * (dg c 48).toNat)) = c.toNat := by
  unfold dg
  simp only [show (2 : Int) ^ 0 = 1 from rfl, show (2 : Int) ^ 16 = 65536 from rfl, show (2 : Int) ^ 32 = 4294967296 from rfl, show (2 : Int) ^ 48 = 281474976710656 from rfl]
  omega
theorem V_four (w x y z : Int) (r : List Int) (c : Int) (h : w.toNat + 65536 * (x.toNat + 65536 * (y.toNat + 65536 * z.toNat)) = c.toNat) : V (w :: x :: y :: z :: r) = c.toNat + 18446744073709551616 * V r := by
  simp only [V, ← h]
  generalize w.toNat = w
  generalize x.toNat = x
  generalize y.toNat = y
  generalize z.toNat = z
  generalize V r = v
  omega
theorem V_digits {a : C4} (h : ok4 a) : V (digits a) = val a := by
  obtain ⟨⟨p0, q0⟩, ⟨p1, q1⟩, ⟨p2, q2⟩, ⟨p3, q3⟩⟩ := h
  unfold digits val
  rw [V_four _ _ _ _ _ _ (limb_digits a.c0 p0 q0), V_four _ _ _ _ _ _ (limb_digits a.c1 p1 q1), V_four _ _ _ _ _ _ (limb_digits a.c2 p2 q2), V_four _ _ _ _ _ _ (limb_digits a.c3 p3 q3), show V [] = 0 from rfl]
  generalize a.c0.toNat = x
  generalize a.c1.toNat = y
  generalize a.c2.toNat = z
  generalize a.c3.toNat = t
  omega
theorem digits_r (a : C4) : ∀ d ∈ digits a, 0 ≤ d ∧ d < 65536 := by
  intro d hd
  simp only [digits, List.mem_cons, List.not_mem_nil, or_false] at hd
  rcases hd with rfl | rfl | rfl | rfl | rfl | rfl | rfl | rfl | rfl | rfl | rfl | rfl | rfl | rfl | rfl | rfl <;> exact dg_r _ _
def Norm (l : List Int) : Prop := l = [] ∨ ∃ p x, l = p ++ [x] ∧ x ≠ 0
theorem natBits_eq {l : List Int} (hr : ∀ d ∈ l, 0 ≤ d ∧ d < 65536) (hl : l.length ≤ 1000) (hn : Norm l) (k : Nat) (hk : 20 ≤ k) : F18 k l = some ((bl (V l) : Nat) : Int) := by
  rcases hn with rfl | ⟨p, x, rfl, hx⟩
  · rfl
  · have hxr := hr x (by simp)
    obtain ⟨m, rfl⟩ : ∃ m : Nat, x = m := ⟨x.toNat, by omega⟩
    have hb : bl m ≤ 16 := bl_le (by omega)
    have hp : p.length + 1 ≤ 1000 := by simpa using hl
    have e0 : (((p ++ [(m : Int)]).length : Int) == 0) = false := by simp; omega
    have e1 : wi64 (((p ++ [(m : Int)]).length : Int) - 1) = (p.length : Int) := by
      have hp2 : (p ++ [(m : Int)]).length = p.length + 1 := by simp
      rw [hp2, wi64_of (by omega) (by omega)]; omega
    have e2 : inb (p.length : Int) (p ++ [(m : Int)]).length = true := by simp [inb]; omega
    have e3 : gI (p ++ [(m : Int)]) (p.length : Int) = m := by simp [gI]
    have hlow : V p < 2 ^ (16 * p.length) := by
      have := V_lt p (fun d hd => hr d (by simp [hd]))
      rw [show (65536 : Nat) = 2 ^ 16 from rfl, ← Nat.pow_mul] at this
      exact this
    have hval : V (p ++ [(m : Int)]) = V p + m * 2 ^ (16 * p.length) := by
      rw [V_app]
      simp only [V, Int.toNat_natCast, Nat.mul_zero, Nat.add_zero]
      rw [show (65536 : Nat) = 2 ^ 16 from rfl, ← Nat.pow_mul, Nat.mul_comm m]
    unfold F18
    rw [e0, e1, e2, e3, wi64_of (by omega) (by omega), hval, bl_pair (16 * p.length) (by omega) hlow]
    simp only [cond_false, cond_true]
    rw [natBits_l k (16 * (p.length : Int)) m (by omega) (by omega) (by omega) (by omega) (by omega), Option.bind_some]
    congr 1
    generalize bl m = b
    omega
theorem len_nat {l : List Int} (hr : ∀ d ∈ l, 0 ≤ d ∧ d < 65536) (hn : Norm l) : l.length < 4 ↔ V l < 281474976710656 := by
  have e : (65536 : Nat) ^ 3 = 281474976710656 := by decide
  constructor
  · intro h4
    have h1 := V_lt l hr
    have : 65536 ^ l.length ≤ 65536 ^ 3 := Nat.pow_le_pow_right (by decide) (by omega)
    omega
  · intro hs
    rcases hn with rfl | ⟨p, x, rfl, hx⟩
    · simp
    · have hxr := hr x (by simp)
      rw [V_app] at hs
      simp only [List.length_append, List.length_cons, List.length_nil]
      by_cases h4 : p.length < 3
      · omega
      · exfalso
        have h1 : 65536 ^ 3 ≤ 65536 ^ p.length := Nat.pow_le_pow_right (by decide) (by omega)
        have hv1 : 1 ≤ V [x] := by simp only [V]; omega
        have h2 : 65536 ^ p.length * 1 ≤ 65536 ^ p.length * V [x] := Nat.mul_le_mul_left _ hv1
        omega
theorem norm_take {D : List Int} {j : Nat} (hj : j ≤ D.length) (hnz : j = 0 ∨ ∃ x, D[j - 1]? = some x ∧ x ≠ 0) : Norm (D.take j) := by
  rcases hnz with rfl | ⟨x, hx, hne⟩
  · exact .inl (by simp)
  · by_cases h0 : j = 0
    · exact .inl (by simp [h0])
    · refine .inr ⟨D.take (j - 1), x, ?_, hne⟩
      have : j = j - 1 + 1 := by omega
      conv => lhs; rw [this, List.take_add_one, hx]
      rfl
/-- what 'wordNat' gives, how many bits it has, how many digits -/
theorem wordNat_eq {a : C4} (h : ok4 a) (k : Nat) : ∃ l : List Int, F19 (k + 40) a = some l ∧ F18 (k + 40) l = some ((bl (val a) : Nat) : Int) ∧ (l.length < 4 ↔ val a < 281474976710656) := by
  have hv := V_digits h
  have hdr := digits_r a
  have hlen : (digits a).length = 16 := rfl
  have ho := natOf_word h (k + 35)
  have hF : F19 (k + 40) a = F86 (k + 40) (digits a) := by
    unfold F19 F51
    rw [ho]
    simp only [Option.bind_some]
    cases F86 (k + 40) (digits a) <;> rfl
  generalize digits a = D at *
  obtain ⟨j, hj, ht, hnz, hz⟩ := trim_l (k + 40) D (by omega) (by omega)
  have hV : V D = V (D.take j) := by
    conv => lhs; rw [← List.take_append_drop j D, V_app, V_zero _ hz]
    simp
  have hr : ∀ d ∈ D.take j, 0 ≤ d ∧ d < 65536 := fun d hd => hdr d (List.mem_of_mem_take hd)
  have hn := norm_take hj hnz
  refine ⟨D.take j, ?_, ?_, ?_⟩
  · rw [hF]
    unfold F86
    rw [ht]
    rfl
  · rw [natBits_eq hr (by simp; omega) hn _ (by omega), ← hV, hv]
  · rw [len_nat hr hn, ← hV, hv]
end Go.Cal
