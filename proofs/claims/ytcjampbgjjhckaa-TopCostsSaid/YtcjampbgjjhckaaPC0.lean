/- Bit lengths: bits.Len64, word.Bits and natBits count the bits of a number; what 'trimmed' leaves. Conditions: the numbers are in their kinds' ranges. -/
import Derived.Test.YtcjampbgjjhckaaF3
import Derived.Test.YtcjampbgjjhckaaM0
namespace Go.Cal
open Go
set_option maxRecDepth 100000
/-! ### bits.Len64 -/
theorem len_tab : ∀ i : Fin 256, bI str_14a5d850c2 (i.val : Int) = (bl i.val : Int) := by decide +kernel
theorem len_stage {x c k m : Nat} (hk : k < 64) (_hm : k ≤ m) (hx : x < 2 ^ m) (hc : c ≤ 100) (hmk : m ≤ 2 * k) :
    ∃ y d : Nat, (bif decide ((x : Int) ≥ ((2 ^ k : Nat) : Int)) then some (shrK .u64 x k, wi64 ((c : Int) + k)) else some ((x : Int), (c : Int))) = some ((y : Int), (d : Int)) ∧ y < 2 ^ k ∧ d ≤ c + k ∧ bl x + c = bl y + d := by
  by_cases h : 2 ^ k ≤ x
  · refine ⟨x / 2 ^ k, c + k, ?_, ?_, Nat.le_refl _, ?_⟩
    · have hd : decide ((x : Int) ≥ ((2 ^ k : Nat) : Int)) = true := by simpa using (by exact_mod_cast h : ((2 ^ k : Nat) : Int) ≤ x)
      rw [hd, cond_true, shr64 (by omega) (by omega), wi64_of (by omega) (by omega)]
      simp
    · rw [Nat.div_lt_iff_lt_mul (Nat.two_pow_pos k), ← Nat.pow_add]
      exact Nat.lt_of_lt_of_le hx (Nat.pow_le_pow_right (by decide) (by omega))
    · rw [bl_shift k h]; omega
  · refine ⟨x, c, ?_, by omega, by omega, rfl⟩
    have hd : decide ((x : Int) ≥ ((2 ^ k : Nat) : Int)) = false := by
      simp only [decide_eq_false_iff_not]
      intro h2
      exact h (by exact_mod_cast h2)
    rw [hd, cond_false]
theorem len64 {x : Nat} (h : x < 2 ^ 64) : F124 (x : Int) = some (bl x : Int) := by
  unfold F124
  obtain ⟨y1, d1, e1, h1, g1, b1⟩ := len_stage (x := x) (c := 0) (k := 32) (m := 64) (by decide) (by decide) h (by decide) (by decide)
  obtain ⟨y2, d2, e2, h2, g2, b2⟩ := len_stage (x := y1) (c := d1) (k := 16) (m := 32) (by decide) (by decide) h1 (by omega) (by decide)
  obtain ⟨y3, d3, e3, h3, g3, b3⟩ := len_stage (x := y2) (c := d2) (k := 8) (m := 16) (by decide) (by decide) h2 (by omega) (by decide)
  have e1' : (bif decide ((x : Int) ≥ 4294967296) then some (shrK .u64 (x : Int) 32, (32 : Int)) else some ((x : Int), 0)) = some ((y1 : Int), (d1 : Int)) := e1
  have e2' : (bif decide ((y1 : Int) ≥ 65536) then some (shrK .u64 (y1 : Int) 16, wi64 ((d1 : Int) + 16)) else some ((y1 : Int), (d1 : Int))) = some ((y2 : Int), (d2 : Int)) := e2
  have e3' : (bif decide ((y2 : Int) ≥ 256) then some (shrK .u64 (y2 : Int) 8, wi64 ((d2 : Int) + 8)) else some ((y2 : Int), (d2 : Int))) = some ((y3 : Int), (d3 : Int)) := e3
  simp only [e1', Option.bind_some, e2', e3']
  have h3' : (y3 : Int) < 256 := by omega
  rw [wu8_of (by omega) h3']
  have hi : inb (y3 : Int) str_14a5d850c2.size = true := by
    have : str_14a5d850c2.size = 256 := by kernel_rfl
    simp [inb, this]; omega
  rw [hi, cond_true]
  have ht := len_tab ⟨y3, by omega⟩
  simp only at ht
  have hb : bl y3 ≤ 8 := by
    unfold bl
    split
    · omega
    · have := (Nat.log2_lt (n := y3) (k := 8) (by omega)).2 (by omega)
      omega
  rw [ht, wi64_of (x := (bl y3 : Int)) (by omega) (by omega), wi64_of (by omega) (by omega)]
  congr 1
  omega
theorem bl_le {n k : Nat} (h : n < 2 ^ k) : bl n ≤ k := by
  unfold bl
  split
  · omega
  · rename_i h0
    have := (Nat.log2_lt (n := n) (k := k) h0).2 h
    omega
/-! ### the value of a word -/
def val (a : C4) : Nat := a.c0.toNat + a.c1.toNat * 2 ^ 64 + a.c2.toNat * 2 ^ 128 + a.c3.toNat * 2 ^ 192
def ok4 (a : C4) : Prop := (0 ≤ a.c0 ∧ a.c0 < 18446744073709551616) ∧ (0 ≤ a.c1 ∧ a.c1 < 18446744073709551616) ∧ (0 ≤ a.c2 ∧ a.c2 < 18446744073709551616) ∧ (0 ≤ a.c3 ∧ a.c3 < 18446744073709551616)
theorem ne0 {n : Nat} (h : n ≠ 0) : ((n : Int) != 0) = true := by simp; omega
theorem bits_one {n : Nat} {c : Int} (h : n < 2 ^ 64) (h0 : 0 ≤ c) (hc : c ≤ 1000) : ((F124 (n : Int)).bind (fun x => some (wi64 (c + x)))) = some (c + (bl n : Int)) := by
  have := bl_le h
  rw [len64 h, Option.bind_some, wi64_of (by omega) (by omega)]
theorem bits_n (n0 n1 n2 n3 : Nat) (l0 : n0 < 2 ^ 64) (l1 : n1 < 2 ^ 64) (l2 : n2 < 2 ^ 64) (l3 : n3 < 2 ^ 64) (k v : Nat) (hv : v = n0 + n1 * 2 ^ 64 + n2 * 2 ^ 128 + n3 * 2 ^ 192) :
    F61 k ⟨n0, n1, n2, n3⟩ = some ((bl v : Nat) : Int) := by
  unfold F61
  simp only
  by_cases z3 : n3 = 0
  · have e3 : ((n3 : Int) != 0) = false := by simp [z3]
    rw [e3, cond_false]
    by_cases z2 : n2 = 0
    · have e2 : ((n2 : Int) != 0) = false := by simp [z2]
      rw [e2, cond_false]
      by_cases z1 : n1 = 0
      · have e1 : ((n1 : Int) != 0) = false := by simp [z1]
        have hv : v = n0 := by omega
        subst hv
        rw [e1, cond_false]
        by_cases z0 : v = 0
        · have e0 : ((v : Int) != 0) = false := by simp [z0]
          rw [e0, cond_false, z0]
          rfl
        · rw [ne0 z0, cond_true, bits_one l0 (by decide) (by decide), Int.zero_add]
      · have hv : v = n0 + n1 * 2 ^ 64 := by omega
        rw [ne0 z1, cond_true, bits_one l1 (by decide) (by decide), hv, bl_pair 64 (by omega) l0]
        congr 1; omega
    · have hv : v = (n0 + n1 * 2 ^ 64) + n2 * 2 ^ 128 := by omega
      rw [ne0 z2, cond_true, bits_one l2 (by decide) (by decide), hv, bl_pair 128 (by omega) (by omega)]
      congr 1; omega
  · rw [ne0 z3, cond_true, bits_one l3 (by decide) (by decide), hv, bl_pair 192 (by omega) (by omega)]
    congr 1; omega
theorem bits_eq {a : C4} (h : ok4 a) (k : Nat) : F61 k a = some ((bl (val a) : Nat) : Int) := by
  obtain ⟨⟨p0, q0⟩, ⟨p1, q1⟩, ⟨p2, q2⟩, ⟨p3, q3⟩⟩ := h
  have := bits_n a.c0.toNat a.c1.toNat a.c2.toNat a.c3.toNat (by omega) (by omega) (by omega) (by omega) k (val a) rfl
  rw [Int.toNat_of_nonneg p0, Int.toNat_of_nonneg p1, Int.toNat_of_nonneg p2, Int.toNat_of_nonneg p3] at this
  exact this
/-! ### wordNat, natBits -/
def V : List Int → Nat
  | [] => 0
  | d :: l => d.toNat + 65536 * V l
theorem V_lt : ∀ (l : List Int), (∀ d ∈ l, 0 ≤ d ∧ d < 65536) → V l < 65536 ^ l.length
  | [], _ => by simp [V]
  | d :: l, h => by
    have h1 := h d (by simp)
    have h2 := V_lt l (fun x hx => h x (by simp [hx]))
    simp only [V, List.length_cons, Nat.pow_succ]
    omega
theorem V_app : ∀ (l m : List Int), V (l ++ m) = V l + 65536 ^ l.length * V m
  | [], m => by simp [V]
  | d :: l, m => by
    simp only [List.cons_append, V, V_app l m, List.length_cons, Nat.pow_succ]
    rw [Nat.mul_add, Nat.mul_comm (65536 ^ l.length) 65536, Nat.mul_assoc]
    omega
theorem V_zero : ∀ (l : List Int), (∀ d ∈ l, d = 0) → V l = 0
  | [], _ => rfl
  | d :: l, h => by
    simp only [V, V_zero l (fun x hx => h x (by simp [hx])), h d (by simp)]
    rfl
theorem gI_of {l : List Int} {i : Nat} (h : i < l.length) : gI l (i : Int) = l[i] := by
  simp [gI, h]
theorem natBits_l : ∀ (k : Nat) (n : Int) (v : Nat), v < 2 ^ 32 → bl v < k → 0 ≤ n → n ≤ 1000000000 → n + bl v ≤ 1000000000 → F18_l0 k n (v : Int) = some (n + bl v)
  | 0, _, _, _, h, _, _, _ => by omega
  | k + 1, n, v, hv, hk, h0, h1, h2 => by
    unfold F18_l0
    by_cases hz : v = 0
    · subst hz
      simp [bl]
    · have hb := bl_half (n := v) (by omega)
      have e : decide ((v : Int) > 0) = true := by simp; omega
      rw [e, cond_true, tdiv_of (by omega), wi64_of (by omega) (by omega), wu32_of (by omega) (by omega)]
      have e2 : ((v : Int) / 2) = ((v / 2 : Nat) : Int) := by omega
      rw [e2, natBits_l k (n + 1) (v / 2) (by omega) (by omega) (by omega) (by omega) (by omega), hb]
      congr 1; omega
theorem trim_l : ∀ (k : Nat) (v : List Int), v.length < k → v.length < 1000000 → ∃ j, j ≤ v.length ∧ F86_l0 k v = some (v.take j) ∧ (j = 0 ∨ ∃ x, v[j - 1]? = some x ∧ x ≠ 0) ∧ ∀ x ∈ v.drop j, x = 0
  | 0, _, h, _ => by omega
  | k + 1, v, h, hm => by
    unfold F86_l0
    by_cases hz : v.length = 0
    · have : v = [] := List.eq_nil_of_length_eq_zero hz
      subst this
      exact ⟨0, Nat.le_refl _, by simp, .inl rfl, by simp⟩
    · have e : decide ((v.length : Int) > 0) = true := by simp; omega
      have e2 : wi64 ((v.length : Int) - 1) = ((v.length - 1 : Nat) : Int) := by rw [wi64_of (by omega) (by omega)]; omega
      have e3 : inb ((v.length - 1 : Nat) : Int) v.length = true := by simp [inb]; omega
      have hlt : v.length - 1 < v.length := by omega
      simp only [e, e2, e3, cond_true, Option.bind_some, gI_of hlt]
      by_cases hl : v[v.length - 1] = 0
      · have e4 : (v[v.length - 1] == 0) = true := by simp [hl]
        have e5 : (decide (0 ≤ (0 : Int)) && decide (0 ≤ ((v.length - 1 : Nat) : Int)) && decide (((v.length - 1 : Nat) : Int) ≤ (v.length : Int))) = true := by simp
        rw [e4]
        simp only [cond_true, e5]
        obtain ⟨j, hj, hr, hnz, hrest⟩ := trim_l k (v.take (v.length - 1)) (by simp; omega) (by simp; omega)
        have hj' : j ≤ v.length - 1 := by simpa using hj
        refine ⟨j, by omega, ?_, ?_, ?_⟩
        · have e6 : ((v.take ((v.length - 1 : Nat) : Int).toNat).drop (0 : Int).toNat) = v.take (v.length - 1) := by simp
          rw [e6, hr, List.take_take, Nat.min_eq_left hj']
        · rcases hnz with hnz | ⟨x, hx, hne⟩
          · exact .inl hnz
          · refine .inr ⟨x, ?_, hne⟩
            rw [List.getElem?_take] at hx
            split at hx
            · exact hx
            · cases hx
        · intro x hx
          obtain ⟨i, hi, rfl⟩ := List.mem_iff_getElem.1 hx
          simp only [List.getElem_drop]
          by_cases hil : j + i = v.length - 1
          · simp only [hil]; exact hl
          · have hi2 : j + i < v.length - 1 := by simp at hi; omega
            apply hrest
            rw [List.mem_iff_getElem]
            refine ⟨i, by simp; omega, by simp⟩
      · have e4 : (v[v.length - 1] == 0) = false := by simp [hl]
        rw [e4]
        simp only [cond_false]
        exact ⟨v.length, Nat.le_refl _, by simp, .inr ⟨v[v.length - 1], by simp, hl⟩, by simp⟩
end Go.Cal
