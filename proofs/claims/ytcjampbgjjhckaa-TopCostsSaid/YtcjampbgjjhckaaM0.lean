/-
  Plain numbers behind the printed functions: wraps, bits, bit lengths.
-/
import Derived.Test.YtcjampbgjjhckaaK5
namespace Go.Cal
open Go

theorem wu64_of {x : Int} (h0 : 0 ≤ x) (h1 : x < 18446744073709551616) : wu64 x = x := by
  simp [wu64, IntKind.wrap, IntKind.bits, IntKind.signed]; omega
theorem wu32_of {x : Int} (h0 : 0 ≤ x) (h1 : x < 4294967296) : wu32 x = x := by
  simp [wu32, IntKind.wrap, IntKind.bits, IntKind.signed]; omega
theorem wu16_of {x : Int} (h0 : 0 ≤ x) (h1 : x < 65536) : wu16 x = x := by
  simp [wu16, IntKind.wrap, IntKind.bits, IntKind.signed]; omega
theorem wu8_of {x : Int} (h0 : 0 ≤ x) (h1 : x < 256) : wu8 x = x := by
  simp [wu8, IntKind.wrap, IntKind.bits, IntKind.signed]; omega
theorem wi64_of {x : Int} (h0 : -9223372036854775808 ≤ x) (h1 : x < 9223372036854775808) : wi64 x = x := by
  simp [wi64, IntKind.wrap, IntKind.bits, IntKind.signed]; omega
theorem wi32_of {x : Int} (h0 : -2147483648 ≤ x) (h1 : x < 2147483648) : wi32 x = x := by
  simp [wi32, IntKind.wrap, IntKind.bits, IntKind.signed]; omega
theorem wu64_mod (x : Int) : wu64 x = x % 18446744073709551616 := by
  simp [wu64, IntKind.wrap, IntKind.bits, IntKind.signed]
theorem wu64_r (x : Int) : 0 ≤ wu64 x ∧ wu64 x < 18446744073709551616 := by rw [wu64_mod]; omega
theorem wf64 {x : Int} (h : (Lit.int .u64 x).wf = true) : 0 ≤ x ∧ x < 18446744073709551616 := by
  simp [Lit.wf, IntKind.min, IntKind.max, IntKind.bits, IntKind.signed] at h; omega
theorem wf32 {x : Int} (h : (Lit.int .u32 x).wf = true) : 0 ≤ x ∧ x < 4294967296 := by
  simp [Lit.wf, IntKind.min, IntKind.max, IntKind.bits, IntKind.signed] at h; omega
theorem wf16 {x : Int} (h : (Lit.int .u16 x).wf = true) : 0 ≤ x ∧ x < 65536 := by
  simp [Lit.wf, IntKind.min, IntKind.max, IntKind.bits, IntKind.signed] at h; omega
theorem wf8 {x : Int} (h : (Lit.int .u8 x).wf = true) : 0 ≤ x ∧ x < 256 := by
  simp [Lit.wf, IntKind.min, IntKind.max, IntKind.bits, IntKind.signed] at h; omega
theorem tdiv_of {x y : Int} (h : 0 ≤ x) : x.tdiv y = x / y := Int.tdiv_eq_ediv_of_nonneg h
theorem tmod_of {x y : Int} (h : 0 ≤ x) : x.tmod y = x % y := Int.tmod_eq_emod_of_nonneg h

theorem shr64 {x n : Int} (hn : 0 ≤ n) (hm : n < 64) : shrK .u64 x n = x / 2 ^ n.toNat := by
  unfold shrK
  rw [show IntKind.u64.bits = 64 from rfl, show min n.toNat 64 = n.toNat by omega]
  exact Int.fdiv_eq_ediv_of_nonneg _ (Int.le_of_lt (Int.pow_pos (by decide)))
theorem and_mask {k : IntKind} {x : Int} (m : Nat) (hs : k.signed = false) (hx : 0 ≤ x) (hb : x < 2 ^ k.bits) (hm : m ≤ k.bits) : andK k x (2 ^ m - 1) = x % 2 ^ m := by
  unfold andK
  obtain ⟨n, rfl⟩ : ∃ n : Nat, x = n := ⟨x.toNat, by omega⟩
  have h2 : ((2 : Int) ^ m - 1) = ((2 ^ m - 1 : Nat) : Int) := by
    have : 1 ≤ 2 ^ m := Nat.one_le_two_pow
    rw [Int.ofNat_sub this]
    simp
  have hn : n < 2 ^ k.bits := by exact_mod_cast hb
  have hle : 2 ^ m ≤ 2 ^ k.bits := Nat.pow_le_pow_right (by decide) hm
  have h1 : 1 ≤ 2 ^ m := Nat.one_le_two_pow
  rw [h2, BitVec.ofInt_natCast, BitVec.ofInt_natCast]
  rw [BitVec.toNat_and, BitVec.toNat_ofNat, BitVec.toNat_ofNat, Nat.mod_eq_of_lt hn, Nat.mod_eq_of_lt (by omega), Nat.and_two_pow_sub_one_eq_mod]
  have hr : n % 2 ^ m < 2 ^ k.bits := Nat.lt_of_le_of_lt (Nat.mod_le _ _) hn
  unfold IntKind.wrap
  rw [hs]
  have : ((n % 2 ^ m : Nat) : Int) % 2 ^ k.bits = ((n % 2 ^ m : Nat) : Int) := by
    apply Int.emod_eq_of_lt (by omega)
    exact_mod_cast hr
  simp only [this, Bool.false_and]
  simp
theorem or64_zero {x y : Int} (hx : 0 ≤ x ∧ x < 18446744073709551616) (hy : 0 ≤ y ∧ y < 18446744073709551616) : 0 ≤ orK .u64 x y ∧ orK .u64 x y < 18446744073709551616 ∧ (orK .u64 x y = 0 ↔ x = 0 ∧ y = 0) := by
  obtain ⟨n, rfl⟩ : ∃ n : Nat, x = n := ⟨x.toNat, by omega⟩
  obtain ⟨m, rfl⟩ : ∃ n : Nat, y = n := ⟨y.toNat, by omega⟩
  have hn : n < 2 ^ 64 := by have := hx.2; omega
  have hm : m < 2 ^ 64 := by have := hy.2; omega
  have ho : n ||| m < 2 ^ 64 := Nat.or_lt_two_pow hn hm
  have e : orK .u64 (n : Int) (m : Int) = ((n ||| m : Nat) : Int) := by
    unfold orK
    rw [BitVec.ofInt_natCast, BitVec.ofInt_natCast, BitVec.toNat_or, BitVec.toNat_ofNat, BitVec.toNat_ofNat, show IntKind.u64.bits = 64 from rfl, Nat.mod_eq_of_lt hn, Nat.mod_eq_of_lt hm]
    exact wu64_of (by omega) (by omega)
  rw [e]
  refine ⟨by omega, by omega, ?_⟩
  have hz : n ||| m = 0 ↔ n = 0 ∧ m = 0 := by
    constructor
    · intro h
      have h1 : n ≤ n ||| m := Nat.left_le_or
      have h2 : m ≤ n ||| m := Nat.right_le_or
      omega
    · rintro ⟨rfl, rfl⟩; rfl
  constructor
  · intro h; have := hz.1 (by omega); omega
  · intro h; have := hz.2 (by omega); omega
/-! ### steps that the kernel does not have to find again (not 'by rfl': simp then leaves a step for each) -/
theorem obs {α β : Type} (x : α) (f : α → Option β) : (some x).bind f = f x := by
  have h : ∀ o : Option α, o = some x → o.bind f = f x := by intro o e; subst e; rfl
  exact h _ rfl
theorem cdt {α : Type} (a b : α) : (bif true then a else b) = a := by
  have h : ∀ c : Bool, c = true → (bif c then a else b) = a := by intro c e; subst e; rfl
  exact h _ rfl
theorem cdf {α : Type} (a b : α) : (bif false then a else b) = b := by
  have h : ∀ c : Bool, c = false → (bif c then a else b) = b := by intro c e; subst e; rfl
  exact h _ rfl
/-! ### how many bits a number has -/
def bl (n : Nat) : Nat := if n = 0 then 0 else Nat.log2 n + 1
theorem bl_half {n : Nat} (h : 0 < n) : bl n = bl (n / 2) + 1 := by
  unfold bl
  rw [if_neg (by omega)]
  by_cases h2 : n / 2 = 0
  · rw [if_pos h2]
    have : n = 1 := by omega
    subst this
    decide
  · rw [if_neg h2, Nat.log2_def, if_pos (by omega)]
theorem bl_shift {n : Nat} : ∀ k, 2 ^ k ≤ n → bl n = bl (n / 2 ^ k) + k
  | 0, _ => by simp
  | k + 1, h => by
    have h1 : 2 ^ k ≤ n := by rw [Nat.pow_succ] at h; omega
    rw [bl_shift k h1, Nat.pow_succ, ← Nat.div_div_eq_div_mul]
    have : 0 < n / 2 ^ k := Nat.div_pos h1 (Nat.two_pow_pos k)
    rw [bl_half this]
    omega
theorem bl_pair {lo hi : Nat} (k : Nat) (h : 0 < hi) (hl : lo < 2 ^ k) : bl (lo + hi * 2 ^ k) = bl hi + k := by
  have hp := Nat.two_pow_pos k
  have h1 : 2 ^ k ≤ lo + hi * 2 ^ k := by
    have : 1 * 2 ^ k ≤ hi * 2 ^ k := Nat.mul_le_mul_right _ h
    omega
  rw [bl_shift k h1, Nat.add_mul_div_right _ _ hp, Nat.div_eq_of_lt hl, Nat.zero_add]
end Go.Cal
