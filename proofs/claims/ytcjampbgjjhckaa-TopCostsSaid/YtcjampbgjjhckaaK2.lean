/-
  The calculus, third part: words for the printed functions; slices of whole numbers, read and owned; operations over numbers that are not known.
-/
import Derived.Test.YtcjampbgjjhckaaK1
import Derived.ChangeKeysEq
namespace Go.Cal
open Go Go.RowKit

/-! ### words of the printed functions -/
abbrev wrapK (k : IntKind) (x : Int) : Int := k.wrap x
def andK (k : IntKind) (x y : Int) : Int := k.wrap (BitVec.ofInt k.bits x &&& BitVec.ofInt k.bits y).toNat
def orK (k : IntKind) (x y : Int) : Int := k.wrap (BitVec.ofInt k.bits x ||| BitVec.ofInt k.bits y).toNat
def xorK (k : IntKind) (x y : Int) : Int := k.wrap (BitVec.ofInt k.bits x ^^^ BitVec.ofInt k.bits y).toNat
def andNotK (k : IntKind) (x y : Int) : Int := k.wrap (BitVec.ofInt k.bits x &&& ~~~ BitVec.ofInt k.bits y).toNat
def shlK (k : IntKind) (x y : Int) : Int := k.wrap (x * 2 ^ (min y.toNat k.bits))
def shrK (k : IntKind) (x y : Int) : Int := x.fdiv (2 ^ (min y.toNat k.bits))
def gI (xs : List Int) (i : Int) : Int := xs.getD i.toNat 0
def inb (i : Int) (n : Nat) : Bool := decide (0 ≤ i) && decide (i < (n : Int))
theorem inb_spec {i : Int} {n : Nat} (h : inb i n = true) : 0 ≤ i ∧ i < (n : Int) := by simpa [inb] using h
theorem inb_lt {i : Int} {n : Nat} (h : inb i n = true) : i.toNat < n := by have := inb_spec h; omega
theorem cond_t {α : Type} {c : Bool} {a b r : α} (h : c = true) (H : (bif c then a else b) = r) : a = r := by subst h; exact H
theorem cond_f {α : Type} {c : Bool} {a b r : α} (h : c = false) (H : (bif c then a else b) = r) : b = r := by subst h; exact H
theorem cond_n {α : Type} {c : Bool} {a : Option α} {r : α} (H : (bif c then a else none) = some r) : c = true ∧ a = some r := by cases c <;> simp_all
theorem bind_s {α β : Type} {a : Option α} {f : α → Option β} {r : β} (H : a.bind f = some r) : ∃ x, a = some x ∧ f x = some r := by
  cases a with
  | none => cases H
  | some x => exact ⟨x, rfl, H⟩
theorem ret_s {α : Type} {a b : α} (H : some a = some b) : a = b := Option.some.inj H

def pAt (A : Option Addr) (j : Nat) : Option Addr := A.map (·.add j)
def ints (k : IntKind) (xs : List Int) : List Value := xs.map (Value.int k)
theorem addr_add (b off j : Nat) : (⟨b, off, none⟩ : Addr).add j = ⟨b, off + j, none⟩ := Addr.add_mid b off j

/-! ### a slice that is only read -/
def rdV (A : Option Addr) (c : Nat) (vs : List Value) : Fact where
  P S w := (A = none ∧ vs = [] ∧ c = 0) ∨ ∃ b off, A = some ⟨b, off, none⟩ ∧ vs.length ≤ c ∧ (vs ≠ [] → S b) ∧ ∀ (j : Nat) (v : Value), vs[j]? = some v → w.cell? ⟨b, off + j, none⟩ = some v
  stable S w w' h hk := by
    rcases h with h | ⟨b, off, hA, hc, hS, hcell⟩
    · exact .inl h
    · refine .inr ⟨b, off, hA, hc, hS, fun j v hv => ?_⟩
      have h1 := hcell j v hv
      have hne : vs ≠ [] := by intro e; subst e; simp at hv
      rw [World.cell?_of_block (w := w) (w' := w') (a := ⟨b, off + j, none⟩) (hk b (hS hne) (World.block_lt_of_cell? w _ h1))]
      exact h1
  mono S S' w hk h := by
    rcases h with h | ⟨b, off, hA, hc, hS, hcell⟩
    · exact .inl h
    · refine .inr ⟨b, off, hA, hc, fun hne => ?_, hcell⟩
      cases vs with
      | nil => exact absurd rfl hne
      | cons v r =>
        have h1 := hcell 0 v rfl
        exact hk b (hS hne) (World.block_lt_of_cell? w _ h1)
abbrev rdI (A : Option Addr) (c : Nat) (k : IntKind) (xs : List Int) : Fact := rdV A c (ints k xs)

section
variable {c : Cx} {L : LL} {l : List Bk} {os : List Ow} {rs : Rs} {P : Program} {Q : Exit → Act → World → Prop}
/-- operation o yields v and leaves the world alone -/
def RV (P : Program) (o : Oper) (c : Cx) (L : LL) (l : List Bk) (os : List Ow) (rs : Rs) (v : Value) : Prop :=
  ∀ t w, Fr c.n t L → Sta c.M c.w0 w l os rs → (execOp (Act.eval ⟨t, []⟩) o).run P w = .ok (.value v) w
theorem o_rv {next : Act → World → Prop} {o : Oper} {d : Nat} {v : Value} (ho : o.dst = some d) (hd : Nat.blt d c.n = true) (hv : RV P o c L l os rs v) (k : NX next c (upd L d v) l os rs) :
    NX (fun a w => Oper.wp P o a w next Q) c L l os rs := o_val v ho (Nat.le_of_ble_eq_true hd) hv k
/-- a fact may be added where it follows from what is known -/
theorem nx_fact {Φ : Act → World → Prop} (r : Fact × (Nat → Prop)) (hr : ∀ w, Sta c.M c.w0 w l os rs → r.1.P (foot l os r.2) w) (k : NX Φ c L l os (r :: rs)) : NX Φ c L l os rs :=
  fun t w hF hS => k t w hF (hS.addFact r (hr w hS))

theorem int_ne (k : IntKind) (n : Int) : Value.int k n ≠ undef := by simp [undef]
theorem slice_ne (A : Option Addr) (n c : Nat) : Value.slice A n c ≠ undef := by simp [undef]

/-! numbers -/
theorem rv_div {d : Option Nat} {T T2 ty : TypeId} {x y : Operand} {pos : String} {aft : Array Edge} {g : Option (Nat × Bool)} {k : IntKind} {a b : Int} (hx : ev L x = .int k a) (hy : ev L y = .int k b) (hb : b ≠ 0) :
    RV P ⟨d, .binOp .quo T x y T2, ty, pos, aft, g⟩ c L l os rs (.int k (k.wrap (a.tdiv b))) := by
  intro t w hF _
  simp [execOp, hF.eval_ev hx (int_ne _ _), hF.eval_ev hy (int_ne _ _), eqGuard, binOp, Op.intDiv, hb]
theorem rv_rem {d : Option Nat} {T T2 ty : TypeId} {x y : Operand} {pos : String} {aft : Array Edge} {g : Option (Nat × Bool)} {k : IntKind} {a b : Int} (hx : ev L x = .int k a) (hy : ev L y = .int k b) (hb : b ≠ 0) :
    RV P ⟨d, .binOp .rem T x y T2, ty, pos, aft, g⟩ c L l os rs (.int k (a.tmod b)) := by
  intro t w hF _
  simp [execOp, hF.eval_ev hx (int_ne _ _), hF.eval_ev hy (int_ne _ _), eqGuard, binOp, Op.intDiv, hb]
theorem rv_shl {d : Option Nat} {T T2 ty : TypeId} {x y : Operand} {pos : String} {aft : Array Edge} {g : Option (Nat × Bool)} {k k2 : IntKind} {a b : Int} (hx : ev L x = .int k a) (hy : ev L y = .int k2 b) (hb : 0 ≤ b) :
    RV P ⟨d, .binOp .shl T x y T2, ty, pos, aft, g⟩ c L l os rs (.int k (shlK k a b)) := by
  intro t w hF _
  simp [execOp, hF.eval_ev hx (int_ne _ _), hF.eval_ev hy (int_ne _ _), eqGuard, binOp, Op.shift, shlK, Int.not_lt.2 hb]
theorem rv_shr {d : Option Nat} {T T2 ty : TypeId} {x y : Operand} {pos : String} {aft : Array Edge} {g : Option (Nat × Bool)} {k k2 : IntKind} {a b : Int} (hx : ev L x = .int k a) (hy : ev L y = .int k2 b) (hb : 0 ≤ b) :
    RV P ⟨d, .binOp .shr T x y T2, ty, pos, aft, g⟩ c L l os rs (.int k (shrK k a b)) := by
  intro t w hF _
  simp [execOp, hF.eval_ev hx (int_ne _ _), hF.eval_ev hy (int_ne _ _), eqGuard, binOp, Op.shift, shrK, Int.not_lt.2 hb]
/-- a function without a body, by its run -/
theorem rv_ext {d : Option Nat} {ty : TypeId} {f : FuncId} {xs : List Operand} {ats : Array TypeId} {pos : String} {aft : Array Edge} {g : Option (Nat × Bool)} (vs : List Value) {v : Value} (hh : hasAll L xs = true) (hvs : evAll L xs = vs)
    (hr : ∀ w, (callFunc f vs.toArray).run P w = .ok (.value v) w) : RV P ⟨d, .call { callee := .value (.func f), args := xs.toArray, argTypes := ats }, ty, pos, aft, g⟩ c L l os rs v := by
  intro t w hF _
  have hargs : xs.toArray.map (Act.eval ⟨t, []⟩) = vs.toArray := by rw [List.map_toArray, evAll_eq hF hh, hvs]
  have hfun : Act.eval ⟨t, []⟩ (.func f) = .func (.func f) #[] #[] := rfl
  simp only [execOp, resolve, hargs, hfun, Deferred.ofValue, invoke, Sem.run_bind, Sem.run_pure, Result.andThen_ok, Array.empty_append, Array.append_empty, hr w]

/-! '==' of two arrays of whole numbers -/
theorem run_eqItems_ints {P : Program} (w : World) (d : Nat) {e : TypeId} {k k' : IntKind} (he : P.underlying e = some (.int k')) (hc : P.cellsOf e = 1) (xs ys : List Int) : ∀ (m j : Nat), j + m ≤ xs.length → j + m ≤ ys.length →
    (Op.eqItems (d + 1) e (P.cellsOf e) (ints k xs).toArray (ints k ys).toArray (List.range' j m)).run P w = .ok ((xs.drop j).take m == (ys.drop j).take m) w
  | 0, j, _, _ => by simp [Op.eqItems]
  | m + 1, j, hx, hy => by
    have hagg : (isAgg e).run P w = .ok false w := by unfold isAgg; rw [Sem.run_bind, run_underlying he w]; rfl
    have hpart : ∀ (zs : List Int), j < zs.length → (part e (ints k zs).toArray (j * P.cellsOf e)).run P w = .ok (.int k (zs.getD j 0)) w := by
      intro zs hz
      simp [part, hagg, hc, ints, hz]
    have hd : ∀ (zs : List Int), j < zs.length → (zs.drop j).take (m + 1) = zs.getD j 0 :: (zs.drop (j + 1)).take m := by
      intro zs hz
      rw [List.drop_eq_getElem_cons hz]
      simp only [List.take_succ_cons]
      congr 1
      simp [hz]
    simp only [List.range'_succ, Op.eqItems, Sem.run_bind, hpart xs (by omega), hpart ys (by omega), Result.andThen_ok, run_equalIn_int w d e k k' _ _ he]
    rw [hd xs (by omega), hd ys (by omega)]
    have ih := run_eqItems_ints (P := P) w d (k := k) he hc xs ys m (j + 1) (by omega) (by omega)
    generalize xs.getD j 0 = a
    generalize ys.getD j 0 = b
    by_cases h : a = b
    · have hb : (a == b) = true := beq_iff_eq.2 h
      simp only [hb, Bool.not_true, Bool.false_eq_true, if_false, ih]
      rw [h]
      congr 1
      simp [List.cons_beq_cons]
    · have hb : (a == b) = false := beq_eq_false_iff_ne.2 h
      simp only [hb, Bool.not_false, if_true, Sem.run_pure]
      congr 1
      symm
      simp [List.cons_beq_cons, hb]
theorem run_eqArr {P : Program} (w : World) {T e : TypeId} {n : Nat} {k k' : IntKind} (hT : P.underlying T = some (.array n e)) (he : P.underlying e = some (.int k')) (hc : P.cellsOf e = 1) (hi : ∃ i, P.info? e = some i) (xs ys : List Int) (hx : xs.length = n) (hy : ys.length = n) :
    (Op.equal T (.agg (ints k xs).toArray) (.agg (ints k ys).toArray)).run P w = .ok (xs == ys) w := by
  obtain ⟨i, hi⟩ := hi
  have h := run_eqItems_ints (P := P) w 9998 (k := k) he hc xs ys n 0 (by omega) (by omega)
  unfold Op.equal Op.maxDepth
  rw [show (10000 : Nat) = 9999 + 1 from rfl, run_equalIn_array w 9999 _ _ hT hi, List.range_eq_range']
  rw [h]
  simp [← hx, List.take_of_length_le (show ys.length ≤ xs.length by omega)]
theorem rv_eqArr {d : Option Nat} {T T2 ty : TypeId} {x y : Operand} {pos : String} {aft : Array Edge} {g : Option (Nat × Bool)} (k k' : IntKind) {n : Nat} {e : TypeId} (xs ys : List Int)
    (hT : P.underlying T = some (.array n e)) (he : P.underlying e = some (.int k')) (hc : P.cellsOf e = 1) (hg : P.eqGuardType P.depth T = false)
    (hx : ev L x = .agg (ints k xs).toArray) (hy : ev L y = .agg (ints k ys).toArray) (hlx : xs.length = n) (hly : ys.length = n) :
    RV P ⟨d, .binOp .eql T x y T2, ty, pos, aft, g⟩ c L l os rs (.bool (xs == ys)) := by
  intro t w hF _
  have hi : ∃ i, P.info? e = some i := by
    cases hh : P.info? e with
    | none => simp [Program.cellsOf, hh] at hc
    | some i => exact ⟨i, rfl⟩
  have h := run_eqArr (P := P) w (k := k) hT he hc hi xs ys hlx hly
  simp only [execOp, hF.eval_ev hx (agg_ne _), hF.eval_ev hy (agg_ne _), binOp, Sem.run_bind, run_eqGuard_agg w .eql T x y _ _ hg, h, Result.andThen_ok, Sem.run_pure]
theorem rv_neArr {d : Option Nat} {T T2 ty : TypeId} {x y : Operand} {pos : String} {aft : Array Edge} {g : Option (Nat × Bool)} (k k' : IntKind) {n : Nat} {e : TypeId} (xs ys : List Int)
    (hT : P.underlying T = some (.array n e)) (he : P.underlying e = some (.int k')) (hc : P.cellsOf e = 1) (hg : P.eqGuardType P.depth T = false)
    (hx : ev L x = .agg (ints k xs).toArray) (hy : ev L y = .agg (ints k ys).toArray) (hlx : xs.length = n) (hly : ys.length = n) :
    RV P ⟨d, .binOp .neq T x y T2, ty, pos, aft, g⟩ c L l os rs (.bool (!(xs == ys))) := by
  intro t w hF _
  have hi : ∃ i, P.info? e = some i := by
    cases hh : P.info? e with
    | none => simp [Program.cellsOf, hh] at hc
    | some i => exact ⟨i, rfl⟩
  have h := run_eqArr (P := P) w (k := k) hT he hc hi xs ys hlx hly
  simp only [execOp, hF.eval_ev hx (agg_ne _), hF.eval_ev hy (agg_ne _), binOp, Sem.run_bind, run_eqGuard_agg w .neq T x y _ _ hg, h, Result.andThen_ok, Sem.run_pure]

/-! places that are not known -/
theorem rv_index {d : Option Nat} {T ty : TypeId} {x y : Operand} {pos : String} {aft : Array Edge} {g : Option (Nat × Bool)} {k k2 : IntKind} {n : Nat} {e : TypeId} (xs : List Int) {i : Int}
    (hT : P.underlying T = some (.array n e)) (he : shT P e = some .cell) (hx : ev L x = .agg (ints k xs).toArray) (hy : ev L y = .int k2 i) (hl : xs.length = n) (hi : inb i n = true) :
    RV P ⟨d, .index T x y, ty, pos, aft, g⟩ c L l os rs (.int k (gI xs i)) := by
  intro t w hF _
  have h := inb_spec hi
  have hlt := inb_lt hi
  unfold shT at he
  split at he <;> try (cases he; done)
  rename_i ii hii
  split at he <;> try (cases he; done)
  rename_i dd hn1 hn2 hu
  have hs : ii.size = 1 := by
    cases hb : ii.size.beq 1 with
    | false => rw [hb] at he; cases he
    | true => exact Nat.eq_of_beq_eq_true hb
  have hagg : (isAgg e).run P w = .ok false w := by
    unfold isAgg
    rw [Sem.run_bind, run_underlying hu w]
    cases dd <;> simp_all
  have hlt' : i.toNat < xs.length := by omega
  simp [execOp, hF.eval_ev hx (agg_ne _), hF.eval_ev hy (int_ne _ _), Instr.index, asIntOf, run_underlying hT, h, sizeOf, typeInfo, hii, hs, part, hagg, ints, hlt', gI]
theorem rv_idxArr {d : Option Nat} {T ty : TypeId} {x y : Operand} {pos : String} {aft : Array Edge} {g : Option (Nat × Bool)} {k2 : IntKind} {n : Nat} {e : TypeId} {b off : Nat} {i : Int}
    (hT : P.underlying T = some (.array n e)) (he : P.cellsOf e = 1) (hx : ev L x = .pointer (some ⟨b, off, none⟩)) (hy : ev L y = .int k2 i) (hi : inb i n = true) :
    RV P ⟨d, .indexAddr T x y, ty, pos, aft, g⟩ c L l os rs (.pointer (some ⟨b, off + i.toNat, none⟩)) := by
  intro t w hF _
  have h := inb_spec hi
  cases hh : P.info? e with
  | none => simp [Program.cellsOf, hh] at he
  | some ii =>
    have hs : ii.size = 1 := by simpa [Program.cellsOf, hh] using he
    simp [execOp, hF.eval_ev hx (ptr_ne _), hF.eval_ev hy (int_ne _ _), Instr.indexAt, asIntOf, run_underlying hT, h, sizeOf, typeInfo, hh, hs, Instr.sureAddr, addr_add]
theorem rv_idxS {d : Option Nat} {T ty : TypeId} {x y : Operand} {pos : String} {aft : Array Edge} {g : Option (Nat × Bool)} {k2 : IntKind} {n cp : Nat} {e : TypeId} {A : Option Addr} {i : Int}
    (hT : P.underlying T = some (.slice e)) (he : P.cellsOf e = 1) (hx : ev L x = .slice A n cp) (hy : ev L y = .int k2 i) (hA : ∀ t w, Fr c.n t L → Sta c.M c.w0 w l os rs → 0 < n → ∃ a, A = some a) (hi : inb i n = true) :
    RV P ⟨d, .indexAddr T x y, ty, pos, aft, g⟩ c L l os rs (.pointer (pAt A i.toNat)) := by
  intro t w hF hS
  have h := inb_spec hi
  obtain ⟨a, rfl⟩ := hA t w hF hS (by omega)
  cases hh : P.info? e with
  | none => simp [Program.cellsOf, hh] at he
  | some ii =>
    have hs : ii.size = 1 := by simpa [Program.cellsOf, hh] using he
    simp [execOp, hF.eval_ev hx (slice_ne _ _ _), hF.eval_ev hy (int_ne _ _), Instr.indexAt, asIntOf, run_underlying hT, h, sizeOf, typeInfo, hh, hs, pAt]
theorem rd_some {A : Option Addr} {cp : Nat} {vs : List Value} {S : Nat → Prop} {w : World} (h : (rdV A cp vs).P S w) (hn : 0 < vs.length) : ∃ a, A = some a := by
  rcases h with ⟨_, rfl, _⟩ | ⟨b, off, rfl, _⟩
  · simp at hn
  · exact ⟨_, rfl⟩
/-- the address of an element of a slice that is read -/
theorem rv_idxR {d : Option Nat} {T ty : TypeId} {x y : Operand} {pos : String} {aft : Array Edge} {g : Option (Nat × Bool)} {k k2 : IntKind} {cp : Nat} {e : TypeId} {A : Option Addr} {xs : List Int} {S : Nat → Prop} {i : Int} (f : Nat)
    (hf : rs[f]? = some (rdI A cp k xs, S)) (hT : P.underlying T = some (.slice e)) (he : P.cellsOf e = 1) (hx : ev L x = .slice A xs.length cp) (hy : ev L y = .int k2 i) (hi : inb i xs.length = true) :
    RV P ⟨d, .indexAddr T x y, ty, pos, aft, g⟩ c L l os rs (.pointer (pAt A i.toNat)) :=
  rv_idxS hT he hx hy (fun _ _ _ hS hn => rd_some (hS.fac _ (List.mem_of_getElem? hf)) (by simpa [ints] using hn)) hi
theorem rv_ldR {d : Option Nat} {T ty : TypeId} {x : Operand} {pos : String} {aft : Array Edge} {g : Option (Nat × Bool)} {k : IntKind} {cp : Nat} {A : Option Addr} {xs : List Int} {S : Nat → Prop} {i : Int} (f : Nat)
    (hf : rs[f]? = some (rdI A cp k xs, S)) (hT : shT P T = some .cell) (hx : ev L x = .pointer (pAt A i.toNat)) (hi : inb i xs.length = true) :
    RV P ⟨d, .load T x, ty, pos, aft, g⟩ c L l os rs (.int k (gI xs i)) := by
  intro t w hF hS
  have hlt := inb_lt hi
  have hfac := hS.fac _ (List.mem_of_getElem? hf)
  rcases hfac with ⟨_, h, _⟩ | ⟨b, off, rfl, _, _, hcell⟩
  · simp [ints] at h; subst h; simp at hlt
  · have h1 := hcell i.toNat (.int k (gI xs i)) (by simp [ints, gI, hlt])
    have h2 : Act.eval ⟨t, []⟩ x = .pointer (some ⟨b, off + i.toNat, none⟩) := by rw [hF.eval_ev hx (ptr_ne _)]; simp [pAt, addr_add]
    have h3 := run_loadAt_cell (P := P) hT h1
    simp [execOp, h2, h3]
/-- a load at a place that is not known, from a block of whole numbers -/
theorem rv_ldB {d : Option Nat} {T ty : TypeId} {x : Operand} {pos : String} {aft : Array Edge} {g : Option (Nat × Bool)} {k : IntKind} {b off : Nat} {xs : List Int} {T' : TypeId} {i : Int} (f : Nat)
    (hf : bkAt l f = some ⟨b, (ints k xs).toArray, T'⟩) (hT : shT P T = some .cell) (hx : ev L x = .pointer (some ⟨b, off + i.toNat, none⟩)) (ho : off = 0) (hi : inb i xs.length = true) :
    RV P ⟨d, .load T x, ty, pos, aft, g⟩ c L l os rs (.int k (gI xs i)) := by
  intro t w hF hS
  subst ho
  have hlt := inb_lt hi
  rw [bkAt_eq] at hf
  have hblk := hS.blk _ (List.mem_of_getElem? hf)
  have h1 : w.cell? ⟨b, 0 + i.toNat, none⟩ = some (.int k (gI xs i)) := by rw [cell_of_row w b _ _ _ _ hblk]; simp [ints, gI, hlt]
  have h3 := run_loadAt_cell (P := P) hT h1
  simp only [execOp, hF.eval_ev hx (ptr_ne _), h3, Sem.run_bind, Result.andThen_ok, Sem.run_pure]
/-- a store there -/
theorem o_stB {next : Act → World → Prop} {T ty : TypeId} {x y : Operand} {pos : String} {aft : Array Edge} {g : Option (Nat × Bool)} {k : IntKind} {b off : Nat} {xs : List Int} {T' : TypeId} {i u : Int} (f : Nat)
    (hf : bkAt l f = some ⟨b, (ints k xs).toArray, T'⟩) (hT : shT P T = some .cell) (hx : ev L x = .pointer (some ⟨b, off + i.toNat, none⟩)) (hy : ev L y = .int k u) (ho : off = 0) (hi : inb i xs.length = true)
    (kk : NX next c L (bkPut l f ⟨b, (ints k (xs.set i.toNat u)).toArray, T'⟩) os rs) : NX (fun a w => Oper.wp P ⟨none, .store T x y, ty, pos, aft, g⟩ a w next Q) c L l os rs := by
  intro t w hF hS
  subst ho
  have hlt := inb_lt hi
  rw [bkAt_eq] at hf
  have hblk := hS.blk _ (List.mem_of_getElem? hf)
  have h1 : w.cell? ⟨b, 0 + i.toNat, none⟩ = some (.int k (gI xs i)) := by rw [cell_of_row w b _ _ _ _ hblk]; simp [ints, gI, hlt]
  have hrun := run_storeAt_cell (P := P) hT (v := .int k u) rfl h1 (frozen_of_row w b _ _ _ hblk)
  have hS' := hS.write hf (grown_setCell w ⟨b, 0 + i.toNat, none⟩ (.int k u)) (by
    rw [heap_setCell_same w b (0 + i.toNat) _ T' _ hblk])
  have hset : (ints k xs).toArray.setIfInBounds (0 + i.toNat) (Value.int k u) = (ints k (xs.set i.toNat u)).toArray := by
    apply Array.ext'
    simp [ints, List.map_set]
  simp only [hset] at hS'
  have := kk t _ hF (by rw [bkPut_eq]; exact hS')
  unfold Oper.wp
  simp only [execOp, hF.eval_ev hx (ptr_ne _), hF.eval_ev hy (int_ne _ _), Sem.run_bind, hrun, Result.andThen_ok, Sem.run_pure, Oper.upon, Act.put]
  exact this

/-! ### slices of the call's own -/
def owI (A : Option Addr) (cp : Nat) (T : TypeId) (k : IntKind) (xs : List Int) : Ow := ⟨.slice A xs.length cp, T, ints k xs⟩
theorem own_n {M : List Nat} {w0 w : World} {A : Option Addr} {cp : Nat} {T : TypeId} {k : IntKind} {xs : List Int} (h : Sta M w0 w l os rs) {i : Nat} (ho : os[i]? = some (owI A cp T k xs)) :
    w.ownsRow w0.heap.size T 1 (.slice A xs.length cp) xs.length (ints k xs) := by
  obtain ⟨n, hn⟩ := h.own _ (List.mem_of_getElem? ho)
  have : n = xs.length := by have := hn.1; simp [owI, ints] at this; omega
  subst this
  exact hn
theorem ev_own {L : LL} {x : Operand} {A : Option Addr} {n cp : Nat} (h : ev L x = .slice A n cp) {nn : Nat} {t : Array Value} (hF : Fr nn t L) : Act.eval ⟨t, []⟩ x = .slice A n cp := hF.eval_ev h (slice_ne _ _ _)
theorem rv_idxO {d : Option Nat} {T ty : TypeId} {x y : Operand} {pos : String} {aft : Array Edge} {g : Option (Nat × Bool)} {k k2 : IntKind} {cp : Nat} {e T' : TypeId} {A : Option Addr} {xs : List Int} {i : Int} (f : Nat)
    (hf : os[f]? = some (owI A cp T' k xs)) (hT : P.underlying T = some (.slice e)) (he : P.cellsOf e = 1) (hx : ev L x = .slice A xs.length cp) (hy : ev L y = .int k2 i) (hi : inb i xs.length = true) :
    RV P ⟨d, .indexAddr T x y, ty, pos, aft, g⟩ c L l os rs (.pointer (pAt A i.toNat)) :=
  rv_idxS hT he hx hy (fun _ _ _ hS hn => by
    rcases (own_n hS hf).2 with ⟨h, h0⟩ | ⟨g', cap', cur, h, _⟩
    · omega
    · injection h with h; exact ⟨_, h⟩) hi
theorem own_cell {M : List Nat} {w0 w : World} {A : Option Addr} {cp : Nat} {T : TypeId} {k : IntKind} {xs : List Int} (h : Sta M w0 w l os rs) {f : Nat} (ho : os[f]? = some (owI A cp T k xs)) {i : Int} (hi : inb i xs.length = true) :
    ∃ b, A = some ⟨b, 0, none⟩ ∧ w.cell? ⟨b, i.toNat, none⟩ = some (.int k (gI xs i)) ∧ w.frozen? ⟨b, i.toNat, none⟩ = false ∧ w.ownsRow w0.heap.size T 1 (.slice (some ⟨b, 0, none⟩) xs.length cp) xs.length (ints k xs) := by
  have hown := own_n h ho
  have hlt := inb_lt hi
  rcases hown.2 with ⟨_, h0⟩ | ⟨g', cap', cur, h', _⟩
  · omega
  · injection h' with hA hn hc
    subst hA
    refine ⟨g', rfl, ?_, hown.frozenAt _, hown⟩
    rw [hown.cellAt i.toNat (by omega)]
    simp [ints, gI, hlt]
theorem rv_ldO {d : Option Nat} {T ty : TypeId} {x : Operand} {pos : String} {aft : Array Edge} {g : Option (Nat × Bool)} {k : IntKind} {cp : Nat} {T' : TypeId} {A : Option Addr} {xs : List Int} {i : Int} (f : Nat)
    (hf : os[f]? = some (owI A cp T' k xs)) (hT : shT P T = some .cell) (hx : ev L x = .pointer (pAt A i.toNat)) (hi : inb i xs.length = true) :
    RV P ⟨d, .load T x, ty, pos, aft, g⟩ c L l os rs (.int k (gI xs i)) := by
  intro t w hF hS
  obtain ⟨b, rfl, h1, _⟩ := own_cell hS hf hi
  have h2 : Act.eval ⟨t, []⟩ x = .pointer (some ⟨b, i.toNat, none⟩) := by rw [hF.eval_ev hx (ptr_ne _)]; simp [pAt, addr_add]
  have h3 := run_loadAt_cell (P := P) hT h1
  simp [execOp, h2, h3]
theorem Sta.own_step {M : List Nat} {w0 w w' : World} {o o' : Ow} (h : Sta M w0 w l os rs) {f : Nat} (ho : os[f]? = some o) (hg : w.grownBy w' o.v.ownBlock) (hn : ∃ n, w'.ownsRow w0.heap.size o'.T 1 o'.v n o'.xs)
    (hb : o'.v.ownBlock = o.v.ownBlock ∨ ∃ k, o'.v.ownBlock = some k ∧ w.heap.size ≤ k) : Sta M w0 w' l (os.set f o') rs := by
  have hmem : o ∈ os := List.mem_of_getElem? ho
  obtain ⟨n0, hown⟩ := h.own o hmem
  have hfl : f < os.length := (List.getElem?_eq_some_iff.1 ho).1
  have hexat : ∀ j, (exB l (os.set f o'))[j]? = if j = l.length + f then some o'.v.ownBlock else (exB l os)[j]? := by
    intro j
    simp only [exB, List.map_set]
    by_cases hj : j < l.length
    · rw [List.getElem?_append_left (by simpa using hj), List.getElem?_append_left (by simpa using hj), if_neg (by omega)]
    · rw [List.getElem?_append_right (by simp; omega), List.getElem?_append_right (by simp; omega), List.getElem?_set]
      simp only [List.length_map]
      by_cases hjf : f = j - l.length
      · rw [if_pos hjf, if_pos (by omega), if_pos (by omega)]
      · rw [if_neg hjf, if_neg (by omega)]
  have hlen : (exB l (os.set f o')).length = (exB l os).length := by simp [exB]
  have hat : (exB l os)[l.length + f]? = some o.v.ownBlock := by
    simp only [exB]
    rw [List.getElem?_append_right (by simp)]
    simp [ho]
  have hrow : ∀ k, some k = o.v.ownBlock → w0.heap.size ≤ k ∧ k < w.heap.size := fun k hk => hown.lt k hk.symm
  -- whatever is apart from the old row is apart from the new one
  have hother : ∀ (b : Option Nat) (j : Nat), (exB l os)[j]? = some b → j ≠ l.length + f → b = none ∨ o'.v.ownBlock ≠ b := by
    intro b j hj hne
    cases b with
    | none => exact .inl rfl
    | some b =>
      refine .inr fun e => ?_
      rcases hb with hb | ⟨k, hk, hk2⟩
      · rw [hb] at e
        rw [e] at hat
        exact apart_ne h.dis hj hat hne rfl
      · rw [hk] at e
        injection e with e
        subst e
        have := mem_exB_lt h (List.mem_of_getElem? hj)
        omega
  refine ⟨?_, ?_, ?_, ?_, h.low, ?_⟩
  · refine ⟨hg.os.trans h.upd.os, hg.tape.trans h.upd.tape, hg.output.trans h.upd.output, Nat.le_trans h.upd.size hg.size, fun k hk hM => ?_⟩
    refine (hg.block k (Nat.lt_of_lt_of_le hk h.upd.size) fun e => ?_).trans (h.upd.block k hk hM)
    have := (hrow k e).1
    omega
  · intro x hx
    have hx0 := h.blk x hx
    rw [hg.block x.b (Array.getElem?_eq_some_iff.1 hx0).1 fun e => ?_]
    · exact hx0
    · obtain ⟨j, hj, hjx⟩ := List.getElem_of_mem hx
      have e1 : (exB l os)[j]? = some (some x.b) := by
        simp only [exB]
        rw [List.getElem?_append_left (by simpa using hj)]
        simp [List.getElem?_eq_getElem hj, hjx]
      rw [← e] at hat
      exact apart_ne h.dis e1 hat (by omega) rfl
  · intro y hy
    obtain ⟨j, hj, hjy⟩ := List.getElem_of_mem hy
    have hj' : (os.set f o')[j]? = some y := by rw [List.getElem?_eq_getElem hj, hjy]
    rw [List.getElem?_set] at hj'
    by_cases hne : f = j
    · rw [if_pos hne] at hj'
      rw [if_pos hfl] at hj'
      injection hj' with hj'
      subst hj'
      exact hn
    · rw [if_neg hne] at hj'
      obtain ⟨n, hny⟩ := h.own y (List.mem_of_getElem? hj')
      refine ⟨n, hny.kept hg ?_⟩
      cases hv : y.v.ownBlock with
      | none => exact .inl rfl
      | some b =>
        refine .inr fun e => ?_
        have e1 : (exB l os)[l.length + j]? = some (some b) := by
          simp only [exB]
          rw [List.getElem?_append_right (by simp)]
          simp [hj', hv]
        rw [← e] at hat
        exact apart_ne h.dis e1 hat (by omega) rfl
  · refine List.pairwise_iff_getElem.2 fun i j hi hj hij => ?_
    have hi' : (exB l (os.set f o'))[i]? = some (exB l (os.set f o'))[i] := List.getElem?_eq_getElem hi
    have hj' : (exB l (os.set f o'))[j]? = some (exB l (os.set f o'))[j] := List.getElem?_eq_getElem hj
    generalize (exB l (os.set f o'))[i] = a at hi' ⊢
    generalize (exB l (os.set f o'))[j] = b at hj' ⊢
    rw [hexat] at hi' hj'
    by_cases h1 : i = l.length + f
    · rw [if_pos h1] at hi'
      rw [if_neg (by omega)] at hj'
      injection hi' with hi'
      subst hi'
      rcases hother b j hj' (by omega) with rfl | hne
      · cases ho' : o'.v.ownBlock with
        | none => exact .inl rfl
        | some k => exact .inr (by simp)
      · exact .inr hne
    · rw [if_neg h1] at hi'
      by_cases h2 : j = l.length + f
      · rw [if_pos h2] at hj'
        injection hj' with hj'
        subst hj'
        rcases hother a i hi' h1 with rfl | hne
        · exact .inl rfl
        · exact .inr (Ne.symm hne)
      · rw [if_neg h2] at hj'
        have hli := (List.getElem?_eq_some_iff.1 hi').1
        have hlj := (List.getElem?_eq_some_iff.1 hj').1
        have := List.pairwise_iff_getElem.1 h.dis i j hli hlj hij
        rw [(List.getElem?_eq_some_iff.1 hi').2, (List.getElem?_eq_some_iff.1 hj').2] at this
        exact this
  · intro r hr
    have hfac := h.fac r hr
    have hm : ∀ k, foot l os r.2 k → k < w.heap.size → foot l (os.set f o') r.2 k := by
      intro k ⟨hS, hk⟩ hlt
      refine ⟨hS, fun hmem' => ?_⟩
      obtain ⟨j, hj, hjk⟩ := List.getElem_of_mem hmem'
      have hj' : (exB l (os.set f o'))[j]? = some (some k) := by rw [List.getElem?_eq_getElem hj, hjk]
      rw [hexat] at hj'
      split at hj'
      · injection hj' with hj'
        rcases hb with hb | ⟨k2, hk2, hle⟩
        · rw [hb] at hj'
          rw [hj'] at hat
          exact hk (List.mem_of_getElem? hat)
        · rw [hk2] at hj'
          injection hj' with hj'
          omega
      · exact hk (List.mem_of_getElem? hj')
    refine r.1.mono _ _ w' (fun k hk hlt => ?_) (r.1.stable (fun k => foot l os r.2 k ∧ k < w.heap.size) w w' (r.1.mono _ _ w (fun k hk hlt => ⟨hk, hlt⟩) hfac) fun k ⟨hk, hlt⟩ _ => hg.block k hlt fun e => ?_)
    · exact hm k hk.1 hk.2
    · rw [← e] at hat
      exact hk.2 (List.mem_of_getElem? hat)
/-- a store into an owned slice -/
theorem o_stO {next : Act → World → Prop} {T ty : TypeId} {x y : Operand} {pos : String} {aft : Array Edge} {g : Option (Nat × Bool)} {k : IntKind} {cp : Nat} {T' : TypeId} {A : Option Addr} {xs : List Int} {i u : Int} (f : Nat)
    (hf : os[f]? = some (owI A cp T' k xs)) (hT : shT P T = some .cell) (hx : ev L x = .pointer (pAt A i.toNat)) (hy : ev L y = .int k u) (hi : inb i xs.length = true)
    (kk : NX next c L l (os.set f (owI A cp T' k (xs.set i.toNat u))) rs) : NX (fun a w => Oper.wp P ⟨none, .store T x y, ty, pos, aft, g⟩ a w next Q) c L l os rs := by
  intro t w hF hS
  obtain ⟨b, rfl, h1, h2, hown⟩ := own_cell hS hf hi
  have h3 : Act.eval ⟨t, []⟩ x = .pointer (some ⟨b, i.toNat, none⟩) := by rw [hF.eval_ev hx (ptr_ne _)]; simp [pAt, addr_add]
  have hrun := run_storeAt_cell (P := P) hT (v := .int k u) rfl h1 h2
  have hst := hown.stored i.toNat (.int k u)
  have hS' := hS.own_step (o' := owI (some ⟨b, 0, none⟩) cp T' k (xs.set i.toNat u)) hf hst.2 ⟨xs.length, by
    have := hst.1
    simp only [owI, List.length_set]
    simpa [ints, List.map_set] using this⟩ (.inl rfl)
  have := kk t _ hF hS'
  unfold Oper.wp
  simp only [execOp, h3, hF.eval_ev hy (int_ne _ _), Sem.run_bind, hrun, Result.andThen_ok, Sem.run_pure, Oper.upon, Act.put]
  exact this
theorem Sta.own_new {M : List Nat} {w0 w w' : World} {o : Ow} (h : Sta M w0 w l os rs) (hg : w.grownBy w' none) (hn : ∃ n, w'.ownsRow w0.heap.size o.T 1 o.v n o.xs) (hb : o.v.ownBlock = none ∨ ∃ k, o.v.ownBlock = some k ∧ w.heap.size ≤ k) : Sta M w0 w' l (os ++ [o]) rs := by
  have h1 := h.step hg
  have hex : exB l (os ++ [o]) = exB l os ++ [o.v.ownBlock] := by simp [exB]
  refine ⟨h1.upd, h1.blk, ?_, ?_, h1.low, ?_⟩
  · intro y hy
    rcases List.mem_append.1 hy with hy | hy
    · exact h1.own y hy
    · simp at hy; subst hy; exact hn
  · rw [hex]
    refine List.pairwise_append.2 ⟨h.dis, List.pairwise_singleton _ _, fun a ha b hb' => ?_⟩
    simp at hb'
    subst hb'
    cases a with
    | none => exact .inl rfl
    | some a =>
      refine .inr fun e => ?_
      have := mem_exB_lt h ha
      rcases hb with hb | ⟨k, hk, hle⟩
      · rw [hb] at e; cases e
      · rw [hk] at e; injection e with e; omega
  · intro r hr
    refine r.1.mono _ _ w' (fun k hk _ => ?_) (r.1.stable (fun k => foot l os r.2 k ∧ k < w.heap.size) w w' (r.1.mono _ _ w (fun k hk hlt => ⟨hk, hlt⟩) (h.fac r hr)) fun k ⟨_, hlt⟩ _ => hg.block k hlt (by simp))
    obtain ⟨⟨hS, hk⟩, hlt⟩ := hk
    refine ⟨hS, ?_⟩
    rw [hex]
    intro hm
    rcases List.mem_append.1 hm with hm | hm
    · exact hk hm
    · simp at hm
      rcases hb with hb | ⟨k2, hk2, hle⟩
      · rw [hb] at hm; cases hm
      · rw [hk2] at hm; injection hm with hm; omega
/-- the nil slice is owned -/
theorem nx_nilO {Φ : Act → World → Prop} (T : TypeId) (k : IntKind) (h : NX Φ c L l (os ++ [owI none 0 T k []]) rs) : NX Φ c L l os rs := fun t w hF hS =>
  h t w hF (hS.own_new (w' := w) ⟨rfl, rfl, rfl, Nat.le_refl _, fun _ _ _ => rfl⟩ ⟨0, World.ownsRow_nil w _ T 1⟩ (.inl rfl))
theorem o_make {next : Act → World → Prop} {d : Nat} {T ty : TypeId} {x y : Operand} {pos : String} {aft : Array Edge} {g : Option (Nat × Bool)} {k kl kc : IntKind} {e : TypeId} {i : TypeInfo} {n : Int} (hd : Nat.blt d c.n = true)
    (hT : P.underlying T = some (.slice e)) (hi : P.info? e = some i) (hz : i.zero = some (.int k 0)) (hs : i.size = 1) (hx : ev L x = .int kl n) (hy : ev L y = .int kc n) (h0 : 0 ≤ n) (hb : (i.bytes : Int) * n ≤ 281474976710656) (hn : n ≤ 9223372036854775807)
    (kk : ∀ A : Addr, NX next c (upd L d (.slice (some A) (List.replicate n.toNat (0 : Int)).length n.toNat)) l (os ++ [owI (some A) n.toNat e k (List.replicate n.toNat 0)]) rs) : NX (fun a w => Oper.wp P ⟨some d, .makeSlice T x y, ty, pos, aft, g⟩ a w next Q) c L l os rs := by
  intro t w hF hS
  obtain ⟨m, rfl⟩ := Int.eq_ofNat_of_zero_le h0
  obtain ⟨w', hr, hown, hg⟩ := run_make_full (P := P) w c.w0.heap.size T e i (.int k 0) 1 hT hi hz hs kl kc m (by omega) (by simp only [maxLen]; omega) hS.upd.size
  have hm : (madeCells (Value.int k 0).cells (m * 1)).toList = ints k (List.replicate m 0) := by
    rw [Nat.mul_one, show (Value.int k 0).cells = #[Value.int k 0] from rfl, toList_madeCells_one]
    simp [ints]
  rw [hm] at hown
  have hS' := hS.own_new (o := owI (some ⟨w.heap.size, 0, none⟩) m e k (List.replicate m 0)) hg ⟨m, by simpa [owI] using hown⟩ (.inr ⟨w.heap.size, rfl, Nat.le_refl _⟩)
  have := kk ⟨w.heap.size, 0, none⟩ _ _ (hF.upd (Nat.le_of_ble_eq_true hd) _) hS'
  unfold Oper.wp
  simp only [execOp, hF.eval_ev hx (int_ne _ _), hF.eval_ev hy (int_ne _ _), Sem.run_bind, hr, Result.andThen_ok, Sem.run_pure, Oper.upon, Act.put]
  simpa using this
/-- what an append's value is: the old row, or a new one -/
theorem append_form {P : Program} (w : World) {T ty e : TypeId} {i : TypeInfo} {z : Value} {base : Nat} {A : Option Addr} {n cp : Nat} {xs : List Value} {a : Addr} {m c2 : Nat} {news : List Value}
    (hT : P.underlying T = some (.slice e)) (hi : P.info? e = some i) (hz : i.zero = some z) (hs : i.size = 1)
    (hown : w.ownsRow base e 1 (.slice A n cp) n xs) (hl : news.length = m) (hnews : ∀ j u, news[j]? = some u → w.cell? (a.add j) = some u) (h1 : ∀ u ∈ news, u.oneCell' = true)
    (h63 : n + m ≤ 9223372036854775807) (hb : (n + m) * i.bytes ≤ 140737488355328) {v' : Value} {w' : World}
    (hr : (Builtin.append_ #[T, T] ty #[.slice A n cp, .slice (some a) m c2]).run P w = .ok v' w') :
    ∃ A' cp', v' = .slice A' (n + m) cp' ∧ (v'.ownBlock = (Value.slice A n cp).ownBlock ∨ ∃ k, v'.ownBlock = some k ∧ w.heap.size ≤ k) := by
  have hlx : xs.length = n := by simpa using hown.1
  rcases hown.2 with ⟨h, h0⟩ | ⟨g, cap, cur, h, _, hg, hnc, hcm, hcs, htake⟩
  · injection h with hA hn hc
    subst hA hn hc
    by_cases hm : m = 0
    · subst hm
      have hnil : news = [] := List.eq_nil_of_length_eq_zero hl
      subst hnil
      have : (Builtin.append_ #[T, T] ty #[.slice none 0 0, .slice (some a) 0 c2]).run P w = .ok (.slice none 0 0) w := by
        simp [Builtin.append_, run_underlying hT, sizeOf, typeInfo, hi, Builtin.lenOf, Builtin.firstCells, loadCells, loadCellsFrom]
      rw [this] at hr
      injection hr with hr _
      subst hr
      exact ⟨none, 0, rfl, .inl rfl⟩
    · have := run_append_nil (P := P) w T ty e i z hT hi hz a m c2 news (by rw [hs]; omega) hnews (by omega) (by omega) (by simp only [Nat.zero_add] at hb; omega)
      rw [this] at hr
      injection hr with hr _
      subst hr
      exact ⟨some ⟨w.heap.size, 0, none⟩, _, by rw [Nat.zero_add], .inr ⟨w.heap.size, rfl, Nat.le_refl _⟩⟩
  · injection h with hA hn hc
    subst hA hc
    by_cases hroom : n + m ≤ cp
    · have := run_append_room (P := P) w T ty e i hT hi g n cp cur hg a m c2 news (by rw [hs]; omega) hnews h1 hroom (by rw [hs, hcs, hl]; omega)
      rw [this] at hr
      injection hr with hr _
      subst hr
      exact ⟨some ⟨g, 0, none⟩, cp, rfl, .inl rfl⟩
    · have := run_append_grow (P := P) w T ty e i z hT hi hz ⟨g, 0, none⟩ n cp xs (by rw [hs]; omega) (hown.cells (g := g) rfl) a m c2 news (by rw [hs]; omega) hnews (by omega) (by omega) (growslice_fits (by omega) hb)
      rw [this] at hr
      injection hr with hr _
      subst hr
      exact ⟨some ⟨w.heap.size, 0, none⟩, _, rfl, .inr ⟨w.heap.size, rfl, Nat.le_refl _⟩⟩
/-- append of a slice whose cells are known in every world that meets what is known: in general -/
theorem o_app {next : Act → World → Prop} {d : Nat} {T ty : TypeId} {s x : Operand} {pos : String} {aft : Array Edge} {g : Option (Nat × Bool)} {k : IntKind} {e : TypeId} {i : TypeInfo} {A : Option Addr} {cp : Nat} {xs ys : List Int} {a : Addr} {m c2 : Nat} {z : Value} {by_ : Nat} (f : Nat) (hd : Nat.blt d c.n = true)
    (hf : os[f]? = some (owI A cp e k xs)) (hnews : ∀ w, Sta c.M c.w0 w l os rs → ∀ j u, (ints k ys)[j]? = some u → w.cell? (a.add j) = some u)
    (hT : P.underlying T = some (.slice e)) (hi : P.info? e = some i) (hz : i.zero = some z) (hzs : z.cells.size = 1) (hs : i.size = 1) (hby : i.bytes = by_)
    (hss : ev L s = .slice A xs.length cp) (hx : ev L x = .slice (some a) m c2) (hm : ys.length = m) (hb : (xs.length + m) * by_ ≤ 140737488355328) (hb2 : xs.length + m ≤ 9223372036854775807)
    (kk : ∀ A' cp', NX next c (upd L d (.slice A' (xs ++ ys).length cp')) l (os.set f (owI A' cp' e k (xs ++ ys))) rs) :
    NX (fun a w => Oper.wp P ⟨some d, .call { callee := .builtin .append, args := #[s, x], argTypes := #[T, T] }, ty, pos, aft, g⟩ a w next Q) c L l os rs := by
  intro t w hF hS
  subst hby
  have hown := own_n hS hf
  have hnews' := hnews w hS
  have h1 : ∀ u ∈ ints k ys, u.oneCell' = true := fun u hu => by simp [ints] at hu; obtain ⟨_, _, rfl⟩ := hu; rfl
  have hl : (ints k ys).length = m := by simp [ints, hm]
  obtain ⟨v', w', hr, hown', hg', _⟩ := run_append_own (P := P) w c.w0.heap.size T ty e i z 1 i.bytes hT hi hz hs rfl hzs (by omega) (.slice A xs.length cp) xs.length (ints k xs) hown a m c2 (ints k ys) (by omega) hnews' h1 (by simp only [maxLen]; omega) hb hS.upd.size
  obtain ⟨A', cp', rfl, hbk⟩ := append_form (P := P) w (c2 := c2) hT hi hz hs hown hl hnews' h1 hb2 hb hr
  have hlen : xs.length + m = (xs ++ ys).length := by simp [hm]
  have hown2 : w'.ownsRow c.w0.heap.size e 1 (.slice A' (xs ++ ys).length cp') (xs ++ ys).length (ints k (xs ++ ys)) := by
    rw [← hlen]
    simpa [ints] using hown'
  have hS' := hS.own_step (o' := owI A' cp' e k (xs ++ ys)) hf hg' ⟨_, hown2⟩ (by cases A' <;> cases A <;> exact hbk)
  have := kk A' cp' _ _ (hF.upd (Nat.le_of_ble_eq_true hd) _) hS'
  unfold Oper.wp execOp
  simp only [resolve, invoke, builtin, Sem.run_bind, Sem.run_pure, Result.andThen_ok, List.map_toArray, List.map_cons, List.map_nil, hF.eval_ev hss (slice_ne _ _ _), hF.eval_ev hx (slice_ne _ _ _), hr, Oper.upon, Act.put, hlen]
  exact this
/-- 'append(s, x)': the block that holds x -/
theorem o_appB {next : Act → World → Prop} {d : Nat} {T ty : TypeId} {s x : Operand} {pos : String} {aft : Array Edge} {g : Option (Nat × Bool)} {k : IntKind} {e : TypeId} {i : TypeInfo} {A : Option Addr} {cp b : Nat} {T' : TypeId} {xs : List Int} (ys : List Int) {m c2 : Nat} {z : Value} {by_ : Nat} (f j : Nat) (hd : Nat.blt d c.n = true)
    (hf : os[f]? = some (owI A cp e k xs)) (hj : bkAt l j = some ⟨b, (ints k ys).toArray, T'⟩)
    (hT : P.underlying T = some (.slice e)) (hi : P.info? e = some i) (hz : i.zero = some z) (hzs : z.cells.size = 1) (hs : i.size = 1) (hby : i.bytes = by_)
    (hss : ev L s = .slice A xs.length cp) (hx : ev L x = .slice (some ⟨b, 0, none⟩) m c2) (hm : ys.length = m) (hb : (xs.length + m) * by_ ≤ 140737488355328) (hb2 : xs.length + m ≤ 9223372036854775807)
    (kk : ∀ A' cp', NX next c (upd L d (.slice A' (xs ++ ys).length cp')) l (os.set f (owI A' cp' e k (xs ++ ys))) rs) :
    NX (fun a w => Oper.wp P ⟨some d, .call { callee := .builtin .append, args := #[s, x], argTypes := #[T, T] }, ty, pos, aft, g⟩ a w next Q) c L l os rs :=
  o_app f hd hf (fun w hS jj u hu => by
    rw [bkAt_eq] at hj
    have hblk := hS.blk _ (List.mem_of_getElem? hj)
    rw [addr_add, cell_of_row w b _ _ _ _ hblk]
    simpa using hu) hT hi hz hzs hs hby hss hx hm hb hb2 kk
/-- a new block behind a slice that is written out -/
theorem o_lit {next : Act → World → Prop} {d : Nat} {T ty : TypeId} {n : Nat} {parts : Array (Nat × Operand)} {pos : String} {aft : Array Edge} {g : Option (Nat × Bool)} {e : TypeId} (vs : List Value) (hd : Nat.blt d c.n = true)
    (hh : hasAll L (parts.toList.map (·.2)) = true)
    (hv : ∀ w, (Instr.buildSlice T n (parts.map fun (i, x) => (i, ev L x))).run P w = .ok (.slice (some ⟨w.heap.size, 0, none⟩) n n) (w.alloc (.cells vs.toArray e)))
    (kk : ∀ b, NX next c (upd L d (.slice (some ⟨b, 0, none⟩) n n)) (⟨b, vs.toArray, e⟩ :: l) os rs) : NX (fun a w => Oper.wp P ⟨some d, .buildSlice T n parts, ty, pos, aft, g⟩ a w next Q) c L l os rs := by
  intro t w hF hS
  have := kk w.heap.size _ _ (hF.upd (Nat.le_of_ble_eq_true hd) _) (hS.alloc vs.toArray e)
  have hp : (parts.map fun (i, x) => (i, Act.eval ⟨t, []⟩ x)) = parts.map fun (i, x) => (i, ev L x) := by
    apply Array.map_congr_left
    intro p hp
    obtain ⟨i, x⟩ := p
    simp only
    rw [hF.eval (hasAll_spec hh x (by simp; exact ⟨i, by simpa using hp⟩))]
  unfold Oper.wp
  simp only [execOp, hp, Sem.run_bind, hv w, Result.andThen_ok, Sem.run_pure, Oper.upon, Act.put]
  exact this
theorem map_erase {α β : Type} (f : α → β) : ∀ (l : List α) (i : Nat), (l.eraseIdx i).map f = (l.map f).eraseIdx i
  | [], _ => rfl
  | _ :: _, 0 => rfl
  | x :: r, i + 1 => by simp [map_erase f r i]
theorem Sta.shareB {M : List Nat} {w0 w : World} (h : Sta M w0 w l os rs) (i : Nat) {b : Nat} {cs : Array Value} {T : TypeId} (hb : bkAt l i = some ⟨b, cs, T⟩) (hM : M = []) (j : Nat) (vs : List Value) (cp : Nat) (hv : (cs.toList.drop j).take vs.length = vs) (hc : vs.length ≤ cp) :
    Sta M w0 w (l.eraseIdx i) os ((rdV (some ⟨b, j, none⟩) cp vs, fun k => w0.heap.size ≤ k) :: rs) := by
  rw [bkAt_eq] at hb
  have hmem := List.mem_of_getElem? hb
  have h1 := h.drop (l' := l.eraseIdx i) (os' := os) (rs' := rs) (List.eraseIdx_sublist _ _) (List.Sublist.refl _) (fun r hr => hr)
  refine h1.addFact _ (.inr ⟨b, j, rfl, hc, fun _ => ⟨?_, ?_⟩, fun jj v hjj => ?_⟩)
  · rcases h.low _ hmem with hl | hl
    · exact hl
    · rw [hM] at hl; cases hl
  · have hi := (List.getElem?_eq_some_iff.1 hb).1
    have hat : (exB l os)[i]? = some (some b) := by
      simp only [exB]
      rw [List.getElem?_append_left (by simpa using hi)]
      simp [hb]
    have hex : exB (l.eraseIdx i) os = (exB l os).eraseIdx i := by
      simp only [exB]
      rw [List.eraseIdx_append_of_lt_length (by simpa using hi)]
      congr 1
      exact map_erase _ l i
    rw [hex]
    intro hm
    obtain ⟨q, hq⟩ := List.getElem?_of_mem hm
    rw [List.getElem?_eraseIdx] at hq
    split at hq
    · exact apart_ne h.dis hq hat (by omega) rfl
    · exact apart_ne h.dis hq hat (by omega) rfl
  · have hblk := h.blk _ hmem
    rw [cell_of_row w b _ _ _ _ hblk]
    rw [← hv, List.getElem?_take] at hjj
    split at hjj
    · rw [List.getElem?_drop] at hjj
      simpa using hjj
    · cases hjj
/-- a block is written no more: what leads to it is a fact -/
theorem nx_shareB {Φ : Act → World → Prop} (i : Nat) {b : Nat} {cs : Array Value} {T : TypeId} (hb : bkAt l i = some ⟨b, cs, T⟩) (hM : c.M = []) (j : Nat) (vs : List Value) (cp : Nat) (hv : (cs.toList.drop j).take vs.length = vs) (hc : vs.length ≤ cp)
    (k : NX Φ c L (l.eraseIdx i) os ((rdV (some ⟨b, j, none⟩) cp vs, fun k => c.w0.heap.size ≤ k) :: rs)) : NX Φ c L l os rs :=
  fun t w hF hS => k t w hF (hS.shareB i hb hM j vs cp hv hc)
theorem Sta.shareO {M : List Nat} {w0 w : World} (h : Sta M w0 w l os rs) (i : Nat) {A : Option Addr} {cp : Nat} {T : TypeId} {k : IntKind} {xs : List Int} (ho : os[i]? = some (owI A cp T k xs)) :
    Sta M w0 w l (os.eraseIdx i) ((rdI A cp k xs, fun k => w0.heap.size ≤ k) :: rs) := by
  have hown := own_n h ho
  have h1 := h.drop (l' := l) (os' := os.eraseIdx i) (rs' := rs) (List.Sublist.refl _) (List.eraseIdx_sublist _ _) (fun r hr => hr)
  refine h1.addFact _ ?_
  rcases hown.2 with ⟨hv, h0⟩ | ⟨g, cap, cur, hv, hg0, hg, hnc, hcm, hcs, htake⟩
  · injection hv with hA hn hc
    exact .inl ⟨hA, by simp [ints, List.eq_nil_of_length_eq_zero h0], hc⟩
  · injection hv with hA hn hc
    subst hA hc
    refine .inr ⟨g, 0, rfl, by simpa [ints] using hnc, fun _ => ⟨hg0, ?_⟩, fun j v hj => ?_⟩
    · have hi := (List.getElem?_eq_some_iff.1 ho).1
      have hat : (exB l os)[l.length + i]? = some (some g) := by
        simp only [exB]
        rw [List.getElem?_append_right (by simp)]
        simp [ho, owI, Value.ownBlock]
      have hex : exB l (os.eraseIdx i) = (exB l os).eraseIdx (l.length + i) := by
        simp only [exB]
        rw [List.eraseIdx_append_of_length_le (by simp)]
        congr 1
        rw [map_erase, List.length_map, Nat.add_sub_cancel_left]
      rw [hex]
      intro hm
      obtain ⟨q, hq⟩ := List.getElem?_of_mem hm
      rw [List.getElem?_eraseIdx] at hq
      split at hq
      · exact apart_ne h.dis hq hat (by omega) rfl
      · exact apart_ne h.dis hq hat (by omega) rfl
    · have := hown.cells (g := g) rfl j v hj
      rw [addr_add] at this
      exact this
theorem nx_shareO {Φ : Act → World → Prop} (i : Nat) {A : Option Addr} {cp : Nat} {T : TypeId} {k : IntKind} {xs : List Int} (ho : os[i]? = some (owI A cp T k xs))
    (kk : NX Φ c L l (os.eraseIdx i) ((rdI A cp k xs, fun k => c.w0.heap.size ≤ k) :: rs)) : NX Φ c L l os rs :=
  fun t w hF hS => kk t w hF (hS.shareO i ho)
/-- a slice of a slice that is read: s[lo:hi] within its length -/
def subV (A : Option Addr) (lo hi cp : Nat) : Value := .slice (if cp = lo then A else pAt A lo) (hi - lo) (cp - lo)
theorem rdV_sub {A : Option Addr} {cp : Nat} {vs : List Value} {S : Nat → Prop} {w : World} (h : (rdV A cp vs).P S w) {lo hi : Nat} (hl : lo ≤ hi) (hh : hi ≤ vs.length) :
    (rdV (if cp = lo then A else pAt A lo) (cp - lo) ((vs.take hi).drop lo)).P S w := by
  rcases h with ⟨rfl, rfl, rfl⟩ | ⟨b, off, rfl, hc, hS, hcell⟩
  · refine .inl ⟨by split <;> rfl, by simp, by omega⟩
  · by_cases e : cp = lo
    · rw [if_pos e]
      refine .inr ⟨b, off, rfl, by simp; omega, fun hne => ?_, fun j v hj => ?_⟩
      · exact absurd (List.eq_nil_of_length_eq_zero (by simp; omega)) hne
      · have : ((vs.take hi).drop lo).length = 0 := by simp; omega
        rw [List.eq_nil_of_length_eq_zero this] at hj
        simp at hj
    · rw [if_neg e]
      refine .inr ⟨b, off + lo, by simp [pAt, addr_add], by simp; omega, fun hne => hS fun e2 => ?_, fun j v hj => ?_⟩
      · subst e2; simp at hne
      · rw [List.getElem?_drop, List.getElem?_take] at hj
        split at hj
        · rw [Nat.add_assoc]; exact hcell _ _ hj
        · cases hj
theorem rv_slice {d : Option Nat} {T ty : TypeId} {x : Operand} {lo hi : Option Operand} {pos : String} {aft : Array Edge} {g : Option (Nat × Bool)} {e : TypeId} {A : Option Addr} {n cp : Nat} {vl vh : Int} {kl kh : IntKind}
    (hT : P.underlying T = some (.slice e)) (he : P.cellsOf e = 1) (hx : ev L x = .slice A n cp)
    (hlo : match lo with | some o => ev L o = .int kl vl | none => vl = 0) (hhi : match hi with | some o => ev L o = .int kh vh | none => vh = (n : Int)) (h0 : 0 ≤ vl) (h1 : vl ≤ vh) (h2 : vh ≤ (cp : Int)) :
    RV P ⟨d, .slice T x lo hi none, ty, pos, aft, g⟩ c L l os rs (subV A vl.toNat vh.toNat cp) := by
  intro t w hF _
  cases hh : P.info? e with
  | none => simp [Program.cellsOf, hh] at he
  | some ii =>
    have hs : ii.size = 1 := by simpa [Program.cellsOf, hh] using he
    have hm : ∀ j, A.map (fun a => a.add j) = pAt A j := fun j => rfl
    cases lo with
    | none =>
      simp only at hlo
      subst hlo
      cases hi with
      | none =>
        simp only at hhi
        subst hhi
        simp [execOp, hF.eval_ev hx (slice_ne _ _ _), Instr.sliceAt, run_underlying hT, Instr.slice, Instr.sliceBounds, sizeOf, typeInfo, hh, subV, hm]
      | some o =>
        simp only at hhi
        simp [execOp, hF.eval_ev hx (slice_ne _ _ _), hF.eval_ev hhi (int_ne _ _), Instr.sliceAt, run_underlying hT, Instr.slice, Instr.sliceBounds, Instr.sliceBound, asIntOf, sizeOf, typeInfo, hh, subV, hm, h1, h2]
    | some o =>
      simp only at hlo
      cases hi with
      | none =>
        simp only at hhi
        subst hhi
        have h3 : vl ≤ (n : Int) := h1
        simp [execOp, hF.eval_ev hx (slice_ne _ _ _), hF.eval_ev hlo (int_ne _ _), Instr.sliceAt, run_underlying hT, Instr.slice, Instr.sliceBounds, Instr.sliceBound, asIntOf, sizeOf, typeInfo, hh, hs, subV, hm, h0, h3]
      | some o2 =>
        simp only at hhi
        have h3 : 0 ≤ vh := by omega
        have h4 : vl ≤ max vh 0 := by omega
        simp [execOp, hF.eval_ev hx (slice_ne _ _ _), hF.eval_ev hlo (int_ne _ _), hF.eval_ev hhi (int_ne _ _), Instr.sliceAt, run_underlying hT, Instr.slice, Instr.sliceBounds, Instr.sliceBound, asIntOf, sizeOf, typeInfo, hh, hs, subV, hm, h0, h2, h3, h4]
/-- s[lo:hi] of a slice that is read: it is one too -/
theorem o_sliceR {next : Act → World → Prop} {d : Nat} {T ty : TypeId} {x : Operand} {lo hi : Option Operand} {pos : String} {aft : Array Edge} {g : Option (Nat × Bool)} {e : TypeId} {A : Option Addr} {cp : Nat} {k : IntKind} {xs : List Int} {S : Nat → Prop} (f : Nat) (vl vh : Int) (kl kh : IntKind) (hd : Nat.blt d c.n = true)
    (hf : rs[f]? = some (rdI A cp k xs, S)) (hT : P.underlying T = some (.slice e)) (he : P.cellsOf e = 1) (hx : ev L x = .slice A xs.length cp)
    (hlo : match lo with | some o => ev L o = .int kl vl | none => vl = 0) (hhi : match hi with | some o => ev L o = .int kh vh | none => vh = (xs.length : Int)) (hb : (decide (0 ≤ vl) && decide (vl ≤ vh) && decide (vh ≤ (xs.length : Int))) = true)
    (kk : ∀ A' cp', NX next c (upd L d (.slice A' ((xs.take vh.toNat).drop vl.toNat).length cp')) l os ((rdI A' cp' k ((xs.take vh.toNat).drop vl.toNat), S) :: rs)) :
    NX (fun a w => Oper.wp P ⟨some d, .slice T x lo hi none, ty, pos, aft, g⟩ a w next Q) c L l os rs := by
  intro t w hF hS
  simp only [Bool.and_eq_true, decide_eq_true_eq] at hb
  obtain ⟨⟨h0, h1⟩, h2⟩ := hb
  have hfac := hS.fac _ (List.mem_of_getElem? hf)
  have hcp : xs.length ≤ cp := by
    rcases hfac with ⟨_, h, h3⟩ | ⟨_, _, _, h, _⟩
    · simp [ints] at h; subst h; simp
    · simpa [ints] using h
  have hrv := rv_slice (P := P) (d := some d) (ty := ty) (pos := pos) (aft := aft) (g := g) (c := c) (l := l) (os := os) (rs := rs) hT he hx hlo hhi h0 h1 (by omega) t w hF hS
  have hsub := rdV_sub hfac (lo := vl.toNat) (hi := vh.toNat) (by omega) (by simp [ints]; omega)
  have hvs : ((ints k xs).take vh.toNat).drop vl.toNat = ints k ((xs.take vh.toNat).drop vl.toNat) := by simp [ints, List.map_drop, List.map_take]
  rw [hvs] at hsub
  have hlen : ((xs.take vh.toNat).drop vl.toNat).length = vh.toNat - vl.toNat := by simp; omega
  have := kk (if cp = vl.toNat then A else pAt A vl.toNat) (cp - vl.toNat) _ _ (hF.upd (Nat.le_of_ble_eq_true hd) _) (hS.addFact _ hsub)
  unfold Oper.wp
  rw [hrv]
  simp only [Oper.upon, Act.put, subV, ← hlen]
  exact this
end
end Go.Cal
