/-
  The calculus, second part: loads and stores in blocks whose cells are written out, many at once; new blocks; calls; a function's beginning and end.
-/
import Derived.Test.YtcjampbgjjhckaaK0
import Derived.Laws.StructEq
namespace Go.Cal
open Go Go.RowKit

/-! ### loads and stores at known places -/
def getL : List Value → Nat → Option Value
  | [], _ => none
  | v :: _, 0 => some v
  | _ :: r, n + 1 => getL r n
def putL : List Value → Nat → Value → List Value
  | [], _, _ => []
  | _ :: r, 0, v => v :: r
  | u :: r, n + 1, v => u :: putL r n v
def cutL : List Value → Nat → List Value
  | l, 0 => l
  | [], _ => []
  | _ :: r, n + 1 => cutL r n
def headL : List Value → Nat → Option (List Value)
  | _, 0 => some []
  | [], _ + 1 => none
  | u :: r, n + 1 => match headL r n with | some x => some (u :: x) | none => none
def layL : List Value → Nat → List Value → Option (List Value)
  | l, 0, [] => some l
  | _ :: r, 0, v :: vs => match layL r 0 vs with | some x => some (v :: x) | none => none
  | [], 0, _ :: _ => none
  | [], _ + 1, _ => none
  | u :: r, n + 1, vs => match layL r n vs with | some x => some (u :: x) | none => none
theorem getL_eq : ∀ (l : List Value) (n : Nat), getL l n = l[n]?
  | [], _ => by simp [getL]
  | v :: r, 0 => by simp [getL]
  | _ :: r, n + 1 => by simp [getL, getL_eq r n]
theorem putL_eq : ∀ (l : List Value) (n : Nat) (v : Value), putL l n v = l.set n v
  | [], _, _ => by simp [putL]
  | u :: r, 0, v => by simp [putL]
  | u :: r, n + 1, v => by simp [putL, putL_eq r n v]
theorem cutL_eq : ∀ (l : List Value) (n : Nat), cutL l n = l.drop n
  | [], 0 => by simp [cutL]
  | [], n + 1 => by simp [cutL]
  | v :: r, 0 => by simp [cutL]
  | _ :: r, n + 1 => by simp [cutL, cutL_eq r n]
theorem headL_eq : ∀ (l : List Value) (n : Nat) (x : List Value), headL l n = some x → x = l.take n ∧ n ≤ l.length ∧ x.length = n
  | l, 0, x, h => by simp only [headL] at h; injection h with h; subst h; simp
  | [], n + 1, x, h => by simp [headL] at h
  | u :: r, n + 1, x, h => by
    simp only [headL] at h
    split at h
    · rename_i y hy
      injection h with h
      subst h
      obtain ⟨h1, h2, h3⟩ := headL_eq r n y hy
      simp [h1, h2]
    · cases h
theorem layL_eq : ∀ (l : List Value) (n : Nat) (vs x : List Value), layL l n vs = some x → x = l.take n ++ vs ++ l.drop (n + vs.length) ∧ n + vs.length ≤ l.length
  | l, 0, [], x, h => by
    have : layL l 0 [] = some l := by cases l <;> rfl
    rw [this] at h; injection h with h; subst h; simp
  | u :: r, 0, v :: vs, x, h => by
    simp only [layL] at h
    split at h
    · rename_i y hy
      injection h with h
      subst h
      obtain ⟨h1, h2⟩ := layL_eq r 0 vs y hy
      simp at h1 h2 ⊢
      exact ⟨h1, h2⟩
    · cases h
  | [], 0, v :: vs, x, h => by simp [layL] at h
  | [], n + 1, vs, x, h => by simp [layL] at h
  | u :: r, n + 1, vs, x, h => by
    simp only [layL] at h
    split at h
    · rename_i y hy
      injection h with h
      subst h
      obtain ⟨h1, h2⟩ := layL_eq r n vs y hy
      simp at h1 h2 ⊢
      refine ⟨?_, by omega⟩
      rw [h1, show n + 1 + vs.length = (n + vs.length) + 1 by omega]
      simp
    · cases h

def oneAll : List Value → Bool
  | [] => true
  | v :: r => cond v.oneCell' (oneAll r) false
theorem oneAll_spec : ∀ {l : List Value}, oneAll l = true → ∀ v ∈ l, v.oneCell' = true
  | [], _, v, hv => by cases hv
  | u :: r, h, v, hv => by
    simp only [oneAll] at h
    cases hu : u.oneCell' with
    | false => rw [hu] at h; cases h
    | true =>
      rw [hu] at h
      rcases List.mem_cons.1 hv with rfl | hv
      · exact hu
      · exact oneAll_spec (by simpa using h) v hv

/-- a type's cells: of a struct or an array their number; of all else none -/
inductive Sh where
  | row (n : Nat)
  | cell
def shT (P : Program) (T : TypeId) : Option Sh :=
  match P.info? T with
  | some i => match P.underlying T with
    | some (.struct _) => some (.row i.size)
    | some (.array _ _) => some (.row i.size)
    | some _ => cond (i.size.beq 1) (some .cell) none
    | none => none
  | none => none
def bkAt : List Bk → Nat → Option Bk
  | [], _ => none
  | x :: _, 0 => some x
  | _ :: r, n + 1 => bkAt r n
def bkPut : List Bk → Nat → Bk → List Bk
  | [], _, _ => []
  | _ :: r, 0, v => v :: r
  | u :: r, n + 1, v => u :: bkPut r n v
theorem bkAt_eq : ∀ (l : List Bk) (n : Nat), bkAt l n = l[n]?
  | [], _ => by simp [bkAt]
  | v :: r, 0 => by simp [bkAt]
  | _ :: r, n + 1 => by simp [bkAt, bkAt_eq r n]
theorem bkPut_eq : ∀ (l : List Bk) (n : Nat) (v : Bk), bkPut l n v = l.set n v
  | [], _, _ => by simp [bkPut]
  | u :: r, 0, v => by simp [bkPut]
  | u :: r, n + 1, v => by simp [bkPut, bkPut_eq r n v]

/-- What an operation that loads or stores leaves: temporaries, blocks, and what must be shown of addresses. -/
def memOp (P : Program) (L : LL) (l : List Bk) (i : Nat) : Op → Option (Value × List Bk × Prop)
  | .load T x =>
    match ev L x with
    | .pointer (some a) => match a.spot with
      | some _ => none
      | none => match bkAt l i with
        | some bk => match shT P T with
          | some .cell => match getL bk.cs.toList a.off with
            | some v => some (v, l, a.block = bk.b)
            | none => none
          | some (.row n) => match headL (cutL bk.cs.toList a.off) n with
            | some vs => some (.agg vs.toArray, l, a.block = bk.b)
            | none => none
          | none => none
        | none => none
    | _ => none
  | .store T x y =>
    match ev L x with
    | .pointer (some a) => match a.spot with
      | some _ => none
      | none => match bkAt l i with
        | some bk => match shT P T with
          | some .cell => match getL bk.cs.toList a.off with
            | some _ => cond (has L y) (cond (ev L y).oneCell' (some (undef, bkPut l i ⟨bk.b, (putL bk.cs.toList a.off (ev L y)).toArray, bk.T⟩, a.block = bk.b)) none) none
            | none => none
          | some (.row n) => match ev L y with
            | .agg vs => cond (vs.toList.length.beq n) (cond (oneAll vs.toList) (match layL bk.cs.toList a.off vs.toList with
              | some x => some (undef, bkPut l i ⟨bk.b, x.toArray, bk.T⟩, a.block = bk.b)
              | none => none) none) none
            | _ => none
          | none => none
        | none => none
    | _ => none
  | _ => none
/-- the head of a list of hints, and the rest -/
def isMem : Op → Bool
  | .load .. => true
  | .store .. => true
  | _ => false
structure St where
  L : LL
  l : List Bk
  ob : Prop
def runM (P : Program) (ops : Array Oper) (n : Nat) : Nat → List Oper → List Nat → LL → List Bk → Prop → Option St
  | 0, _, _, L, l, ob => some ⟨L, l, ob⟩
  | _ + 1, [], _, L, l, ob => some ⟨L, l, ob⟩
  | k + 1, o :: rest, hs, L, l, ob =>
    match wantedL ops L o with
    | some true => cond (dstOk n o.dst) (cond (isMem o.op)
        (match hs with
        | [] => none
        | i :: hs => match memOp P L l i o.op with
          | some (v, l', p) => runM P ops n k rest hs (updO L o.dst v) l' (p ∧ ob)
          | none => none)
        (match pvL P L o with
        | some v => runM P ops n k rest hs (updO L o.dst v) l ob
        | none => none)) none
    | some false => cond (dstOk n o.dst) (runM P ops n k rest hs (updO L o.dst undef) l ob) none
    | none => none

section
variable {c : Cx} {L : LL} {l : List Bk} {os : List Ow} {rs : Rs} {P : Program} {Q : Exit → Act → World → Prop}
theorem has_of_ev {x : Operand} {v : Value} (h : ev L x = v) (hv : v ≠ undef) : has L x = true := by
  cases x with
  | tmp i =>
    simp only [ev] at h
    simp only [has]
    cases hl : look L i with
    | none => rw [hl] at h; exact absurd h.symm hv
    | some u => rfl
  | _ => rfl
theorem Fr.eval_ev {n : Nat} {t : Array Value} (hF : Fr n t L) {x : Operand} {v : Value} (h : ev L x = v) (hv : v ≠ undef) : Act.eval ⟨t, []⟩ x = v :=
  (hF.eval (has_of_ev h hv)).trans h
theorem ptr_ne (a : Option Addr) : Value.pointer a ≠ undef := by simp [undef]
theorem agg_ne (a : Array Value) : Value.agg a ≠ undef := by simp [undef]

theorem run_loadAt_cell {T : TypeId} (hT : shT P T = some .cell) {w : World} {b off : Nat} {v : Value} (hc : w.cell? ⟨b, off, none⟩ = some v) :
    (Instr.loadAt T (.pointer (some ⟨b, off, none⟩))).run P w = .ok v w := by
  unfold shT at hT
  split at hT
  · rename_i i hi
    split at hT <;> try (cases hT; done)
    rename_i d hn1 hn2 hu
    have hagg : (isAgg T).run P w = .ok false w := by
      unfold isAgg
      rw [Sem.run_bind, run_underlying hu w]
      cases d <;> simp_all
    simp [Instr.loadAt, Instr.sureAddr, loadVar, hagg, load, Sem.run, hc]
  · cases hT
theorem run_storeAt_cell {T : TypeId} (hT : shT P T = some .cell) {w : World} {b off : Nat} {v u : Value} (hv : v.oneCell' = true) (hc : w.cell? ⟨b, off, none⟩ = some u) (hf : w.frozen? ⟨b, off, none⟩ = false) :
    (Instr.storeAt T (.pointer (some ⟨b, off, none⟩)) v).run P w = .ok () (w.setCell ⟨b, off, none⟩ v) := by
  unfold shT at hT
  split at hT
  · rename_i i hi
    split at hT <;> try (cases hT; done)
    rename_i d hn1 hn2 hu
    have hs : i.size = 1 := by
      cases hb : i.size.beq 1 with
      | false => rw [hb] at hT; cases hT
      | true => exact Nat.eq_of_beq_eq_true hb
    have hcl : v.cells = #[v] := by cases v <;> simp_all [Value.cells, Value.oneCell']
    have hst : (store ((⟨b, off, none⟩ : Addr).add 0) v).run P w = .ok () (w.setCell ⟨b, off, none⟩ v) := by
      rw [show (⟨b, off, none⟩ : Addr).add 0 = ⟨b, off, none⟩ from rfl, run_store P w _ v _ hv, hc]
      simp [hf]
    simp [Instr.storeAt, Instr.sureAddr, storeVar, sizeOf, typeInfo, hi, hcl, hs, storeCells, hst]
  · cases hT
theorem shT_row {T : TypeId} {n : Nat} (h : shT P T = some (.row n)) : ∃ d, P.underlying T = some d ∧ d.isRow = true ∧ (P.info? T).map (·.size) = some n := by
  unfold shT at h
  split at h
  · rename_i i hi
    split at h
    · rename_i fs hu
      injection h with h; injection h with h
      exact ⟨_, hu, rfl, by simp [hi, h]⟩
    · rename_i a b hu
      injection h with h; injection h with h
      exact ⟨_, hu, rfl, by simp [hi, h]⟩
    · cases hb : i.size.beq 1 <;> rw [hb] at h <;> cases h
    · cases h
  · cases h

theorem memOp_spec {o : Oper} {i : Nat} {v : Value} {l' : List Bk} {p : Prop} (h : memOp P L l i o.op = some (v, l', p)) (hp : p) {t : Array Value} {w : World}
    (hF : Fr c.n t L) (hS : Sta c.M c.w0 w l os rs) : ∃ w', ((execOp (Act.eval ⟨t, []⟩) o).run P w = .ok (.value v) w' ∨ ((execOp (Act.eval ⟨t, []⟩) o).run P w = .ok .skip w' ∧ v = undef)) ∧ Sta c.M c.w0 w' l' os rs ∧ (w' = w ∨ l' ≠ l ∨ True) := by
  unfold memOp at h
  split at h
  · rename_i T x hop
    split at h <;> try (cases h; done)
    rename_i a hx
    split at h <;> try (cases h; done)
    rename_i hsp
    split at h <;> try (cases h; done)
    rename_i bk hbk
    rw [bkAt_eq] at hbk
    have hblk := hS.blk bk (List.mem_of_getElem? hbk)
    have hev : Act.eval ⟨t, []⟩ x = .pointer (some a) := hF.eval_ev hx (ptr_ne _)
    have hcell : ∀ j, w.cell? ⟨bk.b, j, none⟩ = bk.cs.toList[j]? := fun j => by rw [cell_of_row w bk.b j _ _ _ hblk]; simp
    obtain ⟨ab, ao, as⟩ := a
    simp only at hsp
    subst hsp
    split at h <;> try (cases h; done)
    · rename_i hT
      split at h <;> try (cases h; done)
      rename_i u hu
      injection h with h
      simp only [Prod.mk.injEq] at h
      obtain ⟨rfl, rfl, rfl⟩ := h
      subst hp
      rw [getL_eq] at hu
      refine ⟨w, .inl ?_, hS, .inl rfl⟩
      have := run_loadAt_cell (P := P) hT (w := w) (b := bk.b) (off := ao) (v := u) (by rw [hcell]; exact hu)
      simp [execOp, hop, hev, this]
    · rename_i n hT
      split at h <;> try (cases h; done)
      rename_i vs hvs
      injection h with h
      simp only [Prod.mk.injEq] at h
      obtain ⟨rfl, rfl, rfl⟩ := h
      subst hp
      obtain ⟨h1, h2, h3⟩ := headL_eq _ _ _ hvs
      obtain ⟨d, hu, hd, hi⟩ := shT_row hT
      refine ⟨w, .inl ?_, hS, .inl rfl⟩
      have hr : w.rangeAt bk.b ao vs := fun j u hj => by
        rw [hcell]
        rw [h1, cutL_eq, List.getElem?_take] at hj
        split at hj
        · rw [List.getElem?_drop] at hj; exact hj
        · cases hj
      have := run_loadAt_mid (P := P) w bk.b ao T vs d hr hu hd (by rw [hi, h3])
      simp [execOp, hop, hev, this]
  · rename_i T x y hop
    split at h <;> try (cases h; done)
    rename_i a hx
    split at h <;> try (cases h; done)
    rename_i hsp
    split at h <;> try (cases h; done)
    rename_i bk hbk
    rw [bkAt_eq] at hbk
    have hblk := hS.blk bk (List.mem_of_getElem? hbk)
    have hev : Act.eval ⟨t, []⟩ x = .pointer (some a) := hF.eval_ev hx (ptr_ne _)
    have hcell : ∀ j, w.cell? ⟨bk.b, j, none⟩ = bk.cs.toList[j]? := fun j => by rw [cell_of_row w bk.b j _ _ _ hblk]; simp
    obtain ⟨ab, ao, as⟩ := a
    simp only at hsp
    subst hsp
    split at h <;> try (cases h; done)
    · rename_i hT
      split at h <;> try (cases h; done)
      rename_i u hu
      cases hhy : has L y with
      | false => rw [hhy] at h; cases h
      | true =>
        rw [hhy] at h
        cases hone : (ev L y).oneCell' with
        | false => rw [hone] at h; cases h
        | true =>
          rw [hone] at h
          injection h with h
          simp only [Prod.mk.injEq] at h
          obtain ⟨rfl, rfl, rfl⟩ := h
          subst hp
          rw [getL_eq] at hu
          have hyv := hF.eval hhy
          have hrun := run_storeAt_cell (P := P) hT (w := w) (b := bk.b) (off := ao) (v := ev L y) (u := u) hone (by rw [hcell]; exact hu) (frozen_of_row w bk.b ao _ _ hblk)
          refine ⟨w.setCell ⟨bk.b, ao, none⟩ (ev L y), .inr ⟨?_, rfl⟩, ?_, .inr (.inr trivial)⟩
          · simp [execOp, hop, hev, hyv, hrun]
          · rw [bkPut_eq]
            refine hS.write hbk (grown_setCell w _ _) ?_
            have := heap_setCell_same w bk.b ao bk.cs bk.T (ev L y) hblk
            rw [this, putL_eq]
            congr 2
            apply Array.ext'
            simp
    · rename_i n hT
      split at h <;> try (cases h; done)
      rename_i vs hy
      cases hlen : vs.toList.length.beq n with
      | false => rw [hlen] at h; cases h
      | true =>
        rw [hlen] at h
        cases hone : oneAll vs.toList with
        | false => rw [hone] at h; cases h
        | true =>
          rw [hone] at h
          simp only [cond_true] at h
          split at h <;> try (cases h; done)
          rename_i x' hx'
          injection h with h
          simp only [Prod.mk.injEq] at h
          obtain ⟨rfl, rfl, rfl⟩ := h
          subst hp
          obtain ⟨h1, h2⟩ := layL_eq _ _ _ _ hx'
          obtain ⟨d, hu, hd, hi⟩ := shT_row hT
          have hn : vs.size = n := by simpa using Nat.eq_of_beq_eq_true hlen
          have hyv : Act.eval ⟨t, []⟩ y = .agg vs := hF.eval_ev hy (agg_ne _)
          have hst := run_storeCells_at P bk.b ao bk.T vs.toList 0 bk.cs w hblk (by simpa using h2) (oneAll_spec hone)
          have hrun : (Instr.storeAt T (.pointer (some ⟨bk.b, ao, none⟩)) (.agg vs)).run P w = .ok () (w.setRow bk.b x'.toArray) := by
            cases hq : P.info? T with
            | none => simp [hq] at hi
            | some ii =>
              have hs : ii.size = n := by simpa [hq] using hi
              simp only [Nat.add_zero] at hst
              rw [← h1] at hst
              simp [Instr.storeAt, Instr.sureAddr, storeVar, sizeOf, typeInfo, hq, Value.cells, hs, hn, hst]
          refine ⟨w.setRow bk.b x'.toArray, .inr ⟨?_, rfl⟩, ?_, .inr (.inr trivial)⟩
          · simp [execOp, hop, hev, hyv, hrun]
          · rw [bkPut_eq]
            exact hS.write hbk (grown_setRow w _ _) (setRow_heap w bk.b bk.cs _ bk.T _ hblk)
  · cases h

theorem memOp_load {o : Oper} {T : TypeId} {x : Operand} (hop : o.op = .load T x) {i : Nat} {v : Value} {l' : List Bk} {p : Prop} (h : memOp P L l i (.load T x) = some (v, l', p)) (hp : p) {t : Array Value} {w : World}
    (hF : Fr c.n t L) (hS : Sta c.M c.w0 w l os rs) : (execOp (Act.eval ⟨t, []⟩) o).run P w = .ok (.value v) w := by
  simp only [memOp] at h
  split at h <;> try (cases h; done)
  rename_i a hx
  split at h <;> try (cases h; done)
  rename_i hsp
  split at h <;> try (cases h; done)
  rename_i bk hbk
  rw [bkAt_eq] at hbk
  have hblk := hS.blk bk (List.mem_of_getElem? hbk)
  have hev : Act.eval ⟨t, []⟩ x = .pointer (some a) := hF.eval_ev hx (ptr_ne _)
  have hcell : ∀ j, w.cell? ⟨bk.b, j, none⟩ = bk.cs.toList[j]? := fun j => by rw [cell_of_row w bk.b j _ _ _ hblk]; simp
  obtain ⟨ab, ao, as⟩ := a
  simp only at hsp
  subst hsp
  split at h <;> try (cases h; done)
  · rename_i hT
    split at h <;> try (cases h; done)
    rename_i u hu
    injection h with h
    simp only [Prod.mk.injEq] at h
    obtain ⟨rfl, rfl, rfl⟩ := h
    subst hp
    rw [getL_eq] at hu
    have := run_loadAt_cell (P := P) hT (w := w) (b := bk.b) (off := ao) (v := u) (by rw [hcell]; exact hu)
    simp [execOp, hop, hev, this]
  · rename_i n hT
    split at h <;> try (cases h; done)
    rename_i vs hvs
    injection h with h
    simp only [Prod.mk.injEq] at h
    obtain ⟨rfl, rfl, rfl⟩ := h
    subst hp
    obtain ⟨h1, h2, h3⟩ := headL_eq _ _ _ hvs
    obtain ⟨d, hu, hd, hi⟩ := shT_row hT
    have hr : w.rangeAt bk.b ao vs := fun j u hj => by
      rw [hcell]
      rw [h1, cutL_eq, List.getElem?_take] at hj
      split at hj
      · rw [List.getElem?_drop] at hj; exact hj
      · cases hj
    have := run_loadAt_mid (P := P) w bk.b ao T vs d hr hu hd (by rw [hi, h3])
    simp [execOp, hop, hev, this]
theorem nx_runM' {ops : Array Oper} : ∀ (k : Nat) (lo : List Oper) (hs : List Nat) (L : LL) (l : List Bk) (ob : Prop) (st : St), runM P ops c.n k lo hs L l ob = some st → (st.ob → ob) ∧
    (st.ob → NX (wpList P ops Q (lo.drop k)) c st.L st.l os rs → NX (wpList P ops Q lo) c L l os rs)
  | 0, lo, hs, L, l, ob, st, h => by simp only [runM] at h; injection h with h; subst h; exact ⟨id, fun _ h => h⟩
  | k + 1, [], hs, L, l, ob, st, h => by simp only [runM] at h; injection h with h; subst h; exact ⟨id, fun _ h => h⟩
  | k + 1, o :: rest, hs, L, l, ob, st, h => by
    simp only [runM] at h
    split at h
    · rename_i hw
      cases hd : dstOk c.n o.dst with
      | false => rw [hd] at h; cases h
      | true =>
        rw [hd] at h
        cases hm : isMem o.op with
        | true =>
          rw [hm] at h
          simp only [cond_true] at h
          split at h <;> try (cases h; done)
          rename_i i hs'
          split at h <;> try (cases h; done)
          rename_i v l' p hmem
          have ih := nx_runM' k rest hs' (updO L o.dst v) l' (p ∧ ob) st h
          refine ⟨fun hob => (ih.1 hob).2, fun hob hk t w hF hS => ?_⟩
          obtain ⟨w', hr, hS', _⟩ := memOp_spec (o := o) hmem (ih.1 hob).1 hF hS
          obtain ⟨t', ht', hF'⟩ := hF.put hd v
          have hn := ih.2 hob (by simpa using hk) t' w' hF' hS'
          rw [← ht'] at hn
          show (if Region.wanted o (yielded ops t) then _ else _)
          rw [wantedL_spec hF hw]
          refine .inl ?_
          unfold Oper.wp
          rcases hr with hr | ⟨hr, rfl⟩
          · rw [hr]; exact hn
          · rw [hr]; exact hn
        | false =>
          rw [hm] at h
          simp only [cond_true, cond_false] at h
          split at h <;> try (cases h; done)
          rename_i v hv
          have ih := nx_runM' k rest hs (updO L o.dst v) l ob st h
          refine ⟨ih.1, fun hob hk t w hF hS => ?_⟩
          obtain ⟨t', ht', hF'⟩ := hF.put hd v
          have hn := ih.2 hob (by simpa using hk) t' w hF' hS
          rw [← ht'] at hn
          show (if Region.wanted o (yielded ops t) then _ else _)
          rw [wantedL_spec hF hw]
          refine .inl ?_
          unfold Oper.wp
          rcases pvL_spec (P := P) hF hv w with hr | ⟨hr, rfl⟩
          · rw [hr]; exact hn
          · rw [hr]; exact hn
    · rename_i hw
      cases hd : dstOk c.n o.dst with
      | false => rw [hd] at h; cases h
      | true =>
        rw [hd] at h
        have ih := nx_runM' k rest hs (updO L o.dst undef) l ob st h
        refine ⟨ih.1, fun hob hk t w hF hS => ?_⟩
        obtain ⟨t', ht', hF'⟩ := hF.put hd undef
        have hn := ih.2 hob (by simpa using hk) t' w hF' hS
        rw [← ht'] at hn
        show (if Region.wanted o (yielded ops t) then _ else _)
        rw [wantedL_spec hF hw]
        exact hn
    · cases h
/-- k operations at once: those that look at no memory, loads and stores at known places (hs: for each the number of its block); the temporaries 'ks' are kept. -/
theorem nx_mem {ops : Array Oper} {lo : List Oper} (k : Nat) (hs ks : List Nat) (L' : LL) (l' : List Bk) (ob : Prop)
    (h : (runM P ops c.n k lo hs L l True).map (fun s => (⟨sel s.L ks, s.l, s.ob⟩ : St)) = some ⟨L', l', ob⟩) (hob : ob)
    (hk : NX (wpList P ops Q (lo.drop k)) c L' l' os rs) : NX (wpList P ops Q lo) c L l os rs := by
  cases hr : runM P ops c.n k lo hs L l True with
  | none => rw [hr] at h; cases h
  | some s =>
    rw [hr] at h
    injection h with h
    injection h with h1 h2 h3
    subst h1 h2 h3
    exact (nx_runM' k lo hs L l True s hr).2 hob (nx_sel ks _ rfl hk)

/-! ### new blocks -/
theorem o_box {next : Act → World → Prop} {d : Nat} {T ty : TypeId} {x : Operand} {pos : String} {aft : Array Edge} {g : Option (Nat × Bool)} (v : Value) (hd : Nat.blt d c.n = true) (hx : ev L x = v) (hv : v ≠ undef)
    (k : ∀ b, NX next c (upd L d (.pointer (some ⟨b, 0, none⟩))) (⟨b, v.cells, T⟩ :: l) os rs) : NX (fun a w => Oper.wp P ⟨some d, .box T x, ty, pos, aft, g⟩ a w next Q) c L l os rs := by
  intro t w hF hS
  have hev := hF.eval_ev hx hv
  have := k w.heap.size _ _ (hF.upd (Nat.le_of_ble_eq_true hd) _) (hS.alloc v.cells T)
  unfold Oper.wp
  simp only [execOp, hev, Instr.box, newVar, newRow, newObj, Sem.run_bind, Sem.run_pure, Sem.run, Result.andThen_ok, Oper.upon]
  exact this
theorem o_alloc {next : Act → World → Prop} {d : Nat} {T ty : TypeId} {pos : String} {aft : Array Edge} {g : Option (Nat × Bool)} (z : Value) (hd : Nat.blt d c.n = true) (hz : (P.info? T).bind (·.zero) = some z)
    (k : ∀ b, NX next c (upd L d (.pointer (some ⟨b, 0, none⟩))) (⟨b, z.cells, T⟩ :: l) os rs) : NX (fun a w => Oper.wp P ⟨some d, .alloc T, ty, pos, aft, g⟩ a w next Q) c L l os rs := by
  intro t w hF hS
  have := k w.heap.size _ _ (hF.upd (Nat.le_of_ble_eq_true hd) _) (hS.alloc z.cells T)
  unfold Oper.wp
  cases hi : P.info? T with
  | none => rw [hi] at hz; cases hz
  | some i =>
    rw [hi] at hz
    simp only [Option.bind_some] at hz
    simp only [execOp, Instr.alloc, zeroValue, typeInfo, hi, hz, newVar, newRow, newObj, Sem.run_bind, Sem.run_pure, Sem.run, Result.andThen_ok, Oper.upon, program]
    exact this
/-- an operation with a value that leaves the world alone, by its run -/
theorem o_val {next : Act → World → Prop} {o : Oper} {d : Nat} (v : Value) (ho : o.dst = some d) (hd : d < c.n)
    (hv : ∀ t w, Fr c.n t L → Sta c.M c.w0 w l os rs → (execOp (Act.eval ⟨t, []⟩) o).run P w = .ok (.value v) w) (k : NX next c (upd L d v) l os rs) : NX (fun a w => Oper.wp P o a w next Q) c L l os rs := by
  intro t w hF hS
  have := k _ _ (hF.upd hd v) hS
  unfold Oper.wp
  rw [hv t w hF hS]
  simp only [Oper.upon, ho, Act.put]
  exact this
/-! ### calls -/
def evAll (L : LL) : List Operand → List Value
  | [] => []
  | x :: r => ev L x :: evAll L r
theorem evAll_eq {n : Nat} {t : Array Value} (hF : Fr n t L) : ∀ {xs : List Operand}, hasAll L xs = true → xs.map (Act.eval ⟨t, []⟩) = evAll L xs
  | [], _ => rfl
  | x :: r, h => by
    simp only [hasAll] at h
    cases hx : has L x with
    | false => rw [hx] at h; cases h
    | true =>
      rw [hx] at h
      simp only [List.map_cons, evAll, hF.eval hx, evAll_eq hF (xs := r) (by simpa using h)]
/-- a Go function with a body is called: R says what comes back -/
theorem o_call {next : Act → World → Prop} {dst : Option Nat} {ty : TypeId} {f : FuncId} {xs : List Operand} {ats : Array TypeId} {pos : String} {aft : Array Edge} {g : Option (Nat × Bool)} {fn : Func} (vs : List Value)
    (hf : P.funcs[f]? = some fn) (hb : (fn.name == "runtime.NumGoroutine") = false ∧ fn.body.isNone = false) (hh : hasAll L xs = true) (hvs : evAll L xs = vs)
    (R : World → Ending → World → Prop) (hc : ∀ w, Sta c.M c.w0 w l os rs → Calls P f vs.toArray w (R w))
    (k : ∀ t w, Fr c.n t L → Sta c.M c.w0 w l os rs → ∀ e w', R w e w' → ∃ v, e = .returned v ∧ next (Act.put ⟨t, []⟩ dst v) w') :
    NX (fun a w => Oper.wp P ⟨dst, .call { callee := .value (.func f), args := xs.toArray, argTypes := ats }, ty, pos, aft, g⟩ a w next Q) c L l os rs := by
  intro t w hF hS
  have hargs : xs.toArray.map (Act.eval ⟨t, []⟩) = vs.toArray := by rw [List.map_toArray, evAll_eq hF hh, hvs]
  have hfun : Act.eval ⟨t, []⟩ (.func f) = .func (.func f) #[] #[] := rfl
  unfold Oper.wp
  simp only [execOp, resolve, hargs, hfun, Deferred.ofValue, invoke, callFunc, Sem.run_bind, Sem.run_pure, Result.andThen_ok, Array.empty_append, Array.append_empty]
  simp only [program, Sem.run, Result.andThen_ok, hf, hb.1, hb.2, Bool.false_eq_true, if_false, Oper.upon, Sem.run_pure]
  refine (hc w hS).mono fun e w' hR => ?_
  obtain ⟨v, rfl, hn⟩ := k t w hF hS e w' hR
  exact hn
/-- the same where the callee only makes memory of its own and hands back a value that is told outright -/
theorem o_call1 {next : Act → World → Prop} {d : Nat} {ty : TypeId} {f : FuncId} {xs : List Operand} {ats : Array TypeId} {pos : String} {aft : Array Edge} {g : Option (Nat × Bool)} {fn : Func} (vs : List Value) (v : Value) (hd : Nat.blt d c.n = true)
    (hf : P.funcs[f]? = some fn) (hb : (fn.name == "runtime.NumGoroutine") = false ∧ fn.body.isNone = false) (hh : hasAll L xs = true) (hvs : evAll L xs = vs)
    (hc : ∀ w, Sta c.M c.w0 w l os rs → Calls P f vs.toArray w fun e w' => e = .returned v ∧ Below w.heap.size w w')
    (k : NX next c (upd L d v) l os rs) :
    NX (fun a w => Oper.wp P ⟨some d, .call { callee := .value (.func f), args := xs.toArray, argTypes := ats }, ty, pos, aft, g⟩ a w next Q) c L l os rs :=
  o_call vs hf hb hh hvs (fun w e w' => e = .returned v ∧ Below w.heap.size w w') hc fun _ _ hF hS _ _ ⟨he, hw⟩ =>
    ⟨v, he, k _ _ (hF.upd (Nat.le_of_ble_eq_true hd) v) (hS.step (grown_of_below hw))⟩

/-! ### a function's beginning and end -/
def argsL : List Value → Nat → LL
  | [], _ => []
  | v :: r, i => (i, v) :: argsL r (i + 1)
theorem look_argsL : ∀ (vs : List Value) (i j : Nat) (v : Value), look (argsL vs i) j = some v → i ≤ j ∧ vs[j - i]? = some v
  | [], i, j, v, h => by simp [argsL, look] at h
  | u :: r, i, j, v, h => by
    simp only [argsL, look_cons] at h
    split at h
    · rename_i e
      subst e
      injection h with h
      simp [h]
    · obtain ⟨h1, h2⟩ := look_argsL r (i + 1) j v h
      refine ⟨by omega, ?_⟩
      rw [show j - i = (j - (i + 1)) + 1 by omega]
      simpa using h2
theorem calls_of_nx {f : FuncId} {fn : Func} {C : Code} {w : World} {R : Ending → World → Prop} {M : List Nat} {l : List Bk} {os : List Ow} {rs : Rs} (vs : List Value) (L : LL) (hf : P.funcs[f]? = some fn) (hb : fn.body = some C)
    (hL : argsL vs 0 = L) (hn : (Nat.ble vs.length fn.ntmps) = true) (hS : Sta M w w l os rs) (h : NX (C.wp P (bodyPost P fn R)) ⟨fn.ntmps, M, w⟩ L l os rs) : Calls P f vs.toArray w R := by
  refine calls_of_wp hf hb (h _ w ?_ hS)
  have hle : vs.length ≤ fn.ntmps := Nat.le_of_ble_eq_true hn
  refine ⟨by simp; omega, fun i v hv => ?_⟩
  subst hL
  obtain ⟨_, h2⟩ := look_argsL vs 0 i v hv
  have hi : i < vs.length := by have := (List.getElem?_eq_some_iff.1 h2).1; omega
  rw [Array.getElem?_append_left (by simpa using hi)]
  simpa using h2
theorem Sta.start (w : World) (rs : Rs) (h : ∀ r ∈ rs, r.1.P r.2 w) : Sta [] w w [] [] rs :=
  ⟨Upd.refl _ _, fun x hx => (by cases hx), fun x hx => (by cases hx), List.Pairwise.nil, fun x hx => (by cases hx), fun r hr => r.1.mono _ _ w (fun k hk _ => ⟨hk, (by simp [exB])⟩) (h r hr)⟩
/-- the results' values: of a temporary, and of a variable in memory -/
inductive ResOK (P : Program) (L : LL) (l : List Bk) : List ResultVar → List Value → Prop
  | nil : ResOK P L l [] []
  | tmp {t : Nat} {v : Value} {rv : List ResultVar} {vs : List Value} (h : look L t = some v) (k : ResOK P L l rv vs) : ResOK P L l (.tmp t :: rv) (v :: vs)
  | row {t : Nat} {T : TypeId} {rv : List ResultVar} {vs : List Value} (i b : Nat) (cs : Array Value) (T' : TypeId) (h : look L t = some (.pointer (some ⟨b, 0, none⟩))) (hl : bkAt l i = some ⟨b, cs, T'⟩)
      (hT : shT P T = some (.row cs.size)) (k : ResOK P L l rv vs) : ResOK P L l (.cell t T :: rv) (.agg cs :: vs)
  | cell {t : Nat} {T : TypeId} {rv : List ResultVar} {vs : List Value} (i b : Nat) (v : Value) (T' : TypeId) (h : look L t = some (.pointer (some ⟨b, 0, none⟩))) (hl : bkAt l i = some ⟨b, #[v], T'⟩)
      (hT : shT P T = some .cell) (k : ResOK P L l rv vs) : ResOK P L l (.cell t T :: rv) (v :: vs)
def resSem (t : Array Value) : ResultVar → Sem Value
  | .tmp i => pure (t.getD i undef)
  | .cell a T => do loadVar T (← asAddr (t.getD a undef))
theorem ResOK.run {t : Array Value} {w : World} (hF : Fr c.n t L) (hS : Sta c.M c.w0 w l os rs) {rv : List ResultVar} {vs : List Value} (h : ResOK P L l rv vs) :
    Sem.run P (rv.mapM (resSem t)) w = .ok vs w := by
  induction h with
  | nil => simp
  | tmp hl hk ih =>
    have : (resSem t (.tmp _)).run P w = .ok _ w := congrArg (fun v => Result.ok v w) (hF.look hl)
    rw [List.mapM_cons, Sem.run_bind, this]
    simp only [Sem.run_bind, Sem.run_pure, Result.andThen_ok, ih]
  | @row tt T rv vs i b cs T' h hl hT hk ih =>
    rw [bkAt_eq] at hl
    have hblk := hS.blk _ (List.mem_of_getElem? hl)
    obtain ⟨d, hu, hd, hi⟩ := shT_row hT
    have h1 := run_loadVar_mid (P := P) w b 0 T cs.toList d (fun j v hj => by rw [cell_of_row w b _ _ _ _ hblk]; simpa using hj) hu hd (by simpa using hi)
    have : (resSem t (.cell tt T)).run P w = .ok (.agg cs) w := by
      simp only [resSem, hF.look h, asAddr, Sem.run_bind, Sem.run_pure, Result.andThen_ok, h1, Array.toArray_toList]
    rw [List.mapM_cons, Sem.run_bind, this]
    simp only [Sem.run_bind, Sem.run_pure, Result.andThen_ok, ih]
  | @cell tt T rv vs i b v T' h hl hT hk ih =>
    rw [bkAt_eq] at hl
    have hblk := hS.blk _ (List.mem_of_getElem? hl)
    have h1 := run_loadAt_cell (P := P) hT (w := w) (b := b) (off := 0) (v := v) (by rw [cell_of_row w b _ _ _ _ hblk]; rfl)
    simp only [Instr.loadAt, Instr.sureAddr, Sem.run_bind, Sem.run_pure, Result.andThen_ok] at h1
    have : (resSem t (.cell tt T)).run P w = .ok v w := by
      simp only [resSem, hF.look h, asAddr, Sem.run_bind, Sem.run_pure, Result.andThen_ok, h1]
    rw [List.mapM_cons, Sem.run_bind, this]
    simp only [Sem.run_bind, Sem.run_pure, Result.andThen_ok, ih]
def packL : List Value → Value
  | [v] => v
  | vs => .tuple vs.toArray
theorem nx_done {fn : Func} {R : Ending → World → Prop} {rv : List ResultVar} (vs : List Value) (hr : fn.results = rv.toArray) (h : ResOK P L l rv vs)
    (hR : ∀ w, Sta c.M c.w0 w l os rs → R (.returned (packL vs)) w) : NX (bodyPost P fn R .ret) c L l os rs := by
  intro t w hF hS
  refine bodyPost_ret (v := packL vs) ?_ rfl (hR w hS)
  have h1 := h.run hF hS
  have h2 : results fn t = (do
      let vs ← rv.toArray.mapM (resSem t)
      pure (if h : vs.size = 1 then vs[0] else .tuple vs)) := by unfold results; rw [hr]; rfl
  show (results fn t).run P w = _
  rw [h2, List.mapM_toArray]
  simp only [Sem.run_bind, Sem.run_map, h1, Result.andThen_ok, Sem.run_pure]
  match vs with
  | [] => rfl
  | [v] => rfl
  | _ :: _ :: _ => simp [packL]
end
end Go.Cal
