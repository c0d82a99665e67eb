/-
  A small calculus of my own for walking through Go code: the state is a list of live temporaries, a list of blocks of the call's own, a list of owned slices and a list of facts; each operation is one lemma.
-/
import Derived.WalkKit
import Derived.OrdersHeld
import Derived.Deep.MidRow
namespace Go.Cal
open Go Go.RowKit

/-! ### temporaries -/
abbrev LL := List (Nat × Value)
def look : LL → Nat → Option Value
  | [], _ => none
  | p :: r, t => cond (p.1.beq t) (some p.2) (look r t)
def ev (L : LL) : Operand → Value
  | .tmp t => match look L t with | some v => v | none => undef
  | .const v => v
  | .global g => .pointer (some ⟨g, 0, none⟩)
  | .func f => .func (.func f) #[] #[]
def has (L : LL) : Operand → Bool
  | .tmp t => match look L t with | some _ => true | none => false
  | _ => true
def upd : LL → Nat → Value → LL
  | [], d, v => [(d, v)]
  | p :: r, d, v => cond (p.1.beq d) ((d, v) :: r) (p :: upd r d v)
def updO (L : LL) (d : Option Nat) (v : Value) : LL := match d with | some d => upd L d v | none => L
def sel (L : LL) : List Nat → LL
  | [] => []
  | k :: ks => match look L k with | some v => (k, v) :: sel L ks | none => sel L ks

def Fr (n : Nat) (t : Array Value) (L : LL) : Prop := t.size = n ∧ ∀ i v, look L i = some v → t[i]? = some v

theorem look_cons (p : Nat × Value) (r : LL) (t : Nat) : look (p :: r) t = if p.1 = t then some p.2 else look r t := by
  simp only [look]
  by_cases h : p.1 = t
  · simp [h]
  · have : p.1.beq t = false := by cases hb : p.1.beq t; rfl; exact absurd (Nat.eq_of_beq_eq_true hb) h
    simp [this, h]
theorem upd_cons (p : Nat × Value) (r : LL) (d : Nat) (v : Value) : upd (p :: r) d v = if p.1 = d then (d, v) :: r else p :: upd r d v := by
  simp only [upd]
  by_cases h : p.1 = d
  · simp [h]
  · have : p.1.beq d = false := by cases hb : p.1.beq d; rfl; exact absurd (Nat.eq_of_beq_eq_true hb) h
    simp [this, h]
theorem look_upd (L : LL) (d i : Nat) (v : Value) : look (upd L d v) i = if d = i then some v else look L i := by
  induction L with
  | nil => simp [upd, look_cons, look]
  | cons p r ih =>
    rw [upd_cons]
    by_cases h : p.1 = d
    · subst h
      simp only [if_true, look_cons]
      split <;> simp_all
    · simp only [h, if_false, look_cons, ih]
      by_cases h2 : p.1 = i
      · subst h2
        simp [Ne.symm h]
      · simp [h2]
theorem look_sel (L : LL) : ∀ (ks : List Nat) (i : Nat) (v : Value), look (sel L ks) i = some v → look L i = some v
  | [], i, v, h => by simp [sel, look] at h
  | k :: ks, i, v, h => by
    simp only [sel] at h
    split at h
    · rename_i u hu
      rw [look_cons] at h
      split at h
      · rename_i hk
        simp only at hk h
        subst hk
        rw [hu, h]
      · exact look_sel L ks i v h
    · exact look_sel L ks i v h

theorem Fr.sel {n : Nat} {t : Array Value} {L : LL} (h : Fr n t L) (ks : List Nat) : Fr n t (sel L ks) :=
  ⟨h.1, fun i v hv => h.2 i v (look_sel L ks i v hv)⟩
theorem Fr.upd {n : Nat} {t : Array Value} {L : LL} (h : Fr n t L) {d : Nat} (hd : d < n) (v : Value) : Fr n (t.setIfInBounds d v) (upd L d v) := by
  refine ⟨by simp [h.1], fun i u hu => ?_⟩
  rw [look_upd] at hu
  by_cases hi : d = i
  · subst hi
    simp only [if_true] at hu
    have : d < t.size := by rw [h.1]; exact hd
    rw [Array.getElem?_setIfInBounds_self_of_lt this]; exact hu
  · simp only [hi, if_false] at hu
    rw [Array.getElem?_setIfInBounds_ne hi]
    exact h.2 i u hu
def dstOk (n : Nat) : Option Nat → Bool
  | some d => Nat.blt d n
  | none => true
theorem Fr.put {n : Nat} {t : Array Value} {L : LL} (h : Fr n t L) {d : Option Nat} (hd : dstOk n d = true) (v : Value) :
    ∃ t', Act.put ⟨t, []⟩ d v = ⟨t', []⟩ ∧ Fr n t' (updO L d v) := by
  cases d with
  | none => exact ⟨t, rfl, h⟩
  | some d => exact ⟨_, rfl, h.upd (Nat.le_of_ble_eq_true hd) v⟩
theorem Fr.look {n : Nat} {t : Array Value} {L : LL} (h : Fr n t L) {i : Nat} {v : Value} (hv : look L i = some v) : t.getD i undef = v := by
  rw [Array.getD_eq_getD_getElem?, h.2 i v hv]; rfl
theorem Fr.eval {n : Nat} {t : Array Value} {L : LL} (h : Fr n t L) {x : Operand} (hx : has L x = true) : Act.eval ⟨t, []⟩ x = ev L x := by
  cases x with
  | tmp i =>
    simp only [has] at hx
    split at hx
    · rename_i v hv
      show t.getD i undef = _
      rw [h.look hv]
      simp [ev, hv]
    · cases hx
  | _ => rfl

/-! ### what the call knows of memory -/
structure Bk where
  b : Nat
  cs : Array Value
  T : TypeId
structure Ow where
  v : Value
  T : TypeId
  xs : List Value
structure Fact where
  P : (Nat → Prop) → World → Prop
  stable : ∀ S w w', P S w → (∀ k, S k → k < w.heap.size → w'.heap[k]? = w.heap[k]?) → P S w'
  mono : ∀ S S' w, (∀ k, S k → k < w.heap.size → S' k) → P S w → P S' w

/-- blocks that no fact leads to -/
def exB (l : List Bk) (os : List Ow) : List (Option Nat) := l.map (fun x => some x.b) ++ os.map (fun o => o.v.ownBlock)
def Apart (e : List (Option Nat)) : Prop := e.Pairwise fun a b => a = none ∨ a ≠ b
def foot (l : List Bk) (os : List Ow) (S : Nat → Prop) : Nat → Prop := fun k => S k ∧ some k ∉ exB l os

structure Upd (M : List Nat) (w w' : World) : Prop where
  os : w'.os = w.os
  tape : w'.tape = w.tape
  output : w'.output = w.output
  size : w.heap.size ≤ w'.heap.size
  block : ∀ k, k < w.heap.size → k ∉ M → w'.heap[k]? = w.heap[k]?
theorem Upd.refl (M : List Nat) (w : World) : Upd M w w := ⟨rfl, rfl, rfl, Nat.le_refl _, fun _ _ _ => rfl⟩
theorem Upd.below {w w' : World} (h : Upd [] w w') : Below w.heap.size w w' := ⟨h.os, h.tape, h.output, h.size, fun k hk => h.block k hk (by simp)⟩

structure Sta (M : List Nat) (w0 w : World) (l : List Bk) (os : List Ow) (rs : List (Fact × (Nat → Prop))) : Prop where
  upd : Upd M w0 w
  blk : ∀ x ∈ l, w.heap[x.b]? = some (.cells x.cs x.T (0, 0))
  own : ∀ o ∈ os, ∃ n, w.ownsRow w0.heap.size o.T 1 o.v n o.xs
  dis : Apart (exB l os)
  low : ∀ x ∈ l, w0.heap.size ≤ x.b ∨ x.b ∈ M
  fac : ∀ r ∈ rs, r.1.P (foot l os r.2) w

theorem mem_exB_lt {M : List Nat} {w0 w : World} {l : List Bk} {os : List Ow} {rs : List (Fact × (Nat → Prop))} (h : Sta M w0 w l os rs) {k : Nat} (hk : some k ∈ exB l os) : k < w.heap.size := by
  simp only [exB, List.mem_append, List.mem_map] at hk
  rcases hk with ⟨x, hx, he⟩ | ⟨o, ho, he⟩
  · have := h.blk x hx
    injection he with he; subst he
    exact (Array.getElem?_eq_some_iff.1 this).1
  · obtain ⟨n, hn⟩ := h.own o ho
    exact (hn.lt k he).2

/-- What a step does to the world, as far as this calculus looks: everything but the block 'row' is as it was. -/
theorem Sta.step {M : List Nat} {w0 w w' : World} {l : List Bk} {os : List Ow} {rs : List (Fact × (Nat → Prop))} (h : Sta M w0 w l os rs) (hg : w.grownBy w' none) : Sta M w0 w' l os rs where
  upd := ⟨hg.os.trans h.upd.os, hg.tape.trans h.upd.tape, hg.output.trans h.upd.output, Nat.le_trans h.upd.size hg.size, fun k hk hM => (hg.block k (Nat.lt_of_lt_of_le hk h.upd.size) (by simp)).trans (h.upd.block k hk hM)⟩
  blk := fun x hx => by
    have := h.blk x hx
    rw [hg.block x.b (Array.getElem?_eq_some_iff.1 this).1 (by simp)]; exact this
  own := fun o ho => by
    obtain ⟨n, hn⟩ := h.own o ho
    exact ⟨n, hn.kept hg (by cases o.v.ownBlock <;> simp)⟩
  dis := h.dis
  low := h.low
  fac := fun r hr => r.1.stable _ w w' (h.fac r hr) fun k _ hk => hg.block k hk (by simp)

theorem grown_of_below {w w' : World} (h : Below w.heap.size w w') : w.grownBy w' none := ⟨h.os, h.tape, h.output, h.size, fun k hk _ => h.block k hk⟩
theorem grown_drew (w : World) : w.grownBy w.drew none := ⟨rfl, rfl, rfl, Nat.le_refl _, fun _ _ _ => rfl⟩

/-- A new block. -/
theorem Sta.alloc {M : List Nat} {w0 w : World} {l : List Bk} {os : List Ow} {rs : List (Fact × (Nat → Prop))} (h : Sta M w0 w l os rs) (cs : Array Value) (T : TypeId) :
    Sta M w0 (w.alloc (.cells cs T)) (⟨w.heap.size, cs, T⟩ :: l) os rs := by
  have h1 := h.step (World.grownBy_alloc w (.cells cs T) none)
  refine ⟨h1.upd, ?_, h1.own, ?_, ?_, ?_⟩
  · intro x hx
    rcases List.mem_cons.1 hx with rfl | hx
    · exact heap_alloc_new w _
    · exact h1.blk x hx
  · show Apart (some w.heap.size :: exB l os)
    refine List.pairwise_cons.2 ⟨fun b hb => .inr fun e => ?_, h.dis⟩
    subst e
    exact Nat.lt_irrefl _ (mem_exB_lt h hb)
  · intro x hx
    rcases List.mem_cons.1 hx with rfl | hx
    · exact .inl h.upd.size
    · exact h.low x hx
  · intro r hr
    refine r.1.stable _ w _ ?_ fun k _ hk => (World.grownBy_alloc w (.cells cs T) none).block k hk (by simp)
    refine r.1.mono _ _ w ?_ (h.fac r hr)
    intro k ⟨hS, hk⟩ hlt
    refine ⟨hS, ?_⟩
    show some k ∉ some w.heap.size :: exB l os
    intro hm
    rcases List.mem_cons.1 hm with e | hm
    · injection e with e; omega
    · exact hk hm

theorem apart_ne {e : List (Option Nat)} (h : Apart e) {i j : Nat} {a b : Nat} (hi : e[i]? = some (some a)) (hj : e[j]? = some (some b)) (hij : i ≠ j) : a ≠ b := by
  rintro rfl
  rcases Nat.lt_or_gt_of_ne hij with hlt | hlt
  · have := List.pairwise_iff_getElem.1 h i j (List.getElem?_eq_some_iff.1 hi).1 (List.getElem?_eq_some_iff.1 hj).1 hlt
    simp only [(List.getElem?_eq_some_iff.1 hi).2, (List.getElem?_eq_some_iff.1 hj).2] at this
    simp at this
  · have := List.pairwise_iff_getElem.1 h j i (List.getElem?_eq_some_iff.1 hj).1 (List.getElem?_eq_some_iff.1 hi).1 hlt
    simp only [(List.getElem?_eq_some_iff.1 hi).2, (List.getElem?_eq_some_iff.1 hj).2] at this
    simp at this

/-- The block number i of the list is written: its cells are turned. -/
theorem Sta.write {M : List Nat} {w0 w w' : World} {l : List Bk} {os : List Ow} {rs : List (Fact × (Nat → Prop))} (h : Sta M w0 w l os rs) {i b : Nat} {cs cs' : Array Value} {T : TypeId} (hl : l[i]? = some ⟨b, cs, T⟩)
    (hg : w.grownBy w' (some b)) (hb : w'.heap[b]? = some (.cells cs' T (0, 0))) : Sta M w0 w' (l.set i ⟨b, cs', T⟩) os rs := by
  have hmem : (⟨b, cs, T⟩ : Bk) ∈ l := List.mem_of_getElem? hl
  have hex : exB (l.set i ⟨b, cs', T⟩) os = exB l os := by
    simp only [exB, List.map_set]
    congr 1
    have hi := (List.getElem?_eq_some_iff.1 hl).1
    apply List.ext_getElem?
    intro j
    rw [List.getElem?_set]
    split
    · rename_i hij
      subst hij
      simp [hi]
      have := (List.getElem?_eq_some_iff.1 hl).2
      rw [this]
    · rfl
  have hbe : some b ∈ exB l os := by simp only [exB, List.mem_append, List.mem_map]; exact .inl ⟨_, hmem, rfl⟩
  refine ⟨?_, ?_, ?_, by rw [hex]; exact h.dis, ?_, ?_⟩
  · refine ⟨hg.os.trans h.upd.os, hg.tape.trans h.upd.tape, hg.output.trans h.upd.output, Nat.le_trans h.upd.size hg.size, fun k hk hM => ?_⟩
    refine (hg.block k (Nat.lt_of_lt_of_le hk h.upd.size) ?_).trans (h.upd.block k hk hM)
    intro e
    injection e with e
    rcases h.low _ hmem with hlow | hlow
    · simp only at hlow; omega
    · exact hM (e ▸ hlow)
  · intro x hx
    obtain ⟨j, hj, hjx⟩ := List.getElem_of_mem hx
    have hj' : (l.set i ⟨b, cs', T⟩)[j]? = some x := by rw [List.getElem?_eq_getElem hj, hjx]
    rw [List.getElem?_set] at hj'
    split at hj'
    · split at hj'
      · injection hj' with hj'; subst hj'; exact hb
      · cases hj'
    · rename_i hij
      have hxm : x ∈ l := List.mem_of_getElem? hj'
      have hx0 := h.blk x hxm
      have hne : x.b ≠ b := by
        have e1 : (exB l os)[j]? = some (some x.b) := by
          simp only [exB]
          rw [List.getElem?_append_left (by simpa using (List.getElem?_eq_some_iff.1 hj').1)]
          simp [hj']
        have e2 : (exB l os)[i]? = some (some b) := by
          simp only [exB]
          rw [List.getElem?_append_left (by simpa using (List.getElem?_eq_some_iff.1 hl).1)]
          simp [hl]
        exact apart_ne h.dis e1 e2 (Ne.symm hij)
      rw [hg.block x.b (Array.getElem?_eq_some_iff.1 hx0).1 (by simpa using hne)]
      exact hx0
  · intro o ho
    obtain ⟨n, hn⟩ := h.own o ho
    refine ⟨n, hn.kept hg ?_⟩
    cases hv : o.v.ownBlock with
    | none => exact .inl rfl
    | some g =>
      refine .inr fun e => ?_
      injection e with e
      obtain ⟨j, hj, hjo⟩ := List.getElem_of_mem ho
      have e1 : (exB l os)[l.length + j]? = some (some g) := by
        simp only [exB]
        rw [List.getElem?_append_right (by simp)]
        simp [List.getElem?_eq_getElem hj, hjo, hv]
      have hi := (List.getElem?_eq_some_iff.1 hl).1
      have e2 : (exB l os)[i]? = some (some b) := by
        simp only [exB]
        rw [List.getElem?_append_left (by simpa using hi)]
        simp [hl]
      exact apart_ne h.dis e1 e2 (by omega) e
  · intro x hx
    rcases List.mem_or_eq_of_mem_set hx with hx | rfl
    · exact h.low x hx
    · exact h.low (⟨b, cs, T⟩ : Bk) hmem
  · intro r hr
    rw [show foot (l.set i ⟨b, cs', T⟩) os r.2 = foot l os r.2 from by unfold foot; rw [hex]]
    refine r.1.stable _ w w' (h.fac r hr) fun k ⟨_, hk⟩ hlt => hg.block k hlt fun e => ?_
    rw [e] at hk
    exact hk hbe

theorem grown_setCell (w : World) (a : Addr) (v : Value) : w.grownBy (w.setCell a v) (some a.block) :=
  ⟨rfl, rfl, rfl, by simp, fun k _ hk => heap_setCell_other w a k v (fun e => hk (by rw [e]))⟩
theorem grown_setRow (w : World) (g : Nat) (cs : Array Value) : w.grownBy (w.setRow g cs) (some g) :=
  ⟨rfl, rfl, rfl, by simp, fun k _ hk => setRow_other w g k cs (fun e => hk (by rw [e]))⟩

/-- Facts and blocks that are no longer wanted may be dropped; those that are kept are named by their places. -/
theorem Sta.drop {M : List Nat} {w0 w : World} {l l' : List Bk} {os os' : List Ow} {rs rs' : List (Fact × (Nat → Prop))} (h : Sta M w0 w l os rs)
    (hl : l'.Sublist l) (ho : os'.Sublist os) (hr : ∀ r ∈ rs', r ∈ rs) : Sta M w0 w l' os' rs' := by
  have hex : (exB l' os').Sublist (exB l os) := (hl.map _).append (ho.map _)
  refine ⟨h.upd, fun x hx => h.blk x (hl.subset hx), fun o ho' => h.own o (ho.subset ho'), h.dis.sublist hex, fun x hx => h.low x (hl.subset hx), fun r hr' => ?_⟩
  exact r.1.mono _ _ w (fun k ⟨hS, hk⟩ _ => ⟨hS, fun hm => hk (hex.subset hm)⟩) (h.fac r (hr r hr'))
theorem Sta.addFact {M : List Nat} {w0 w : World} {l : List Bk} {os : List Ow} {rs : List (Fact × (Nat → Prop))} (h : Sta M w0 w l os rs) (r : Fact × (Nat → Prop)) (hr : r.1.P (foot l os r.2) w) : Sta M w0 w l os (r :: rs) :=
  ⟨h.upd, h.blk, h.own, h.dis, h.low, fun x hx => by
    rcases List.mem_cons.1 hx with rfl | hx
    · exact hr
    · exact h.fac x hx⟩

/-! ### the judgement -/
structure Cx where
  n : Nat
  M : List Nat
  w0 : World
abbrev Rs := List (Fact × (Nat → Prop))
def NX (Φ : Act → World → Prop) (c : Cx) (L : LL) (l : List Bk) (os : List Ow) (rs : Rs) : Prop :=
  ∀ t w, Fr c.n t L → Sta c.M c.w0 w l os rs → Φ ⟨t, []⟩ w

section
variable {Φ Φ' : Act → World → Prop} {c : Cx} {L : LL} {l : List Bk} {os : List Ow} {rs : Rs} {P : Program} {Q : Exit → Act → World → Prop}
theorem NX.imp (h : NX Φ' c L l os rs) (hi : ∀ a w, Φ' a w → Φ a w) : NX Φ c L l os rs := fun t w hF hS => hi _ _ (h t w hF hS)
theorem nx_sel (ks : List Nat) (L' : LL) (e : sel L ks = L') (h : NX Φ c L' l os rs) : NX Φ c L l os rs := fun t w hF hS => h t w (e ▸ hF.sel ks) hS
theorem nx_drop {l' : List Bk} {os' : List Ow} {rs' : Rs} (hl : l'.Sublist l) (ho : os'.Sublist os) (hr : ∀ r ∈ rs', r ∈ rs) (h : NX Φ c L l' os' rs') : NX Φ c L l os rs :=
  fun t w hF hS => h t w hF (hS.drop hl ho hr)
theorem nx_wp {C : Code} {t : Array Value} {w : World} (hF : Fr c.n t L) (hS : Sta c.M c.w0 w l os rs) (h : NX (C.wp P Q) c L l os rs) : C.wp P Q ⟨t, []⟩ w := h t w hF hS

/-! ### control -/
theorem nx_seq {x y : Code} (h : NX (x.wp P (Exit.then (y.wp P Q) Q)) c L l os rs) : NX ((Code.seq x y).wp P Q) c L l os rs := h.imp fun _ _ => wp_seq
theorem nx_skip (h : NX (Q .normal) c L l os rs) : NX (Code.skip.wp P Q) c L l os rs := h.imp fun _ _ => wp_skip
theorem nx_ret (h : NX (Q .ret) c L l os rs) : NX (Code.ret.wp P Q) c L l os rs := h.imp fun _ _ => wp_ret
theorem nx_exit {i : Nat} (h : NX (Q (.exit i)) c L l os rs) : NX ((Code.exit i).wp P Q) c L l os rs := h.imp fun _ _ => wp_exit
theorem nx_block {i : Nat} {x : Code} (h : NX (x.wp P (Exit.inBlock i Q)) c L l os rs) : NX ((Code.block i x).wp P Q) c L l os rs := h.imp fun _ _ => wp_block
theorem nx_region {i : Nat} {os' : List Oper} (h : NX (wpList P os'.toArray Q os') c L l os rs) : NX ((Code.region i os'.toArray false).wp P Q) c L l os rs := h.imp fun _ _ => wp_region_lit
theorem nx_nil {ops : Array Oper} (h : NX (Q .normal) c L l os rs) : NX (wpList P ops Q []) c L l os rs := h
theorem nx_then {K : Act → World → Prop} (h : NX K c L l os rs) : NX (Exit.then K Q .normal) c L l os rs := h
theorem nx_then_ret {K : Act → World → Prop} (h : NX (Q .ret) c L l os rs) : NX (Exit.then K Q .ret) c L l os rs := h
theorem nx_then_exit {K : Act → World → Prop} {i : Nat} (h : NX (Q (.exit i)) c L l os rs) : NX (Exit.then K Q (.exit i)) c L l os rs := h
theorem nx_in {i : Nat} (h : NX (Q .normal) c L l os rs) : NX (Exit.inBlock i Q .normal) c L l os rs := h
theorem nx_in_ret {i : Nat} (h : NX (Q .ret) c L l os rs) : NX (Exit.inBlock i Q .ret) c L l os rs := h
theorem nx_in_exit {i : Nat} (h : NX (Q .normal) c L l os rs) : NX (Exit.inBlock i Q (.exit i)) c L l os rs := h.imp fun _ _ h => by simp only [Exit.inBlock, if_true]; exact h
theorem nx_in_past {i j : Nat} (hij : (j == i) = false) (h : NX (Q (.exit j)) c L l os rs) : NX (Exit.inBlock i Q (.exit j)) c L l os rs := h.imp fun _ _ h => by
  have : j ≠ i := by simpa using hij
  simp only [Exit.inBlock, this, if_false]; exact h
theorem nx_cond {x : Operand} {C D : Code} {b : Bool} (hx : ev L x = .bool b) (ht : b = true → NX (C.wp P Q) c L l os rs) (hf : b = false → NX (D.wp P Q) c L l os rs) : NX ((Code.cond x C D).wp P Q) c L l os rs := by
  intro t w hF hS
  have hh : has L x = true := by
    cases x with
    | tmp i => simp only [has]; simp only [ev] at hx; split at hx <;> simp_all [undef]
    | _ => rfl
  refine wp_cond_split (t := b) ?_ (fun h => ht h t w hF hS) (fun h => hf h t w hF hS)
  rw [hF.eval hh, hx]
/-- Where ways meet: J. -/
def Meet (J : Array Value → World → Prop) (a : Act) (w : World) : Prop := a.defers = [] ∧ J a.tmps w
def Again (J : Nat → Array Value → World → Prop) (k : Nat) (a : Act) (w : World) : Prop := a.defers = [] ∧ ∃ k', k' < k ∧ J k' a.tmps w
theorem nx_join {x y : Code} (J : Array Value → World → Prop) (hy : ∀ t w, J t w → y.wp P Q ⟨t, []⟩ w)
    (hx : NX (x.wp P (Exit.then (Meet J) Q)) c L l os rs) : NX ((Code.seq x y).wp P Q) c L l os rs := fun t w hF hS =>
  wp_seq (Code.wp_mono (fun e a w h => by
    cases e <;> try exact h
    obtain ⟨tm, ds⟩ := a
    obtain ⟨rfl, h⟩ := h
    exact hy _ _ h) (hx t w hF hS))
theorem nx_meet {J : Array Value → World → Prop} (h : ∀ t w, Fr c.n t L → Sta c.M c.w0 w l os rs → J t w) : NX (Exit.then (Meet J) Q .normal) c L l os rs :=
  fun t w hF hS => ⟨rfl, h t w hF hS⟩
theorem wp_loop_down {C : Code} (I : Nat → Act → World → Prop) : ∀ (k : Nat) (a : Act) (w : World), I k a w →
    (∀ k a w, I k a w → C.wp P (Exit.then (fun a' w' => ∃ k', k' < k ∧ I k' a' w') Q) a w) → (Code.loop C).wp P Q a w := by
  intro k a w h0 round b kk cs
  have key : ∀ n a w, I n a w → ∃ e a' w', Q e a' w' ∧ Arrives P (lone (b.at a (.code C :: .inLoop C :: kk)) cs w) b kk cs e a' w' := by
    intro n
    induction n using Nat.strongRecOn with
    | _ n ih =>
      intro a w hI
      obtain ⟨e, a₁, w₁, hq, harr⟩ := round n a w hI b (.inLoop C :: kk) cs
      cases e with
      | normal =>
        obtain ⟨k', hlt, hI₁⟩ := hq
        obtain ⟨e₂, a₂, w₂, hq₂, harr₂⟩ := ih k' hlt a₁ w₁ hI₁
        exact ⟨e₂, a₂, w₂, hq₂, .of_steps (Steps.trans harr (.one step_inLoop)) harr₂⟩
      | exit id => exact ⟨_, a₁, w₁, hq, .pass (x := .inLoop C) rfl (fun _ _ => .inl (by simp)) harr⟩
      | goto l => exact ⟨_, a₁, w₁, hq, .pass (x := .inLoop C) rfl (fun _ _ => .inl (by simp)) harr⟩
      | ret => exact ⟨_, a₁, w₁, hq, .pass (x := .inLoop C) rfl (fun _ _ => .inl (by simp)) harr⟩
      | panic ch => exact ⟨_, a₁, w₁, hq, .pass (x := .inLoop C) rfl (fun _ _ => .inl (by simp)) harr⟩
      | outgrown => exact ⟨_, a₁, w₁, hq, .pass (x := .inLoop C) rfl (fun _ _ => .inl (by simp)) harr⟩
  obtain ⟨e, a', w', hq, harr⟩ := key _ a w h0
  exact ⟨e, a', w', hq, .of_steps (.one step_loop) harr⟩
/-- a loop, round by round: at most so many -/
def wpR (P : Program) (C : Code) (Q : Exit → Act → World → Prop) : Nat → Act → World → Prop
  | 0 => fun _ _ => False
  | n + 1 => C.wp P (Exit.then (wpR P C Q n) Q)
theorem wp_of_rounds {C : Code} (n : Nat) (a : Act) (w : World) (h : wpR P C Q n a w) : (Code.loop C).wp P Q a w :=
  wp_loop_down (I := wpR P C Q) n a w h fun k a w hk => by
    cases k with
    | zero => exact hk.elim
    | succ k => exact Code.wp_mono (fun e a w h => by cases e <;> first | exact ⟨k, Nat.lt_succ_self k, h⟩ | exact h) hk
theorem nx_unroll {C : Code} (n : Nat) (h : NX (wpR P C Q n) c L l os rs) : NX ((Code.loop C).wp P Q) c L l os rs := h.imp fun _ _ => wp_of_rounds n _ _
theorem nx_round {C : Code} {n : Nat} (h : NX (C.wp P (Exit.then (wpR P C Q n) Q)) c L l os rs) : NX (wpR P C Q (n + 1)) c L l os rs := h
/-- A loop: J k says what holds at its head with k rounds left. -/
theorem nx_loop {C : Code} (J : Nat → Array Value → World → Prop) (k : Nat) (h0 : ∀ t w, Fr c.n t L → Sta c.M c.w0 w l os rs → J k t w)
    (hr : ∀ k t w, J k t w → C.wp P (Exit.then (Again J k) Q) ⟨t, []⟩ w) : NX ((Code.loop C).wp P Q) c L l os rs := fun t w hF hS => by
  refine wp_loop_down (I := fun k a w => a.defers = [] ∧ J k a.tmps w) k ⟨t, []⟩ w ⟨rfl, h0 t w hF hS⟩ ?_
  rintro k ⟨tm, ds⟩ w ⟨rfl, hJ⟩
  refine Code.wp_mono (fun e a w h => ?_) (hr k tm w hJ)
  cases e <;> try exact h
  obtain ⟨hd, k', hk, hJ'⟩ := h
  exact ⟨k', hk, hd, hJ'⟩
theorem nx_again {J : Nat → Array Value → World → Prop} {k : Nat} (k' : Nat) (hk : k' < k) (h : ∀ t w, Fr c.n t L → Sta c.M c.w0 w l os rs → J k' t w) :
    NX (Exit.then (Again J k) Q .normal) c L l os rs :=
  fun t w hF hS => ⟨rfl, k', hk, h t w hF hS⟩

/-! ### operations that look at no memory: as many as wanted at once -/
def pv (P : Program) : Sem Next → Option Value
  | .pure (.value v) => some v
  | .pure .skip => some undef
  | .program k => pv P (k P)
  | .mark _ k => pv P k
  | _ => none
theorem pv_run (P : Program) (s : Sem Next) (v : Value) (h : pv P s = some v) (w : World) : s.run P w = .ok (.value v) w ∨ (s.run P w = .ok .skip w ∧ v = undef) := by
  induction s with
  | pure a =>
    cases a <;> simp only [pv] at h <;> try (cases h; done)
    · injection h with h; subst h; exact .inl rfl
    · injection h with h; subst h; exact .inr ⟨rfl, rfl⟩
  | program k ih => exact ih P (by simpa [pv] using h)
  | mark m k ih => simp only [Sem.run]; exact ih (by simpa [pv] using h)
  | _ => simp [pv] at h
def noSelect : Op → Bool
  | .select .. => false
  | _ => true
def wantedL (ops : Array Oper) (L : LL) (o : Oper) : Option Bool :=
  match o.guard with
  | none => some true
  | some (j, want) =>
    match (ops[j]?).bind (·.dst) with
    | some d => match look L d with | some (.bool b) => some (b == want) | some (.tuple _) => some false | _ => none
    | none => none
def hasAll (L : LL) : List Operand → Bool
  | [] => true
  | x :: r => cond (has L x) (hasAll L r) false
def pvL (P : Program) (L : LL) (o : Oper) : Option Value := cond (noSelect o.op) (cond (hasAll L o.op.operands.toList) (pv P (execOp (ev L) o)) none) none
def runP (P : Program) (ops : Array Oper) (n : Nat) : Nat → List Oper → LL → Option LL
  | 0, _, L => some L
  | _ + 1, [], L => some L
  | k + 1, o :: rest, L =>
    match wantedL ops L o with
    | some true => match pvL P L o with
      | some v => cond (dstOk n o.dst) (runP P ops n k rest (updO L o.dst v)) none
      | none => none
    | some false => cond (dstOk n o.dst) (runP P ops n k rest (updO L o.dst undef)) none
    | none => none
theorem hasAll_spec {L : LL} : ∀ {xs : List Operand}, hasAll L xs = true → ∀ x ∈ xs, has L x = true
  | [], _, x, hx => by cases hx
  | y :: r, h, x, hx => by
    simp only [hasAll] at h
    cases hy : has L y with
    | false => rw [hy] at h; cases h
    | true =>
      rw [hy] at h
      rcases List.mem_cons.1 hx with rfl | hx
      · exact hy
      · exact hasAll_spec (by simpa using h) x hx
theorem wantedL_spec {ops : Array Oper} {o : Oper} {n : Nat} {t : Array Value} {b : Bool} (hF : Fr n t L) (h : wantedL ops L o = some b) : Region.wanted o (yielded ops t) = b := by
  unfold wantedL at h
  unfold Region.wanted
  split at h
  · rename_i hg; simp only [hg]; injection h
  · rename_i j want hg
    simp only [hg]
    split at h
    · rename_i d hd
      split at h
      · rename_i b' hb
        injection h with h
        subst h
        have ht := hF.2 d _ hb
        have hy : yielded ops t j = some b' := by unfold yielded; rw [hd]; simp [ht]
        rw [hy]
        cases b' <;> cases want <;> rfl
      · rename_i x hb
        injection h with h
        subst h
        have ht := hF.2 d _ hb
        have hy : yielded ops t j = none := by unfold yielded; rw [hd]; simp [ht]
        rw [hy]
        cases want <;> rfl
      · cases h
    · cases h
theorem pvL_spec {o : Oper} {n : Nat} {t : Array Value} {v : Value} (hF : Fr n t L) (h : pvL P L o = some v) (w : World) :
    (execOp (Act.eval ⟨t, []⟩) o).run P w = .ok (.value v) w ∨ ((execOp (Act.eval ⟨t, []⟩) o).run P w = .ok .skip w ∧ v = undef) := by
  unfold pvL at h
  cases hn : noSelect o.op with
  | false => rw [hn] at h; cases h
  | true =>
    rw [hn] at h
    cases hh : hasAll L o.op.operands.toList with
    | false => rw [hh] at h; cases h
    | true =>
      rw [hh] at h
      have he : execOp (Act.eval ⟨t, []⟩) o = execOp (ev L) o := execOp_congr o (fun cs b e => by rw [e] at hn; cases hn)
        fun x hx => hF.eval (hasAll_spec hh x (by simpa using hx))
      rw [he]
      exact pv_run P _ v h w
theorem nx_runP {ops : Array Oper} : ∀ (k : Nat) (lo : List Oper) (L L' : LL), runP P ops c.n k lo L = some L' → NX (wpList P ops Q (lo.drop k)) c L' l os rs → NX (wpList P ops Q lo) c L l os rs
  | 0, lo, L, L', h, hk => by simp only [runP] at h; injection h with h; subst h; exact hk
  | k + 1, [], L, L', h, hk => by simp only [runP] at h; injection h with h; subst h; exact hk
  | k + 1, o :: rest, L, L', h, hk => by
    intro t w hF hS
    simp only [runP] at h
    split at h
    · rename_i hw
      split at h
      · rename_i v hv
        cases hd : dstOk c.n o.dst with
        | false => rw [hd] at h; cases h
        | true =>
          rw [hd] at h
          obtain ⟨t', ht', hF'⟩ := hF.put hd v
          have hn := nx_runP k rest _ L' h (by simpa using hk) t' w hF' hS
          rw [← ht'] at hn
          show (if Region.wanted o (yielded ops t) then _ else _)
          rw [wantedL_spec hF hw]
          refine .inl ?_
          unfold Oper.wp
          rcases pvL_spec (P := P) hF hv w with hr | ⟨hr, rfl⟩
          · rw [hr]; exact hn
          · rw [hr]; exact hn
      · cases h
    · rename_i hw
      cases hd : dstOk c.n o.dst with
      | false => rw [hd] at h; cases h
      | true =>
        rw [hd] at h
        obtain ⟨t', ht', hF'⟩ := hF.put hd undef
        have hn := nx_runP k rest _ L' h (by simpa using hk) t' w hF' hS
        rw [← ht'] at hn
        show (if Region.wanted o (yielded ops t) then _ else _)
        rw [wantedL_spec hF hw]
        exact hn
    · cases h
/-- k operations that look at no memory; of the temporaries those in 'ks' are kept. -/
theorem nx_run {ops : Array Oper} {lo : List Oper} (k : Nat) (ks : List Nat) (L' : LL) (h : (runP P ops c.n k lo L).map (sel · ks) = some L') (hk : NX (wpList P ops Q (lo.drop k)) c L' l os rs) : NX (wpList P ops Q lo) c L l os rs := by
  cases hr : runP P ops c.n k lo L with
  | none => rw [hr] at h; cases h
  | some L1 =>
    rw [hr] at h
    injection h with h
    exact nx_runP k lo L L1 hr (nx_sel ks L' h hk)
/-- One operation by its own law. -/
theorem nx_op {ops : Array Oper} {o : Oper} {rest : List Oper} (hw : wantedL ops L o = some true) (h : NX (fun a w => o.wp P a w (wpList P ops Q rest) Q) c L l os rs) : NX (wpList P ops Q (o :: rest)) c L l os rs := by
  intro t w hF hS
  show (if Region.wanted o (yielded ops t) then _ else _)
  rw [wantedL_spec hF hw]
  exact .inl (h t w hF hS)
end
end Go.Cal
