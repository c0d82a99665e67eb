/-
  The calculus, fourth part: regions that leave their order open.
-/
import Derived.Test.YtcjampbgjjhckaaK2
namespace Go.Cal
open Go Go.RowKit

def keepL {α : Type} : List Bool → List α → List α
  | true :: m, x :: r => x :: keepL m r
  | false :: m, _ :: r => keepL m r
  | _, _ => []
theorem keepL_sub {α : Type} : ∀ (m : List Bool) (l : List α), (keepL m l).Sublist l
  | [], l => by simp [keepL]
  | true :: m, [] => by simp [keepL]
  | false :: m, [] => by simp [keepL]
  | true :: m, x :: r => by simp only [keepL]; exact (keepL_sub m r).cons_cons x
  | false :: m, x :: r => by simp only [keepL]; exact (keepL_sub m r).cons x
def QP (Q : Exit → Act → World → Prop) : Prop := ∀ ch a d v w, Q (.panic ch) (Act.put a d v) w → Q (.panic ch) a w
theorem put_defers (a : Act) (d : Option Tmp) (v : Value) : (Act.put a d v).defers = a.defers := by cases d <;> rfl
theorem qp_body {P : Program} {fn : Func} {R : Ending → World → Prop} : QP (bodyPost P fn R) := fun ch a d v w h => by
  simp only [bodyPost, put_defers] at h ⊢; exact h
theorem qp_then {K : Act → World → Prop} {Q : Exit → Act → World → Prop} (h : QP Q) : QP (Exit.then K Q) := fun ch a d v w hh => h ch a d v w hh
theorem qp_in {i : Nat} {Q : Exit → Act → World → Prop} (h : QP Q) : QP (Exit.inBlock i Q) := fun ch a d v w hh => h ch a d v w hh

def takeB (ops : Array Oper) (listed : Array Bool) (i : Nat) : Bool := Region.noSelect ops && Region.free .any ops listed i && (Region.ready .any ops listed).contains i
def pvV (P : Program) : Sem Next → Option Value
  | .pure (.value v) => some v
  | .program k => pvV P (k P)
  | .mark _ k => pvV P k
  | _ => none
theorem pvV_run (P : Program) (s : Sem Next) (v : Value) (h : pvV P s = some v) (w : World) : s.run P w = .ok (.value v) w := by
  induction s with
  | pure a =>
    cases a <;> simp only [pvV] at h <;> try (cases h; done)
    injection h with h; subst h; rfl
  | program k ih => exact ih P (by simpa [pvV] using h)
  | mark m k ih => simp only [Sem.run]; exact ih (by simpa [pvV] using h)
  | _ => simp [pvV] at h
def pvLV (P : Program) (L : LL) (o : Oper) : Option Value := cond (noSelect o.op) (cond (hasAll L o.op.operands.toList) (pvV P (execOp (ev L) o)) none) none
def isLoad : Op → Bool
  | .load .. => true
  | _ => false
structure Dt where
  L : LL
  listed : Array Bool
  ob : Prop
/-- take the operations named, one behind the other: those that look at no memory; loads (the second number: which block); those whose guard says no -/
def dRun (P : Program) (ops : Array Oper) (n : Nat) (l0 : List Bk) : List (Nat × Nat) → LL → Array Bool → Prop → Option Dt
  | [], L, listed, ob => some ⟨L, listed, ob⟩
  | (i, h) :: r, L, listed, ob =>
    match ops[i]? with
    | none => none
    | some o => cond (takeB ops listed i) (cond (dstOk n o.dst)
      (match wantedL ops L o with
      | some true => cond (isLoad o.op)
        (match memOp P L l0 h o.op with
        | some (v, _, p) => dRun P ops n l0 r (updO L o.dst v) (listed.setIfInBounds i true) (p ∧ ob)
        | none => none)
        (match pvLV P L o with
        | some v => dRun P ops n l0 r (updO L o.dst v) (listed.setIfInBounds i true) ob
        | none => none)
      | some false => dRun P ops n l0 r (updO L o.dst undef) (listed.setIfInBounds i true) ob
      | none => none) none) none

section
variable {c : Cx} {L : LL} {l l0 : List Bk} {os os0 : List Ow} {rs rs0 : Rs} {P : Program} {Q : Exit → Act → World → Prop} {ops : Array Oper} {fuel : Nat} {listed : Array Bool}
abbrev SS (c : Cx) (l0 : List Bk) (os0 : List Ow) (rs0 : Rs) : World → Prop := fun w => Sta c.M c.w0 w l0 os0 rs0
/-- the judgement inside such a region -/
abbrev NH (P : Program) (ops : Array Oper) (Q : Exit → Act → World → Prop) (l0 : List Bk) (os0 : List Ow) (rs0 : Rs) (fuel : Nat) (listed : Array Bool) (c : Cx) (L : LL) (l : List Bk) (os : List Ow) (rs : Rs) : Prop :=
  NX (fun a w => SS c l0 os0 rs0 w ∧ wpAnyH P .any ops Q (SS c l0 os0 rs0) fuel listed a w) c L l os rs
/-- inside, where the class of worlds is known to hold -/
abbrev NI (P : Program) (ops : Array Oper) (Q : Exit → Act → World → Prop) (l0 : List Bk) (os0 : List Ow) (rs0 : Rs) (fuel : Nat) (listed : Array Bool) (c : Cx) (L : LL) (l : List Bk) (os : List Ow) (rs : Rs) : Prop :=
  NX (fun a w => SS c l0 os0 rs0 w → wpAnyH P .any ops Q (SS c l0 os0 rs0) fuel listed a w) c L l os rs
theorem keep_drop (ml mo mr : List Bool) (el : keepL ml l = l0) (eo : keepL mo os = os0) (er : keepL mr rs = rs0) {w : World} (h : Sta c.M c.w0 w l os rs) : SS c l0 os0 rs0 w := by
  subst el eo er
  exact h.drop (keepL_sub _ _) (keepL_sub _ _) (fun r hr => (keepL_sub _ _).subset hr)
theorem d_start {lo : List Oper} {i : Nat} (hm : P.follows .mixedOrders = true) (ml mo mr : List Bool) (el : keepL ml l = l0) (eo : keepL mo os = os0) (er : keepL mr rs = rs0)
    (h : NI P lo.toArray Q l0 os0 rs0 lo.length (Array.replicate lo.length false) c L l os rs) : NX ((Code.region i lo.toArray true).wp P Q) c L l os rs := by
  intro t w hF hS
  have hS' := hS.step (grown_drew w)
  refine wp_region_held (S := SS c l0 os0 rs0) hm ?_
  have := h t w.drew hF hS' (keep_drop ml mo mr el eo er hS')
  simpa using this
theorem d_next (ml mo mr : List Bool) (el : keepL ml l = l0) (eo : keepL mo os = os0) (er : keepL mr rs = rs0) (h : NI P ops Q l0 os0 rs0 fuel listed c L l os rs) : NH P ops Q l0 os0 rs0 fuel listed c L l os rs :=
  fun t w hF hS => ⟨keep_drop ml mo mr el eo er hS, h t w hF hS (keep_drop ml mo mr el eo er hS)⟩
theorem take_one {o : Oper} {v : Value} {i : Nat} (hi : ops[i]? = some o) (ht : takeB ops listed i = true) (hQ : QP Q) (hd : dstOk c.n o.dst = true) {t : Array Value} {w : World} (hF : Fr c.n t L)
    (hy : YieldsIf P ops (SS c l0 os0 rs0) o v ⟨t, []⟩) (hSS : SS c l0 os0 rs0 w)
    (h : ∀ t', Fr c.n t' (updO L o.dst v) → wpAnyH P .any ops Q (SS c l0 os0 rs0) fuel (listed.setIfInBounds i true) ⟨t', []⟩ w) : wpAnyH P .any ops Q (SS c l0 os0 rs0) (fuel + 1) listed ⟨t, []⟩ w := by
  unfold takeB at ht
  simp only [Bool.and_eq_true] at ht
  obtain ⟨t', ht', hF'⟩ := hF.put hd v
  exact wpAnyH_take hi ht.1.1 ht.1.2 ht.2 (fun ch a w hh => hQ ch a _ _ w hh) hy hSS (by rw [ht']; exact h t' hF')
theorem dRun_spec (hQ : QP Q) : ∀ (is : List (Nat × Nat)) (L : LL) (listed : Array Bool) (ob : Prop) (d : Dt), dRun P ops c.n l0 is L listed ob = some d → (d.ob → ob) ∧
    (d.ob → NI P ops Q l0 os0 rs0 fuel d.listed c d.L l os rs → NI P ops Q l0 os0 rs0 (fuel + is.length) listed c L l os rs)
  | [], L, listed, ob, d, h => by simp only [dRun] at h; injection h with h; subst h; exact ⟨id, fun _ h => h⟩
  | (i, hn) :: r, L, listed, ob, d, h => by
    simp only [dRun] at h
    split at h <;> try (cases h; done)
    rename_i o hi
    cases ht : takeB ops listed i with
    | false => rw [ht] at h; cases h
    | true =>
      rw [ht] at h
      cases hd : dstOk c.n o.dst with
      | false => rw [hd] at h; cases h
      | true =>
        rw [hd] at h
        simp only [cond_true] at h
        split at h <;> try (cases h; done)
        · rename_i hw
          cases hl : isLoad o.op with
          | true =>
            rw [hl] at h
            simp only [cond_true] at h
            split at h <;> try (cases h; done)
            rename_i v l' p hmem
            have ih := dRun_spec hQ r _ _ _ d h
            refine ⟨fun hob => (ih.1 hob).2, fun hob hk t w hF hS hSS => ?_⟩
            refine take_one (fuel := fuel + r.length) hi ht hQ hd hF (.inl ⟨wantedL_spec hF hw, fun w1 hS1 => ?_⟩) hSS fun t' hF' => ih.2 hob hk t' w hF' hS hSS
            obtain ⟨w', hr, _, _⟩ := memOp_spec (o := o) hmem (ih.1 hob).1 hF hS1
            have hw' : w' = w1 := by
              cases hop : o.op with
              | load T x =>
                rw [hop] at hmem
                have h3 := memOp_load (o := o) hop hmem (ih.1 hob).1 hF hS1
                rcases hr with hr | ⟨hr, _⟩
                · rw [h3] at hr; injection hr with _ hr; exact hr.symm
                · rw [h3] at hr; injection hr with hr; cases hr
              | _ => rw [hop] at hl; cases hl
            subst hw'
            rcases hr with hr | ⟨hr, rfl⟩
            · exact hr
            · cases hop : o.op with
              | load T x =>
                rw [hop] at hmem
                have h3 := memOp_load (o := o) hop hmem (ih.1 hob).1 hF hS1
                exact h3
              | _ => rw [hop] at hl; cases hl
          | false =>
            rw [hl] at h
            simp only [cond_false] at h
            split at h <;> try (cases h; done)
            rename_i v hv
            have ih := dRun_spec hQ r _ _ _ d h
            refine ⟨ih.1, fun hob hk t w hF hS hSS => ?_⟩
            refine take_one (fuel := fuel + r.length) hi ht hQ hd hF (.inl ⟨wantedL_spec hF hw, fun w1 hS1 => ?_⟩) hSS fun t' hF' => ih.2 hob hk t' w hF' hS hSS
            unfold pvLV at hv
            cases hn' : noSelect o.op with
            | false => rw [hn'] at hv; cases hv
            | true =>
              rw [hn'] at hv
              cases hh : hasAll L o.op.operands.toList with
              | false => rw [hh] at hv; cases hv
              | true =>
                rw [hh] at hv
                have he : execOp (Act.eval ⟨t, []⟩) o = execOp (ev L) o := execOp_congr o (fun cs b e => by rw [e] at hn'; cases hn')
                  fun x hx => hF.eval (hasAll_spec hh x (by simpa using hx))
                rw [he]
                exact pvV_run P _ v hv w1
        · rename_i hw
          have ih := dRun_spec hQ r _ _ _ d h
          refine ⟨ih.1, fun hob hk t w hF hS hSS => ?_⟩
          exact take_one (fuel := fuel + r.length) hi ht hQ hd hF (.inr ⟨wantedL_spec hF hw, rfl⟩) hSS fun t' hF' => ih.2 hob hk t' w hF' hS hSS
/-- many operations are taken first -/
theorem d_run (hQ : QP Q) (is : List (Nat × Nat)) (ks : List Nat) (L' : LL) (listed' : Array Bool) (ob : Prop) (fuel' : Nat) (hf : fuel = fuel' + is.length)
    (h : (dRun P ops c.n l0 is L listed True).map (fun d => (⟨sel d.L ks, d.listed, d.ob⟩ : Dt)) = some ⟨L', listed', ob⟩) (hob : ob)
    (hk : NI P ops Q l0 os0 rs0 fuel' listed' c L' l os rs) : NI P ops Q l0 os0 rs0 fuel listed c L l os rs := by
  cases hr : dRun P ops c.n l0 is L listed True with
  | none => rw [hr] at h; cases h
  | some d =>
    rw [hr] at h
    injection h with h
    injection h with h1 h2 h3
    subst h1 h2 h3 hf
    exact (dRun_spec hQ is L listed True d hr).2 hob (nx_sel ks _ rfl hk)
/-- one operation is taken first by its run -/
theorem d_take (hQ : QP Q) {o : Oper} {v : Value} (i : Nat) (hi : ops[i]? = some o) (ht : takeB ops listed i = true) (hd : dstOk c.n o.dst = true) (hw : wantedL ops L o = some true) (hv : RV P o c L l0 os0 rs0 v)
    (hk : NI P ops Q l0 os0 rs0 fuel (listed.setIfInBounds i true) c (updO L o.dst v) l os rs) : NI P ops Q l0 os0 rs0 (fuel + 1) listed c L l os rs := fun t w hF hS hSS =>
  take_one hi ht hQ hd hF (.inl ⟨wantedL_spec hF hw, fun w1 hS1 => hv t w1 hF hS1⟩) hSS fun t' hF' => hk t' w hF' hS hSS
/-- the one operation that may come up -/
theorem d_force {o : Oper} (i : Nat) (hr : Region.ready .any ops listed = [i]) (hi : ops[i]? = some o) (hw : wantedL ops L o = some true)
    (h : NX (fun a w => o.wp P a w (fun a' w' => SS c l0 os0 rs0 w' ∧ wpAnyH P .any ops Q (SS c l0 os0 rs0) fuel (listed.setIfInBounds i true) a' w') Q) c L l os rs) : NI P ops Q l0 os0 rs0 (fuel + 1) listed c L l os rs :=
  fun t w hF hS _ => wpAnyH_all hr (by simp) fun j hj => by
    have : j = i := by simpa using hj
    subst this
    unfold wpOp
    simp only [hi]
    rw [wantedL_spec hF hw]
    exact .inl (h t w hF hS)
/-- either of two -/
theorem d_fork {o o2 : Oper} (i j : Nat) (hr : Region.ready .any ops listed = [i, j]) (hi : ops[i]? = some o) (hj : ops[j]? = some o2) (hw : wantedL ops L o = some true) (hw2 : wantedL ops L o2 = some true)
    (h : NX (fun a w => o.wp P a w (fun a' w' => SS c l0 os0 rs0 w' ∧ wpAnyH P .any ops Q (SS c l0 os0 rs0) fuel (listed.setIfInBounds i true) a' w') Q) c L l os rs)
    (h2 : NX (fun a w => o2.wp P a w (fun a' w' => SS c l0 os0 rs0 w' ∧ wpAnyH P .any ops Q (SS c l0 os0 rs0) fuel (listed.setIfInBounds j true) a' w') Q) c L l os rs) : NI P ops Q l0 os0 rs0 (fuel + 1) listed c L l os rs :=
  fun t w hF hS _ => wpAnyH_all hr (by simp) fun q hq => by
    have : q = i ∨ q = j := by simpa using hq
    rcases this with rfl | rfl
    · unfold wpOp
      simp only [hi]
      rw [wantedL_spec hF hw]
      exact .inl (h t w hF hS)
    · unfold wpOp
      simp only [hj]
      rw [wantedL_spec hF hw2]
      exact .inl (h2 t w hF hS)
theorem d_done (hr : Region.ready .any ops listed = []) (h : NX (Q .normal) c L l os rs) : NI P ops Q l0 os0 rs0 fuel listed c L l os rs :=
  fun t w hF hS _ => wpAnyH_done hr (h t w hF hS) fuel
end
end Go.Cal
