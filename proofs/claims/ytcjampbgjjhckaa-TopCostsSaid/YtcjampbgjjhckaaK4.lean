/-
  The calculus, fifth part: what the generator's texts use: cases, what is dropped, calls with slices among the results, a function's end.
-/
import Derived.Test.YtcjampbgjjhckaaK3
namespace Go.Cal
open Go Go.RowKit

/-- the blocks that a function's slices may lead to: what its arguments lead to, and what it makes -/
def sa (S : Nat → Prop) (w : World) : Nat → Prop := fun k => S k ∨ w.heap.size ≤ k
def OwnsOK (b : Nat) (w : World) (os : List Ow) : Prop := (∀ o ∈ os, ∃ n, w.ownsRow b o.T 1 o.v n o.xs) ∧ Apart (os.map fun o => o.v.ownBlock)
def FactsOK (S : Nat → Prop) (w : World) (fs : List Fact) : Prop := ∀ f ∈ fs, f.P S w
theorem OwnsOK.nil (b : Nat) (w : World) : OwnsOK b w [] := ⟨fun o ho => (by cases ho), List.Pairwise.nil⟩
theorem FactsOK.nil (S : Nat → Prop) (w : World) : FactsOK S w [] := fun f hf => (by cases hf)
section
variable {Φ : Act → World → Prop} {c : Cx} {L : LL} {l : List Bk} {os : List Ow} {rs : Rs} {P : Program} {Q : Exit → Act → World → Prop}
theorem nx_keep (ml mo mr : List Bool) (h : NX Φ c L (keepL ml l) (keepL mo os) (keepL mr rs)) : NX Φ c L l os rs :=
  nx_drop (keepL_sub _ _) (keepL_sub _ _) (fun _ hr => (keepL_sub _ _).subset hr) h
theorem nx_split (b : Bool) (ht : b = true → NX Φ c L l os rs) (hf : b = false → NX Φ c L l os rs) : NX Φ c L l os rs := by
  cases hb : b
  · exact hf hb
  · exact ht hb
/-- a temporary's value by another name -/
theorem nx_put (d : Nat) {v : Value} (v' : Value) (hl : look L d = some v) (e : v = v') (h : NX Φ c (upd L d v') l os rs) : NX Φ c L l os rs := fun t w hF hS => by
  subst e
  refine h t w ⟨hF.1, fun i u hu => ?_⟩ hS
  rw [look_upd] at hu
  split at hu
  · rename_i e
    subst e
    injection hu with hu
    subst hu
    exact hF.2 _ _ hl
  · exact hF.2 i u hu
theorem own_mono {w : World} {b b' : Nat} {T : TypeId} {v : Value} {n : Nat} {xs : List Value} (h : w.ownsRow b T 1 v n xs) (hb : b' ≤ b) : w.ownsRow b' T 1 v n xs := by
  refine ⟨h.1, ?_⟩
  rcases h.2 with h2 | ⟨g, cap, cur, hv, hg, r⟩
  · exact .inl h2
  · exact .inr ⟨g, cap, cur, hv, Nat.le_trans hb hg, r⟩
/-- what a callee's slices lead to, apart from those that it hands over as owned -/
def saO (S : Nat → Prop) (w : World) (os : List Ow) : Nat → Prop := fun k => sa S w k ∧ some k ∉ os.map fun o => o.v.ownBlock
theorem Sta.callG {S : Nat → Prop} {w w' : World} (h : Sta c.M c.w0 w l os rs) (hb : Below w.heap.size w w') {os' : List Ow} {fs : List Fact} (ho : OwnsOK w.heap.size w' os') (hf : FactsOK (saO (foot l os (sa S c.w0)) w os') w' fs) :
    Sta c.M c.w0 w' l (os ++ os') (fs.map (fun f => (f, sa S c.w0)) ++ rs) := by
  have h1 := h.step (grown_of_below hb)
  have hex : exB l (os ++ os') = exB l os ++ os'.map fun o => o.v.ownBlock := by simp [exB]
  have hnew : ∀ k, some k ∈ os'.map (fun o => o.v.ownBlock) → w.heap.size ≤ k := by
    intro k hk
    obtain ⟨o, hom, he⟩ := List.mem_map.1 hk
    obtain ⟨n, hn⟩ := ho.1 o hom
    exact (hn.lt k he).1
  refine ⟨h1.upd, h1.blk, ?_, ?_, h1.low, ?_⟩
  · intro o hm
    rcases List.mem_append.1 hm with hm | hm
    · exact h1.own o hm
    · obtain ⟨n, hn⟩ := ho.1 o hm
      exact ⟨n, own_mono hn h.upd.size⟩
  · rw [hex]
    refine List.pairwise_append.2 ⟨h.dis, ho.2, fun a ha b hb' => ?_⟩
    cases a with
    | none => exact .inl rfl
    | some a =>
      refine .inr fun e => ?_
      subst e
      have h2 := mem_exB_lt h ha
      have h3 := hnew a hb'
      omega
  · intro r hr
    rcases List.mem_append.1 hr with hr | hr
    · obtain ⟨f, hfm, rfl⟩ := List.mem_map.1 hr
      refine f.mono _ _ w' (fun k hk _ => ?_) (hf f hfm)
      unfold foot
      rw [hex]
      obtain ⟨hk, hn⟩ := hk
      rcases hk with ⟨hS, hk⟩ | hk
      · exact ⟨hS, fun hm => (List.mem_append.1 hm).elim hk hn⟩
      · refine ⟨.inr (Nat.le_trans h.upd.size hk), fun hm => (List.mem_append.1 hm).elim (fun hm => ?_) hn⟩
        have := mem_exB_lt h hm
        omega
    · refine r.1.mono _ _ w' (fun k hk _ => ?_) (r.1.stable (fun k => foot l os r.2 k ∧ k < w.heap.size) w w' (r.1.mono _ _ w (fun k hk hlt => ⟨hk, hlt⟩) (h.fac r hr)) fun k ⟨_, hlt⟩ _ => hb.block k hlt)
      obtain ⟨⟨hS, hk⟩, hlt⟩ := hk
      refine ⟨hS, ?_⟩
      rw [hex]
      intro hm
      rcases List.mem_append.1 hm with hm | hm
      · exact hk hm
      · have := hnew k hm
        omega
/-- what every printed function's contract says: the value, the slices that are handed over as owned, the others -/
def Post {X : Type} (S : Nat → Prop) (w : World) (val : X → Value) (owns : X → List Ow) (facts : X → List Fact) (e : Ending) (w' : World) : Prop :=
  ∃ x, e = .returned (val x) ∧ Below w.heap.size w w' ∧ OwnsOK w.heap.size w' (owns x) ∧ FactsOK (saO S w (owns x)) w' (facts x)
theorem o_callG {next : Act → World → Prop} {d : Nat} {ty : TypeId} {f : FuncId} {xs : List Operand} {ats : Array TypeId} {pos : String} {aft : Array Edge} {g : Option (Nat × Bool)} {fn : Func} {S : Nat → Prop} {X : Type} {val : X → Value} {owns : X → List Ow} {facts : X → List Fact}
    (vs : List Value) (hd : Nat.blt d c.n = true) (hf : P.funcs[f]? = some fn) (hb : (fn.name == "runtime.NumGoroutine") = false ∧ fn.body.isNone = false) (hh : hasAll L xs = true) (hvs : evAll L xs = vs)
    (hc : ∀ w, Sta c.M c.w0 w l os rs → Calls P f vs.toArray w (Post (foot l os (sa S c.w0)) w val owns facts))
    (k : ∀ x, NX next c (upd L d (val x)) l (os ++ owns x) ((facts x).map (fun f => (f, sa S c.w0)) ++ rs)) :
    NX (fun a w => Oper.wp P ⟨some d, .call { callee := .value (.func f), args := xs.toArray, argTypes := ats }, ty, pos, aft, g⟩ a w next Q) c L l os rs :=
  o_call vs hf hb hh hvs _ hc fun _ _ hF hS _ _ ⟨x, he, hw, ho, hfa⟩ => ⟨val x, he, k x _ _ (hF.upd (Nat.le_of_ble_eq_true hd) _) (hS.callG hw ho hfa)⟩
/-- a call whose value is dropped -/
theorem o_callN {next : Act → World → Prop} {ty : TypeId} {f : FuncId} {xs : List Operand} {ats : Array TypeId} {pos : String} {aft : Array Edge} {g : Option (Nat × Bool)} {fn : Func} {S : Nat → Prop} {X : Type} {val : X → Value} {owns : X → List Ow} {facts : X → List Fact}
    (vs : List Value) (hf : P.funcs[f]? = some fn) (hb : (fn.name == "runtime.NumGoroutine") = false ∧ fn.body.isNone = false) (hh : hasAll L xs = true) (hvs : evAll L xs = vs)
    (hc : ∀ w, Sta c.M c.w0 w l os rs → Calls P f vs.toArray w (Post (foot l os (sa S c.w0)) w val owns facts))
    (k : ∀ x, NX next c L l (os ++ owns x) ((facts x).map (fun f => (f, sa S c.w0)) ++ rs)) :
    NX (fun a w => Oper.wp P ⟨none, .call { callee := .value (.func f), args := xs.toArray, argTypes := ats }, ty, pos, aft, g⟩ a w next Q) c L l os rs :=
  o_call vs hf hb hh hvs _ hc fun _ _ hF hS _ _ ⟨x, he, hw, ho, hfa⟩ => ⟨val x, he, k x _ _ hF (hS.callG hw ho hfa)⟩
/-- a fact that the caller knows, as a premise of the callee's contract -/
theorem prem {w : World} (h : Sta c.M c.w0 w l os rs) (i : Nat) {f : Fact} {S : Nat → Prop} (hi : rs[i]? = some (f, S)) : f.P (foot l os S) w := h.fac _ (List.mem_of_getElem? hi)
theorem nx_finish {fn : Func} {rv : List ResultVar} {S : Nat → Prop} {X : Type} {val : X → Value} {owns : X → List Ow} {facts : X → List Fact} {w : World} (hw : c.w0 = w) (hM : c.M = []) (vs : List Value) (hr : fn.results = rv.toArray) (h : ResOK P L l rv vs)
    (x : X) (hv : packL vs = val x) (mo mr : List Bool) (eo : keepL mo os = owns x) (er : keepL mr rs = (facts x).map (fun f => (f, sa S w))) : NX (bodyPost P fn (Post S w val owns facts) .ret) c L l os rs :=
  nx_done vs hr h fun w' hS => by
    subst hw
    have h1 := hS.drop (l' := []) (os' := owns x) (rs' := (facts x).map (fun f => (f, sa S c.w0))) (List.nil_sublist _) (eo ▸ keepL_sub _ _) (fun r hr => (keepL_sub mr rs).subset (er ▸ hr))
    have hb : Below c.w0.heap.size c.w0 w' := by
      have := hS.upd
      rw [hM] at this
      exact this.below
    refine ⟨x, by rw [hv], hb, ⟨h1.own, by have := h1.dis; simpa [exB] using this⟩, fun f hf => ?_⟩
    refine f.mono _ _ w' (fun k hk _ => ⟨hk.1, ?_⟩) (h1.fac (f, sa S c.w0) (List.mem_map.2 ⟨f, hf, rfl⟩))
    have := hk.2
    simpa [exB] using this
theorem nx_finishN {fn : Func} {rv : List ResultVar} {S : Nat → Prop} {X : Type} {val : X → Value} {owns : X → List Ow} {facts : X → List Fact} {w : World} (hw : c.w0 = w) (hM : c.M = []) (vs : List Value) (hr : fn.results = rv.toArray) (h : ResOK P L l rv vs)
    (x : X) (hv : packL vs = val x) (mo mr : List Bool) (eo : keepL mo os = owns x) (er : keepL mr rs = (facts x).map (fun f => (f, sa S w))) : NX (bodyPost P fn (Post S w val owns facts) .normal) c L l os rs :=
  nx_finish (P := P) hw hM vs hr h x hv mo mr eo er
/-- the beginning, with facts on the arguments -/
theorem Sta.begin (w : World) (S : Nat → Prop) (fs : List Fact) (h : ∀ f ∈ fs, f.P S w) : Sta [] w w [] [] (fs.map fun f => (f, sa S w)) :=
  Sta.start w _ fun r hr => by
    obtain ⟨f, hf, rfl⟩ := List.mem_map.1 hr
    exact f.mono _ _ w (fun k hk _ => .inl hk) (h f hf)
/-- nil leads nowhere -/
theorem nx_nilR {S : Nat → Prop} (h : NX Φ c L l os ((rdV none 0 [], S) :: rs)) : NX Φ c L l os rs := nx_fact (rdV none 0 [], S) (fun _ _ => .inl ⟨rfl, rfl, rfl⟩) h
theorem nx_shareO' {S : Nat → Prop} (i : Nat) {A : Option Addr} {cp : Nat} {T : TypeId} {k : IntKind} {xs : List Int} (ho : os[i]? = some (owI A cp T k xs))
    (kk : NX Φ c L l (os.eraseIdx i) ((rdI A cp k xs, sa S c.w0) :: rs)) : NX Φ c L l os rs :=
  nx_shareO i ho fun t w hF hS => kk t w hF ⟨hS.upd, hS.blk, hS.own, hS.dis, hS.low, fun r hr => by
    rcases List.mem_cons.1 hr with rfl | hr
    · exact (rdI A cp k xs).mono _ _ w (fun k hk _ => ⟨.inr hk.1, hk.2⟩) (hS.fac (rdI A cp k xs, fun k => c.w0.heap.size ≤ k) (List.mem_cons_self ..))
    · exact hS.fac r (List.mem_cons_of_mem _ hr)⟩
theorem nx_shareB' {S : Nat → Prop} (i : Nat) {b : Nat} {cs : Array Value} {T : TypeId} (hb : bkAt l i = some ⟨b, cs, T⟩) (hM : c.M = []) (j : Nat) (vs : List Value) (cp : Nat) (hv : (cs.toList.drop j).take vs.length = vs) (hc : vs.length ≤ cp)
    (k : NX Φ c L (l.eraseIdx i) os ((rdV (some ⟨b, j, none⟩) cp vs, sa S c.w0) :: rs)) : NX Φ c L l os rs :=
  nx_shareB i hb hM j vs cp hv hc fun t w hF hS => k t w hF ⟨hS.upd, hS.blk, hS.own, hS.dis, hS.low, fun r hr => by
    rcases List.mem_cons.1 hr with rfl | hr
    · exact (rdV (some ⟨b, j, none⟩) cp vs).mono _ _ w (fun k hk _ => ⟨.inr hk.1, hk.2⟩) (hS.fac (rdV (some ⟨b, j, none⟩) cp vs, fun k => c.w0.heap.size ≤ k) (List.mem_cons_self ..))
    · exact hS.fac r (List.mem_cons_of_mem _ hr)⟩
end
end Go.Cal
