/-
  The law's frame: from a walk of a law (it returns true, and nothing that was there has turned) to the row's statement; and the arguments, opened.
-/
import Derived.SizedLaws
import Derived.ProofKit
import Derived.OpenShut
import Derived.WalkKit
import Derived.ChangeSlices
import Derived.Test.YtcjampbgjjhckaaK5
namespace Go.Cal
open Go Go.ChangeShapes Go.WideShapes Go.ChangeAt Go.RowKit
section
variable {H : Type} {enc : TypeId × Value → H} {P : Program}
theorem trodAll_below (hl : laidOutB P = true) {W W' : World} (hb : Below W.heap.size W W') : ∀ (ts : List TypeId) (vs : List Value) (ds : List (DataW H)) (ps : List MemPlace),
    ts.all (fun t => P.readableRec t && decide (t < P.types.size)) = true → (∀ x ∈ ps, x.block < W.heap.size) →
    DataW.TrodAll enc P W 0 (fun _ => true) true ts vs ds ps → DataW.TrodAll enc P W' 0 (fun b => decide (b < W.heap.size)) true ts vs ds ps
  | [], vs, ds, ps, _, _, h => by
    cases vs <;> cases ds <;> simp_all [DataW.TrodAll]
  | t :: ts, vs, ds, ps, hp, hlt, h => by
    simp only [List.all_cons, Bool.and_eq_true, decide_eq_true_eq] at hp
    obtain ⟨v, vs', d, ds', p, q, rfl, rfl, rfl, h1, h2⟩ := trodAll_cons h
    exact ⟨p, q, Below.trod hl hp.1.1 hp.1.2 h1 hb (fun x hx => hlt x (List.mem_append_left _ hx)), trodAll_below hl hb ts vs' ds' q hp.2 (fun x hx => hlt x (List.mem_append_right _ hx)) h2, rfl⟩
/-- The row's step of a law: its walk gives true and lets all that was there stand. -/
theorem law_lift {C : Checked} {os : Os} {f : FuncId} {fn : Func} {s : ChangeSpec} {tb : TypeId} (own : ownKnob C.prog.godebug = none) (started : os.Started) (noInit : C.prog.inits.idxOf? f = none) (hfn : C.prog.funcs[f]? = some fn)
    (witness : ∃ (w : World) (tape : Tape) (i : Input), w.os = os ∧ (w.forCall tape i).Shaped C.prog ∧ i.vars = [] ∧ Input.okWide C.prog (w.forCall tape i) .any w.heap.size f i ∧
      s.pre6 enc C.prog fn [] false (w.forCall tape i).memory i.args ∧ ({} : Assume).holds C.prog (lone (Frame.enter C.prog f i.args .normal) [] (w.forCall tape i)))
    (hl : laidOutB C.prog = true) (hp : fn.params.toList.all (fun t => C.prog.readableRec t && decide (t < C.prog.types.size)) = true)
    (hr : fn.resultTypes = #[tb]) (hb : C.prog.underlying tb = some .bool) (hv : s.vars = [])
    (hs : ∀ ds : List (DataW H), ds.length = fn.params.size → s.fn H (ds ++ []) = { results := [.lit (.bool true)], args := ds })
    (call : ∀ (W : World) (base : Nat) (args : Array Value) (ds : List (DataW H)) (p : List MemPlace),
      (∀ (j : Nat) t v, fn.params[j]? = some t → args[j]? = some v → Value.okWide C.prog W .any base t v) →
      DataW.TrodAll enc C.prog W 0 (fun _ => true) true fn.params.toList args.toList ds p →
      (DataW.weightsEach C.prog fn.params.toList ds).all (· ≤ reachBytes) = true →
      Calls C.prog f args W fun e w' => e = .returned (.bool true) ∧ Below W.heap.size W w') :
    ReturnsInHanded {} C os f .any (s.pre6 enc C.prog fn [] false) (s.post enc C.prog fn false true false false) := by
  refine returnsInHanded_of_change_sized own started noInit hfn witness ?_
  intro W base args ds gs before hval hW _ hwt _
  have hW' := hW
  obtain ⟨p, q, hA, hV, rfl, hfz, hnd⟩ := hW
  rw [hv] at hV
  obtain ⟨rfl, rfl⟩ := trodVars_none hV
  simp only [List.append_nil] at hW' hwt
  have hlen : ∀ (ts : List TypeId) (vs : List Value) (ds : List (DataW H)) (ps : List MemPlace), DataW.TrodAll enc C.prog W 0 (fun _ => true) true ts vs ds ps → ds.length = ts.length := by
    intro ts
    induction ts with
    | nil => intro vs ds ps h; cases vs <;> cases ds <;> simp_all [DataW.TrodAll]
    | cons t ts ih =>
      intro vs ds ps h
      obtain ⟨v, vs', d, ds', p, q, rfl, rfl, rfl, _, h2⟩ := trodAll_cons h
      simpa using ih _ _ _ h2
  have hds : ds.length = fn.params.size := by simpa using hlen _ _ _ _ hA
  have hw2 : (DataW.weightsEach C.prog fn.params.toList ds).all (· ≤ reachBytes) = true := by
    have : s.plain.varTypes C.prog = [] := by simp [ChangeSpec.plain, DataSpec.varTypes, hv]
    rw [this] at hwt
    simpa using hwt
  refine (call W base args ds p hval hA hw2).mono fun e W' ⟨he, bel⟩ => ?_
  subst he
  have hlt : ∀ x ∈ p, x.block < W.heap.size := fun x hx => by simpa using hW'.lt x hx
  refine ⟨_, rfl, ds, [], p, [], p, [], hW', ?_, ?_, ?_, bel.frame _, fun h => by cases h⟩
  · rw [hs ds hds, hr]
    exact trodAll_mk1 (shut_bool hb true)
  · rw [hs ds hds]
    exact trodAll_below hl bel _ _ _ _ hp hlt hA
  · rw [hs ds hds, hv]
    exact rfl
/-! ### the arguments -/
variable {W : World} {base b0 : Nat} {sp : Nat → Bool} {held : Bool}
theorem mapM_get {α β : Type} {f : α → Option β} : ∀ (l : List α) (ys : List β), l.mapM f = some ys → ∀ (i : Nat) (a : α), l[i]? = some a → ∃ y, f a = some y
  | [], _, _, i, a, h => by simp at h
  | x :: l, ys, h, i, a, hi => by
    rw [List.mapM_cons] at h
    simp only [bind, Option.bind_eq_some_iff, pure, Option.some.injEq] at h
    obtain ⟨y, hy, ys', hys, rfl⟩ := h
    cases i with
    | zero => simp at hi; subst hi; exact ⟨y, hy⟩
    | succ i => exact mapM_get l ys' hys i a (by simpa using hi)
def numV : Value → Int
  | .int _ n => n
  | _ => 0
theorem open_arr {t e : TypeId} {k : IntKind} {n : Nat} {v : Value} {d : DataW H} {ps : List MemPlace} (ht : P.underlying t = some (.array n e)) (he : P.underlying e = some (.int k)) (hce : P.cellsOf e = 1) (hct : P.cellsOf t = n)
    (hval : Value.okWide P W .any b0 t v) (hd : DataW.Trod enc P W base sp held t v d ps) :
    ∃ xs : List Int, xs.length = n ∧ v = .agg (ints k xs).toArray ∧ ∀ x ∈ xs, (Lit.int k x).wf = true := by
  simp only [Value.okWide, ht] at hval
  obtain ⟨cs, rfl, hn, _⟩ := hval
  rw [hct] at hn
  obtain ⟨fuel, hf⟩ := hd
  cases fuel with
  | zero => simp [DataW.trod] at hf
  | succ m =>
    rw [DataW.trod_step] at hf
    unfold DataW.trodStep at hf
    simp only [ht, Value.cells] at hf
    rw [if_pos (by rw [hct]; simpa using hn)] at hf
    simp only [Option.map_eq_some_iff] at hf
    obtain ⟨ys, hy, e1⟩ := hf
    have each : ∀ i, i < n → ∃ a, cs.toList[i]? = some (.int k a) ∧ (Lit.int k a).wf = true := by
      intro i hi
      obtain ⟨y, hy⟩ := mapM_get _ _ hy i i (by simp [hi])
      obtain ⟨a, ea, _, wa⟩ := DataW.trod_int he hy
      refine ⟨a, ?_, wa⟩
      rw [hce] at ea
      have := congrArg (·[0]?) ea
      simpa using this
    refine ⟨cs.toList.map numV, by simpa using hn, ?_, ?_⟩
    · congr 1
      apply Array.toList_inj.1
      apply List.ext_getElem?
      intro i
      by_cases hi : i < n
      · obtain ⟨a, ha, _⟩ := each i hi
        simp only [ints, List.map_map, List.getElem?_map]
        rw [ha]
        rfl
      · have : cs.toList.length ≤ i := by simpa [hn] using hi
        rw [List.getElem?_eq_none this, List.getElem?_eq_none (by simpa [ints] using this)]
    · intro x hx
      obtain ⟨v, hv, rfl⟩ := List.mem_map.1 hx
      obtain ⟨i, hi, rfl⟩ := List.mem_iff_getElem.1 hv
      obtain ⟨a, ha, wa⟩ := each i (by simpa [hn] using hi)
      rw [List.getElem?_eq_getElem hi] at ha
      injection ha with ha
      rw [ha]
      exact wa
theorem open_arr4 {t e : TypeId} {k : IntKind} {v : Value} {d : DataW H} {ps : List MemPlace} (ht : P.underlying t = some (.array 4 e)) (he : P.underlying e = some (.int k)) (hce : P.cellsOf e = 1) (hct : P.cellsOf t = 4)
    (hval : Value.okWide P W .any b0 t v) (hd : DataW.Trod enc P W base sp held t v d ps) :
    ∃ x : C4, v = .agg #[.int k x.c0, .int k x.c1, .int k x.c2, .int k x.c3] ∧ (Lit.int k x.c0).wf = true ∧ (Lit.int k x.c1).wf = true ∧ (Lit.int k x.c2).wf = true ∧ (Lit.int k x.c3).wf = true := by
  obtain ⟨xs, hl, rfl, hw⟩ := open_arr ht he hce hct hval hd
  match xs, hl with
  | [a, b, c, d], _ => exact ⟨⟨a, b, c, d⟩, rfl, hw _ (by simp), hw _ (by simp), hw _ (by simp), hw _ (by simp)⟩
/-- a slice of whole numbers, as the walk reads it -/
theorem open_rd {t e : TypeId} {k : IntKind} {v : Value} {d : DataW H} {ps : List MemPlace} (ht : P.underlying t = some (.slice e)) (he : P.underlying e = some (.int k)) (hce : P.cellsOf e = 1)
    (hval : Value.okWide P W .any b0 t v) (hd : DataW.Trod enc P W base sp held t v d ps) :
    ∃ (A : Option Addr) (xs : List Int) (cp : Nat), v = .slice A xs.length cp ∧ (rdI A cp k xs).P (fun _ => True) W ∧ (∀ x ∈ xs, (Lit.int k x).wf = true) ∧ xs.length ≤ maxLen := by
  obtain ⟨a0, len0, cap0, rfl⟩ := okWide_slice ht hval
  obtain ⟨fuel, hf⟩ := hd
  rcases open_ints ht he hce hf with ⟨hcs, _⟩ | ⟨a, len, cap, zs, hcs, _, hl, hm, hz, _, hcell, hw⟩
  · simp [Value.cells] at hcs
    obtain ⟨rfl, rfl, rfl⟩ := hcs
    exact ⟨none, [], 0, rfl, .inl ⟨rfl, rfl, rfl⟩, (fun x hx => by cases hx), Nat.zero_le _⟩
  · simp [Value.cells] at hcs
    obtain ⟨rfl, rfl, rfl⟩ := hcs
    have hs : a.spot = none := by
      simp only [Value.okWide, ht, Cell.okWide, Cell.ok, World.has] at hval
      exact hval.2.2.2.1
    have hlz : len0 ≤ zs.length := by rw [hz]; split <;> omega
    refine ⟨some a, zs.take len0, cap0, by simp [Nat.min_eq_left hlz], .inr ⟨a.block, a.off, by cases a; simp_all, by simp [ints]; omega, fun _ => trivial, fun j v hv => ?_⟩, fun x hx => hw x (List.mem_of_mem_take hx), by simp; omega⟩
    simp only [ints, List.getElem?_map, List.getElem?_take] at hv
    split at hv
    · rename_i hj
      have hjz : j < zs.length := by omega
      rw [List.getElem?_eq_getElem hjz] at hv
      injection hv with hv
      subst hv
      have := hcell j hjz
      rw [List.getD_eq_getElem?_getD, List.getElem?_eq_getElem hjz] at this
      rw [← show a.add j = ⟨a.block, a.off + j, none⟩ by unfold Addr.add; cases a; simp_all]
      exact this
    · cases hv
theorem below_of_post {S : Nat → Prop} {W w' : World} {X : Type} {val : X → Value} {v : Value} {e : Ending} (hv : ∀ x, val x = v) (h : Post S W val (fun _ => []) (fun _ => []) e w') : e = .returned v ∧ Below W.heap.size W w' := by
  obtain ⟨x, he, hw, _⟩ := h
  exact ⟨by rw [he, hv x], hw⟩
end
end Go.Cal
