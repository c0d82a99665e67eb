/-
  The calculus, sixth part: small laws that the generator's texts name.
-/
import Derived.Test.YtcjampbgjjhckaaK4
namespace Go.Cal
open Go Go.RowKit

structure C1 where (c0 : Int)
structure C2 where (c0 c1 : Int)
structure C3 where (c0 c1 c2 : Int)
structure C4 where (c0 c1 c2 c3 : Int)
structure C5 where (c0 c1 c2 c3 c4 : Int)
structure C6 where (c0 c1 c2 c3 c4 c5 : Int)
structure C7 where (c0 c1 c2 c3 c4 c5 c6 : Int)
structure C8 where (c0 c1 c2 c3 c4 c5 c6 c7 : Int)
abbrev wu64 (x : Int) : Int := IntKind.u64.wrap x
abbrev wu32 (x : Int) : Int := IntKind.u32.wrap x
abbrev wu16 (x : Int) : Int := IntKind.u16.wrap x
abbrev wu8 (x : Int) : Int := IntKind.u8.wrap x
abbrev wi64 (x : Int) : Int := IntKind.i64.wrap x
abbrev wi32 (x : Int) : Int := IntKind.i32.wrap x
abbrev wi16 (x : Int) : Int := IntKind.i16.wrap x
abbrev wi8 (x : Int) : Int := IntKind.i8.wrap x
theorem none_s {α : Type} {a : α} (h : (none : Option α) = some a) : False := by cases h
theorem ne_of_dec {b : Int} (h : (!(decide (b = 0))) = true) : b ≠ 0 := by simpa using h
def tyI (P : Program) (t : Nat) : TypeInfo := match P.info? t with | some i => i | none => default
def mkOk (n : Int) : Bool := decide (0 ≤ n) && decide (n ≤ 17592186044416)
def apOk (n m b : Nat) : Bool := Nat.ble ((n + m) * b) 140737488355328 && Nat.ble (n + m) 9223372036854775807
theorem mk0 {n : Int} (h : mkOk n = true) : 0 ≤ n := by simp [mkOk] at h; exact h.1
theorem mk1 {n : Int} (h : mkOk n = true) {b : Nat} (hb : b ≤ 16) : (b : Int) * n ≤ 281474976710656 := by
  simp [mkOk] at h
  have h1 : (b : Int) ≤ 16 := by omega
  have h2 : (b : Int) * n ≤ 16 * n := Int.mul_le_mul_of_nonneg_right h1 h.1
  omega
theorem mk2 {n : Int} (h : mkOk n = true) : n ≤ 9223372036854775807 := by simp [mkOk] at h; omega
theorem ap1 {n m b : Nat} (h : apOk n m b = true) : (n + m) * b ≤ 140737488355328 := by
  unfold apOk at h; rw [Bool.and_eq_true] at h; exact Nat.le_of_ble_eq_true h.1
theorem ap2 {n m b : Nat} (h : apOk n m b = true) : n + m ≤ 9223372036854775807 := by
  unfold apOk at h; rw [Bool.and_eq_true] at h; exact Nat.le_of_ble_eq_true h.2
theorem exp1 (xs : List Int) (h : xs.length = 1) : xs = [gI xs 0] := by match xs, h with | [_], _ => rfl
theorem exp2 (xs : List Int) (h : xs.length = 2) : xs = [gI xs 0, gI xs 1] := by match xs, h with | [_, _], _ => rfl
theorem exp3 (xs : List Int) (h : xs.length = 3) : xs = [gI xs 0, gI xs 1, gI xs 2] := by match xs, h with | [_, _, _], _ => rfl
theorem exp4 (xs : List Int) (h : xs.length = 4) : xs = [gI xs 0, gI xs 1, gI xs 2, gI xs 3] := by match xs, h with | [_, _, _, _], _ => rfl
theorem exp5 (xs : List Int) (h : xs.length = 5) : xs = [gI xs 0, gI xs 1, gI xs 2, gI xs 3, gI xs 4] := by match xs, h with | [_, _, _, _, _], _ => rfl
theorem exp6 (xs : List Int) (h : xs.length = 6) : xs = [gI xs 0, gI xs 1, gI xs 2, gI xs 3, gI xs 4, gI xs 5] := by match xs, h with | [_, _, _, _, _, _], _ => rfl
theorem exp8 (xs : List Int) (h : xs.length = 8) : xs = [gI xs 0, gI xs 1, gI xs 2, gI xs 3, gI xs 4, gI xs 5, gI xs 6, gI xs 7] := by match xs, h with | [_, _, _, _, _, _, _, _], _ => rfl
def add64F (x y c : Int) : Option (Int × Int) := bif Nat.ble c.toNat 1 then some (Int.ofNat ((x.toNat + y.toNat + c.toNat) % 18446744073709551616), Int.ofNat ((x.toNat + y.toNat + c.toNat) / 18446744073709551616)) else none
def sub64F (x y b : Int) : Option (Int × Int) := bif Nat.ble b.toNat 1 then some (Int.ofNat ((x.toNat + 18446744073709551616 - y.toNat - b.toNat) % 18446744073709551616), Int.ofNat (if x.toNat < y.toNat + b.toNat then 1 else 0)) else none
def add64V (x y c : Int) : Int := Int.ofNat ((x.toNat + y.toNat + c.toNat) % 18446744073709551616)
def add64C (x y c : Int) : Int := Int.ofNat ((x.toNat + y.toNat + c.toNat) / 18446744073709551616)
def sub64V (x y b : Int) : Int := Int.ofNat ((x.toNat + 18446744073709551616 - y.toNat - b.toNat) % 18446744073709551616)
def sub64C (x y b : Int) : Int := Int.ofNat (if x.toNat < y.toNat + b.toNat then 1 else 0)
def bI (s : ByteArray) (i : Int) : Int := ((s[i.toNat]?.getD 0).toNat : Int)

section
variable {Φ : Act → World → Prop} {c : Cx} {L : LL} {l : List Bk} {os : List Ow} {rs : Rs} {P : Program} {Q : Exit → Act → World → Prop}
/-- a function without a body, by what the model's table holds for it -/
theorem run_ext {f : FuncId} {fn : Func} {e : Array Value → Sem Value} {vs : Array Value} {v : Value} (hf : P.funcs[f]? = some fn) (hn : (fn.name == "runtime.NumGoroutine") = false) (hb : fn.body.isNone = true)
    (h1 : (Extern.findNext fn).isNone = true) (h2 : Extern.find fn = some e) (w : World) (hr : (e vs).run P w = .ok v w) : (callFunc f vs).run P w = .ok (.value v) w := by
  have h1' : Extern.findNext fn = none := by simpa using h1
  unfold callFunc
  simp only [Sem.run_bind, program, Sem.run, Result.andThen_ok, hf, hn, hb, Bool.false_eq_true, if_false, if_true, mark, h1', h2, Sem.run_pure, hr]
theorem three_run (nm : String) (x y c : Int) (hc : ¬ 1 < c.toNat) (w : World) : (Extern.MathBitsCarry.three nm #[.int .u64 x, .int .u64 y, .int .u64 c]).run P w = .ok (x.toNat, y.toNat, c.toNat) w := by
  show Sem.run P (do
    let c := (← asInt (.int .u64 c)).toNat
    if c > 1 then unsupported (.noEntry ("extern/math/bits." ++ nm ++ ": a carry that is neither 0 nor 1"))
    pure ((← asInt (.int .u64 x)).toNat, (← asInt (.int .u64 y)).toNat, c)) w = _
  have hc2 : c ≤ 1 := by omega
  simp [asInt, asIntOf, hc2]
theorem run_add64 {f : FuncId} {fn : Func} (hf : P.funcs[f]? = some fn) (hn : (fn.name == "runtime.NumGoroutine") = false) (hb : fn.body.isNone = true)
    (h1 : (Extern.findNext fn).isNone = true) (h2 : Extern.find fn = some (Extern.MathBitsCarry.rows[0]!).2) (x y c : Int) (w : World) (hc : Nat.ble c.toNat 1 = true) :
    (callFunc f #[.int .u64 x, .int .u64 y, .int .u64 c]).run P w = .ok (.value (.tuple #[.int .u64 (add64V x y c), .int .u64 (add64C x y c)])) w := by
  refine run_ext hf hn hb h1 h2 w ?_
  have hc' : ¬ (1 < c.toNat) := Nat.not_lt.2 (Nat.le_of_ble_eq_true hc)
  show Sem.run P (Extern.MathBitsCarry.three "Add64" #[.int .u64 x, .int .u64 y, .int .u64 c] >>= fun p => pure (Extern.MathBitsCarry.pair ((p.1 + p.2.1 + p.2.2) % Extern.MathBitsCarry.m64) ((p.1 + p.2.1 + p.2.2) / Extern.MathBitsCarry.m64))) w = _
  rw [Sem.run_bind, three_run _ x y c hc' w]
  rfl
theorem run_sub64 {f : FuncId} {fn : Func} (hf : P.funcs[f]? = some fn) (hn : (fn.name == "runtime.NumGoroutine") = false) (hb : fn.body.isNone = true)
    (h1 : (Extern.findNext fn).isNone = true) (h2 : Extern.find fn = some (Extern.MathBitsCarry.rows[1]!).2) (x y c : Int) (w : World) (hc : Nat.ble c.toNat 1 = true) :
    (callFunc f #[.int .u64 x, .int .u64 y, .int .u64 c]).run P w = .ok (.value (.tuple #[.int .u64 (sub64V x y c), .int .u64 (sub64C x y c)])) w := by
  refine run_ext hf hn hb h1 h2 w ?_
  have hc' : ¬ (1 < c.toNat) := Nat.not_lt.2 (Nat.le_of_ble_eq_true hc)
  show Sem.run P (Extern.MathBitsCarry.three "Sub64" #[.int .u64 x, .int .u64 y, .int .u64 c] >>= fun p => pure (Extern.MathBitsCarry.pair ((p.1 + Extern.MathBitsCarry.m64 - p.2.1 - p.2.2) % Extern.MathBitsCarry.m64) (if p.1 < p.2.1 + p.2.2 then 1 else 0))) w = _
  rw [Sem.run_bind, three_run _ x y c hc' w]
  rfl
theorem run_add64F {f : FuncId} {fn : Func} (hf : P.funcs[f]? = some fn) (hn : (fn.name == "runtime.NumGoroutine") = false) (hb : fn.body.isNone = true)
    (h1 : (Extern.findNext fn).isNone = true) (h2 : Extern.find fn = some (Extern.MathBitsCarry.rows[0]!).2) {x y c : Int} {r : Int × Int} (w : World) (hr : add64F x y c = some r) :
    (callFunc f #[.int .u64 x, .int .u64 y, .int .u64 c]).run P w = .ok (.value (.tuple #[.int .u64 r.1, .int .u64 r.2])) w := by
  obtain ⟨hc, hr⟩ := cond_n hr
  have := run_add64 (P := P) hf hn hb h1 h2 x y c w hc
  rw [← ret_s hr]
  exact this
theorem run_sub64F {f : FuncId} {fn : Func} (hf : P.funcs[f]? = some fn) (hn : (fn.name == "runtime.NumGoroutine") = false) (hb : fn.body.isNone = true)
    (h1 : (Extern.findNext fn).isNone = true) (h2 : Extern.find fn = some (Extern.MathBitsCarry.rows[1]!).2) {x y c : Int} {r : Int × Int} (w : World) (hr : sub64F x y c = some r) :
    (callFunc f #[.int .u64 x, .int .u64 y, .int .u64 c]).run P w = .ok (.value (.tuple #[.int .u64 r.1, .int .u64 r.2])) w := by
  obtain ⟨hc, hr⟩ := cond_n hr
  have := run_sub64 (P := P) hf hn hb h1 h2 x y c w hc
  rw [← ret_s hr]
  exact this
theorem nx_reb (i : Nat) {b : Nat} {cs cs' : Array Value} {T : TypeId} (hb : bkAt l i = some ⟨b, cs, T⟩) (e : cs = cs') (h : NX Φ c L (bkPut l i ⟨b, cs', T⟩) os rs) : NX Φ c L l os rs := by
  subst e
  have he : bkPut l i ⟨b, cs, T⟩ = l := by
    rw [bkAt_eq] at hb
    rw [bkPut_eq]
    apply List.ext_getElem?
    intro j
    rw [List.getElem?_set]
    split
    · rename_i hij
      subst hij
      simp [(List.getElem?_eq_some_iff.1 hb).1]
      exact (List.getElem?_eq_some_iff.1 hb).2.symm
    · rfl
  rw [he] at h
  exact h
theorem reb1 (k : IntKind) {l ys : List Int} (h : some l = some ys) (hl : l.length = 1) : (ints k l).toArray = #[.int k (gI ys 0)] := by
  cases h; conv => lhs; rw [exp1 l hl]
  rfl
theorem reb2 (k : IntKind) {l ys : List Int} (h : some l = some ys) (hl : l.length = 2) : (ints k l).toArray = #[.int k (gI ys 0), .int k (gI ys 1)] := by
  cases h; conv => lhs; rw [exp2 l hl]
  rfl
theorem reb3 (k : IntKind) {l ys : List Int} (h : some l = some ys) (hl : l.length = 3) : (ints k l).toArray = #[.int k (gI ys 0), .int k (gI ys 1), .int k (gI ys 2)] := by
  cases h; conv => lhs; rw [exp3 l hl]
  rfl
theorem reb4 (k : IntKind) {l ys : List Int} (h : some l = some ys) (hl : l.length = 4) : (ints k l).toArray = #[.int k (gI ys 0), .int k (gI ys 1), .int k (gI ys 2), .int k (gI ys 3)] := by
  cases h; conv => lhs; rw [exp4 l hl]
  rfl
theorem reb5 (k : IntKind) {l ys : List Int} (h : some l = some ys) (hl : l.length = 5) : (ints k l).toArray = #[.int k (gI ys 0), .int k (gI ys 1), .int k (gI ys 2), .int k (gI ys 3), .int k (gI ys 4)] := by
  cases h; conv => lhs; rw [exp5 l hl]
  rfl
theorem reb6 (k : IntKind) {l ys : List Int} (h : some l = some ys) (hl : l.length = 6) : (ints k l).toArray = #[.int k (gI ys 0), .int k (gI ys 1), .int k (gI ys 2), .int k (gI ys 3), .int k (gI ys 4), .int k (gI ys 5)] := by
  cases h; conv => lhs; rw [exp6 l hl]
  rfl
theorem reb8 (k : IntKind) {l ys : List Int} (h : some l = some ys) (hl : l.length = 8) : (ints k l).toArray = #[.int k (gI ys 0), .int k (gI ys 1), .int k (gI ys 2), .int k (gI ys 3), .int k (gI ys 4), .int k (gI ys 5), .int k (gI ys 6), .int k (gI ys 7)] := by
  cases h; conv => lhs; rw [exp8 l hl]
  rfl
theorem rv_idxStr {d : Option Nat} {T ty : TypeId} {x y : Operand} {pos : String} {aft : Array Edge} {g : Option (Nat × Bool)} {k2 : IntKind} {s : ByteArray} {i : Int}
    (hx : ev L x = .string s) (hy : ev L y = .int k2 i) (hi : inb i s.size = true) (hT : P.underlying T = some .string) : RV P ⟨d, .index T x y, ty, pos, aft, g⟩ c L l os rs (.int .u8 (bI s i)) := by
  intro t w hF _
  have h := inb_spec hi
  have hlt := inb_lt hi
  have hs : Value.string s ≠ undef := by simp [undef]
  simp [execOp, hF.eval_ev hx hs, hF.eval_ev hy (int_ne _ _), Instr.index, asIntOf, run_underlying hT, h.1, hlt, bI]
/-- a whole array told as a list -/
theorem rv_ldL {d : Option Nat} {T ty : TypeId} {x : Operand} {pos : String} {aft : Array Edge} {g : Option (Nat × Bool)} {k : IntKind} {b : Nat} {xs : List Int} {T' : TypeId} {n : Nat} (f : Nat)
    (hf : bkAt l f = some ⟨b, (ints k xs).toArray, T'⟩) (hT : shT P T = some (.row n)) (hx : ev L x = .pointer (some ⟨b, 0, none⟩)) (hn : xs.length = n) :
    RV P ⟨d, .load T x, ty, pos, aft, g⟩ c L l os rs (.agg (ints k xs).toArray) := by
  intro t w hF hS
  rw [bkAt_eq] at hf
  have hblk := hS.blk _ (List.mem_of_getElem? hf)
  obtain ⟨dd, hu, hd, hi⟩ := shT_row hT
  have := run_loadAt_mid (P := P) w b 0 T (ints k xs) dd (fun j v hj => by rw [cell_of_row w b _ _ _ _ hblk]; simpa using hj) hu hd (by simpa [ints, hn] using hi)
  simp [execOp, hF.eval_ev hx (ptr_ne _), this]
theorem nx_dup (i : Nat) {r : Fact × (Nat → Prop)} (hi : rs[i]? = some r) (h : NX Φ c L l os (r :: rs)) : NX Φ c L l os rs :=
  nx_fact r (fun _ hS => hS.fac r (List.mem_of_getElem? hi)) h
def pickL {α : Type} (l : List α) : List Nat → List α
  | [] => []
  | i :: r => match l[i]? with | some x => x :: pickL l r | none => pickL l r
theorem pickL_mem {α : Type} (l : List α) : ∀ (is : List Nat) (x : α), x ∈ pickL l is → x ∈ l
  | [], x, h => by cases h
  | i :: r, x, h => by
    simp only [pickL] at h
    split at h
    · rename_i y hy
      rcases List.mem_cons.1 h with rfl | h
      · exact List.mem_of_getElem? hy
      · exact pickL_mem l r x h
    · exact pickL_mem l r x h
theorem nx_pick (is : List Nat) (h : NX Φ c L l os (pickL rs is)) : NX Φ c L l os rs := nx_drop (List.Sublist.refl _) (List.Sublist.refl _) (fun r hr => pickL_mem rs is r hr) h
theorem FactsOK.cons {S : Nat → Prop} {w : World} {f : Fact} {fs : List Fact} (h : f.P S w) (hs : FactsOK S w fs) : FactsOK S w (f :: fs) := fun g hg => by
  rcases List.mem_cons.1 hg with rfl | hg
  · exact h
  · exact hs g hg
theorem rd_nil (S : Nat → Prop) (w : World) : (rdV none 0 []).P S w := .inl ⟨rfl, rfl, rfl⟩
/-! premises of a callee that hands over no fact: where its slices lead does not matter -/
theorem prem_t {w : World} (h : Sta c.M c.w0 w l os rs) (i : Nat) {f : Fact} {S : Nat → Prop} (hi : rs[i]? = some (f, S)) : f.P (fun _ => True) w := f.mono _ _ w (fun _ _ _ => trivial) (h.fac _ (List.mem_of_getElem? hi))
theorem own_view {w : World} (h : Sta c.M c.w0 w l os rs) (i : Nat) {A : Option Addr} {cp : Nat} {T : TypeId} {k : IntKind} {xs : List Int} (ho : os[i]? = some (owI A cp T k xs)) : (rdI A cp k xs).P (fun _ => True) w := by
  have h1 := h.shareO i ho
  exact (rdI A cp k xs).mono _ _ w (fun _ _ _ => trivial) (h1.fac _ (List.mem_cons_self ..))
theorem blk_view {w : World} (h : Sta c.M c.w0 w l os rs) (i : Nat) {b : Nat} {cs : Array Value} {T : TypeId} (hb : bkAt l i = some ⟨b, cs, T⟩) (j : Nat) {vs : List Value} {cp : Nat} (hv : (cs.toList.drop j).take vs.length = vs) (hc : vs.length ≤ cp) :
    (rdV (some ⟨b, j, none⟩) cp vs).P (fun _ => True) w := by
  rw [bkAt_eq] at hb
  have hblk := h.blk _ (List.mem_of_getElem? hb)
  refine .inr ⟨b, j, rfl, hc, fun _ => trivial, fun jj v hjj => ?_⟩
  rw [cell_of_row w b _ _ _ _ hblk]
  rw [← hv, List.getElem?_take] at hjj
  split at hjj
  · rw [List.getElem?_drop] at hjj
    simpa using hjj
  · cases hjj
theorem o_callO {next : Act → World → Prop} {d : Nat} {ty : TypeId} {f : FuncId} {xs : List Operand} {ats : Array TypeId} {pos : String} {aft : Array Edge} {g : Option (Nat × Bool)} {fn : Func} {S : Nat → Prop} {X : Type} {val : X → Value} {owns : X → List Ow}
    (vs : List Value) (hd : Nat.blt d c.n = true) (hf : P.funcs[f]? = some fn) (hb : (fn.name == "runtime.NumGoroutine") = false ∧ fn.body.isNone = false) (hh : hasAll L xs = true) (hvs : evAll L xs = vs)
    (hc : ∀ w, Sta c.M c.w0 w l os rs → Calls P f vs.toArray w (Post (fun _ => True) w val owns (fun _ => [])))
    (k : ∀ x, NX next c (upd L d (val x)) l (os ++ owns x) rs) :
    NX (fun a w => Oper.wp P ⟨some d, .call { callee := .value (.func f), args := xs.toArray, argTypes := ats }, ty, pos, aft, g⟩ a w next Q) c L l os rs :=
  o_call vs hf hb hh hvs _ hc fun _ _ hF hS _ _ ⟨x, he, hw, ho, _⟩ => ⟨val x, he, k x _ _ (hF.upd (Nat.le_of_ble_eq_true hd) _) (hS.callG (S := S) hw ho (FactsOK.nil _ _))⟩
theorem o_callON {next : Act → World → Prop} {ty : TypeId} {f : FuncId} {xs : List Operand} {ats : Array TypeId} {pos : String} {aft : Array Edge} {g : Option (Nat × Bool)} {fn : Func} {S : Nat → Prop} {X : Type} {val : X → Value} {owns : X → List Ow}
    (vs : List Value) (hf : P.funcs[f]? = some fn) (hb : (fn.name == "runtime.NumGoroutine") = false ∧ fn.body.isNone = false) (hh : hasAll L xs = true) (hvs : evAll L xs = vs)
    (hc : ∀ w, Sta c.M c.w0 w l os rs → Calls P f vs.toArray w (Post (fun _ => True) w val owns (fun _ => [])))
    (k : ∀ x, NX next c L l (os ++ owns x) rs) :
    NX (fun a w => Oper.wp P ⟨none, .call { callee := .value (.func f), args := xs.toArray, argTypes := ats }, ty, pos, aft, g⟩ a w next Q) c L l os rs :=
  o_call vs hf hb hh hvs _ hc fun _ _ hF hS _ _ ⟨x, he, hw, ho, _⟩ => ⟨val x, he, k x _ _ hF (hS.callG (S := S) hw ho (FactsOK.nil _ _))⟩
/-- one operation that looks at no memory, or a load or store at a known place, by itself -/
theorem o_mem {next : Act → World → Prop} {o : Oper} (i : Nat) (ks : List Nat) (L' : LL) (l' : List Bk) (ob : Prop)
    (h : (cond (dstOk c.n o.dst) (cond (isMem o.op) ((memOp P L l i o.op).map fun x => (⟨sel (updO L o.dst x.1) ks, x.2.1, x.2.2 ∧ True⟩ : St)) ((pvL P L o).map fun v => (⟨sel (updO L o.dst v) ks, l, True⟩ : St))) none) = some ⟨L', l', ob⟩) (hob : ob)
    (k : NX next c L' l' os rs) : NX (fun a w => Oper.wp P o a w next Q) c L l os rs := by
  intro t w hF hS
  cases hd : dstOk c.n o.dst with
  | false => rw [hd] at h; cases h
  | true =>
    rw [hd] at h
    cases hm : isMem o.op with
    | true =>
      rw [hm] at h
      simp only [cond_true] at h
      cases hmem : memOp P L l i o.op with
      | none => rw [hmem] at h; cases h
      | some x =>
        rw [hmem] at h
        obtain ⟨v, l2, p⟩ := x
        simp only [Option.map_some, Option.some.injEq, St.mk.injEq] at h
        obtain ⟨rfl, rfl, rfl⟩ := h
        obtain ⟨w', hr, hS', _⟩ := memOp_spec (o := o) hmem hob.1 hF hS
        obtain ⟨t', ht', hF'⟩ := hF.put hd v
        have hn := k t' w' (hF'.sel ks) hS'
        rw [← ht'] at hn
        unfold Oper.wp
        rcases hr with hr | ⟨hr, rfl⟩ <;> (rw [hr]; exact hn)
    | false =>
      rw [hm] at h
      simp only [cond_true, cond_false] at h
      cases hp : pvL P L o with
      | none => rw [hp] at h; cases h
      | some v =>
        rw [hp] at h
        simp only [Option.map_some, Option.some.injEq, St.mk.injEq] at h
        obtain ⟨rfl, rfl, rfl⟩ := h
        obtain ⟨t', ht', hF'⟩ := hF.put hd v
        have hn := k t' w (hF'.sel ks) hS
        rw [← ht'] at hn
        unfold Oper.wp
        rcases pvL_spec (P := P) hF hp w with hr | ⟨hr, rfl⟩ <;> (rw [hr]; exact hn)
end
theorem ResOK.rowL {P : Program} {L : LL} {l : List Bk} {t : Nat} {T : TypeId} {rv : List ResultVar} {vs : List Value} {n : Nat} (i b : Nat) (cs : Array Value) (T' : TypeId) (h : look L t = some (.pointer (some ⟨b, 0, none⟩))) (hl : bkAt l i = some ⟨b, cs, T'⟩)
    (hT : shT P T = some (.row n)) (hn : cs.size = n) (k : ResOK P L l rv vs) : ResOK P L l (.cell t T :: rv) (.agg cs :: vs) := .row i b cs T' h hl (by rw [hn]; exact hT) k
end Go.Cal
