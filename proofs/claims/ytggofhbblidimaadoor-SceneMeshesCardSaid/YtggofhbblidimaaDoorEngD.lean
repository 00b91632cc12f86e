/- The engine, part D: the rules of operations on variables, slices and strings. No program is named here. -/
import Derived.Test.YtggofhbblidimaaDoorEngC
import Derived.Laws.Slices
import Derived.Laws.Strings
namespace Eng
open Go Go.RowKit

/-! ### What is asked of a program's types -/
def FieldAt (P : Program) (s f off : Nat) : Prop := ∀ (b p : Nat) (w : World), (Instr.fieldAt s (.pointer (some ⟨b, p, none⟩)) f).run P w = .ok (.pointer (some ⟨b, p + off, none⟩)) w
structure SliceOf (P : Program) (t e size bytes : Nat) : Prop where
  und : P.underlying t = some (.slice e)
  said : ((P.info? e).map fun i => (i.zero.map fun z => z.cells.size, i.size, i.bytes)) = some (some size, size, bytes)
  pos : 0 < size
theorem SliceOf.info {P : Program} {t e size bytes : Nat} (h : SliceOf P t e size bytes) : ∃ i z, P.info? e = some i ∧ i.zero = some z ∧ i.size = size ∧ i.bytes = bytes ∧ z.cells.size = size := by
  have hs := h.said
  cases hi : P.info? e with
  | none => rw [hi] at hs; cases hs
  | some i =>
    rw [hi] at hs
    simp only [Option.map_some, Option.some.injEq, Prod.mk.injEq] at hs
    cases hz : i.zero with
    | none => rw [hz] at hs; simp at hs
    | some z =>
      rw [hz] at hs
      simp only [Option.map_some, Option.some.injEq] at hs
      exact ⟨i, z, rfl, hz, hs.2.1, hs.2.2, hs.1⟩
theorem SliceOf.run_und {P : Program} {t e size bytes : Nat} (h : SliceOf P t e size bytes) (w : World) : (underlying t).run P w = .ok (.slice e) w := run_underlying h.und w
theorem SliceOf.run_size {P : Program} {t e size bytes : Nat} (h : SliceOf P t e size bytes) (w : World) : (Go.sizeOf e).run P w = .ok size w := by
  obtain ⟨i, z, h1, _, h3, _⟩ := h.info
  simp [Go.sizeOf, typeInfo, h1, h3]
structure ArrayOf (P : Program) (t len e size : Nat) : Prop where
  und : P.underlying t = some (.array len e)
  size : ∀ w, (Go.sizeOf e).run P w = .ok size w
abbrev str (l : List UInt8) : Value := .string ⟨l.toArray⟩
theorem str_size (l : List UInt8) : (ByteArray.mk l.toArray).size = l.length := rfl
theorem sv_succ (o : Option (Nat × Nat)) (n : Nat) (es : List (List Value)) {w : World} {e size : Nat} (h : (own o e size es).ok w) (hn : es.length = n) (hpos : 0 < n) : ∃ g cap, o = some (g, cap) := by
  cases o with
  | some gc => exact ⟨gc.1, gc.2, rfl⟩
  | none =>
    exfalso
    rcases h.1.2 with ⟨_, h0⟩ | ⟨g, cap, cur, hv, _⟩
    · omega
    · simp [sv] at hv

section
variable {P : Program} {ops : Array Oper} {Q : Exit → Act → World → Prop} {K : Act → World → Prop} {N : Nat} {F : Fr} {A : WA} {rest : List Oper}
variable {d : Tmp} {dst : Option Tmp} {ty : TypeId} {pos : String} {after : Array Edge} {gd : Option (Nat × Bool)} {w0 : World} {M : Nat → Prop} {L L0 L1 : List Res}

/-! ### Variables -/
theorem alo {e : TypeId} {z : Value} (cs : List Value) (hd : Nat.blt d N = true) (hg : Want ops F gd) (hz : ∀ w, (zeroValue e).run P w = .ok z w) (hc : z.cells = cs.toArray)
    (k : ∀ b, w0.heap.size ≤ b → OpsJ P ops Q K rest N ((d, .pointer (some ⟨b, 0, none⟩)) :: F) (St w0 M (blk b cs e :: L))) : OpsJ P ops Q K (⟨some d, .alloc e, ty, pos, after, gd⟩ :: rest) N F (St w0 M L) :=
  opw (L0 := []) (L1 := L) (γ := Nat) (fun b => w0.heap.size ≤ b) (fun b => .pointer (some ⟨b, 0, none⟩)) (fun b => [blk b cs e]) hd hg
    (fun T w _ hA => ⟨w.heap.size, w.alloc (.cells cs.toArray e), _, hA.size, by simp [execOp, Instr.alloc, hz, newVar, newRow, hc], .inl rfl, by
      have := St.alloc w cs e
      exact ⟨this.os, this.tape, this.output, this.size, fun k hk _ => this.block k hk (fun h => h), this.ok, fun r hr k hk => ⟨.inr ((this.fp r hr k hk).1.resolve_left (fun h => h)), (this.fp r hr k hk).2⟩, this.disj⟩⟩) k
theorem bx {e : TypeId} {x : Operand} {v : Value} (cs : List Value) (hd : Nat.blt d N = true) (hg : Want ops F gd) (hx : ev F x = some v) (hc : v.cells = cs.toArray)
    (k : ∀ b, w0.heap.size ≤ b → OpsJ P ops Q K rest N ((d, .pointer (some ⟨b, 0, none⟩)) :: F) (St w0 M (blk b cs e :: L))) : OpsJ P ops Q K (⟨some d, .box e x, ty, pos, after, gd⟩ :: rest) N F (St w0 M L) :=
  opw (L0 := []) (L1 := L) (γ := Nat) (fun b => w0.heap.size ≤ b) (fun b => .pointer (some ⟨b, 0, none⟩)) (fun b => [blk b cs e]) hd hg
    (fun T w hT hA => ⟨w.heap.size, w.alloc (.cells cs.toArray e), _, hA.size, by simp [execOp, Instr.box, hT.ev hx, newVar, newRow, hc], .inl rfl, by
      have := St.alloc w cs e
      exact ⟨this.os, this.tape, this.output, this.size, fun k hk _ => this.block k hk (fun h => h), this.ok, fun r hr k hk => ⟨.inr ((this.fp r hr k hk).1.resolve_left (fun h => h)), (this.fp r hr k hk).2⟩, this.disj⟩⟩) k
theorem fad {s f off b p : Nat} {x : Operand} (hg : Want ops F gd) (h : FieldAt P s f off) (hx : ev F x = some (.pointer (some ⟨b, p, none⟩))) : Yl P ops N F A ⟨some d, .fieldAddr s x f, ty, pos, after, gd⟩ (.pointer (some ⟨b, p + off, none⟩)) :=
  opv hg (fun T w hT _ => by simp [execOp, hT.ev hx, h b p w])
theorem ld1 {t b o p : Nat} {x : Operand} {v : Value} {vs : List Value} (j : Nat) (hg : Want ops F gd) (ha : ∀ w, (isAgg t).run P w = .ok false w) (hx : ev F x = some (.pointer (some ⟨b, p, none⟩)))
    (hr : Has A b o vs) (hp : p = o + j) (hv : vs[j]? = some v) : Yl P ops N F A ⟨some d, .load t x, ty, pos, after, gd⟩ (v) :=
  opv hg (fun T w hT hA => by
    have hc := hr w hA j v hv
    rw [← hp] at hc
    simp [execOp, hT.ev hx, Instr.loadAt, Instr.sureAddr, run_load1 ha hc])
theorem ldA {t b o p n : Nat} {x : Operand} {vs : List Value} (ws : List Value) (j : Nat) (hg : Want ops F gd) (ha : ∀ w, (isAgg t).run P w = .ok true w) (hs : ∀ w, (Go.sizeOf t).run P w = .ok n w)
    (hx : ev F x = some (.pointer (some ⟨b, p, none⟩))) (hr : Has A b o vs) (hp : p = o + j) (hl : ws.length = n) (hw : ∀ i v, ws[i]? = some v → vs[j + i]? = some v) : Yl P ops N F A ⟨some d, .load t x, ty, pos, after, gd⟩ (.agg ws.toArray) :=
  opv hg (fun T w hT hA => by
    have hc : Row w b p ws := fun i v hi => by
      have := hr w hA (j + i) v (hw i v hi)
      rw [hp, Nat.add_assoc]
      exact this
    simp [execOp, hT.ev hx, Instr.loadAt, Instr.sureAddr, run_loadA ha hs hl hc])
theorem pre_of {vs ws r : List Value} {j : Nat} (h : vs.drop j = ws ++ r) : ∀ i v, ws[i]? = some v → vs[j + i]? = some v := fun i v hi => by
  have hlt : i < ws.length := (List.getElem?_eq_some_iff.1 hi).1
  rw [← List.getElem?_drop, h, List.getElem?_append_left hlt]
  exact hi
theorem ld2 {t b o p : Nat} {x : Operand} {vs r : List Value} {v0 v1 : Value} (j : Nat) (hg : Want ops F gd) (ha : ∀ w, (isAgg t).run P w = .ok true w) (hs : ∀ w, (Go.sizeOf t).run P w = .ok 2 w)
    (hx : ev F x = some (.pointer (some ⟨b, p, none⟩))) (hr : Has A b o vs) (hp : p = o + j) (hv : vs.drop j = v0 :: v1 :: r) : Yl P ops N F A ⟨some d, .load t x, ty, pos, after, gd⟩ (.agg #[v0, v1]) :=
  ldA [v0, v1] j hg ha hs hx hr hp rfl (pre_of hv)
theorem ld3 {t b o p : Nat} {x : Operand} {vs r : List Value} {v0 v1 v2 : Value} (j : Nat) (hg : Want ops F gd) (ha : ∀ w, (isAgg t).run P w = .ok true w) (hs : ∀ w, (Go.sizeOf t).run P w = .ok 3 w)
    (hx : ev F x = some (.pointer (some ⟨b, p, none⟩))) (hr : Has A b o vs) (hp : p = o + j) (hv : vs.drop j = v0 :: v1 :: v2 :: r) : Yl P ops N F A ⟨some d, .load t x, ty, pos, after, gd⟩ (.agg #[v0, v1, v2]) :=
  ldA [v0, v1, v2] j hg ha hs hx hr hp rfl (pre_of hv)
theorem ld4 {t b o p : Nat} {x : Operand} {vs r : List Value} {v0 v1 v2 v3 : Value} (j : Nat) (hg : Want ops F gd) (ha : ∀ w, (isAgg t).run P w = .ok true w) (hs : ∀ w, (Go.sizeOf t).run P w = .ok 4 w)
    (hx : ev F x = some (.pointer (some ⟨b, p, none⟩))) (hr : Has A b o vs) (hp : p = o + j) (hv : vs.drop j = v0 :: v1 :: v2 :: v3 :: r) : Yl P ops N F A ⟨some d, .load t x, ty, pos, after, gd⟩ (.agg #[v0, v1, v2, v3]) :=
  ldA [v0, v1, v2, v3] j hg ha hs hx hr hp rfl (pre_of hv)
theorem ld6 {t b o p : Nat} {x : Operand} {vs r : List Value} {v0 v1 v2 v3 v4 v5 : Value} (j : Nat) (hg : Want ops F gd) (ha : ∀ w, (isAgg t).run P w = .ok true w) (hs : ∀ w, (Go.sizeOf t).run P w = .ok 6 w)
    (hx : ev F x = some (.pointer (some ⟨b, p, none⟩))) (hr : Has A b o vs) (hp : p = o + j) (hv : vs.drop j = v0 :: v1 :: v2 :: v3 :: v4 :: v5 :: r) : Yl P ops N F A ⟨some d, .load t x, ty, pos, after, gd⟩ (.agg #[v0, v1, v2, v3, v4, v5]) :=
  ldA [v0, v1, v2, v3, v4, v5] j hg ha hs hx hr hp rfl (pre_of hv)
theorem ld7 {t b o p : Nat} {x : Operand} {vs r : List Value} {v0 v1 v2 v3 v4 v5 v6 : Value} (j : Nat) (hg : Want ops F gd) (ha : ∀ w, (isAgg t).run P w = .ok true w) (hs : ∀ w, (Go.sizeOf t).run P w = .ok 7 w)
    (hx : ev F x = some (.pointer (some ⟨b, p, none⟩))) (hr : Has A b o vs) (hp : p = o + j) (hv : vs.drop j = v0 :: v1 :: v2 :: v3 :: v4 :: v5 :: v6 :: r) : Yl P ops N F A ⟨some d, .load t x, ty, pos, after, gd⟩ (.agg #[v0, v1, v2, v3, v4, v5, v6]) :=
  ldA [v0, v1, v2, v3, v4, v5, v6] j hg ha hs hx hr hp rfl (pre_of hv)
/-- A store into a block that the call owns (it stands first). -/
theorem sto {t t' b p n : Nat} {x y : Operand} {v : Value} {cs : List Value} (ws : List Value) (hg : Want ops F gd) (hx : ev F x = some (.pointer (some ⟨b, p, none⟩))) (hy : ev F y = some v)
    (hc : v.cells = ws.toArray) (hs : ∀ w, (Go.sizeOf t).run P w = .ok n w) (hn : ws.length = n) (hl : Nat.ble (p + ws.length) cs.length = true) (h1 : ∀ u ∈ ws, u.oneCell' = true)
    (k : OpsJ P ops Q K rest N F (St w0 M (blk b (cs.take p ++ ws ++ cs.drop (p + ws.length)) t' :: L))) : OpsJ P ops Q K (⟨none, .store t x y, ty, pos, after, gd⟩ :: rest) N F (St w0 M (blk b cs t' :: L)) :=
  opw (dst := none) (L0 := [blk b cs t']) (L1 := L) (γ := Unit) (fun _ => True) (fun _ => undef) (fun _ => [blk b (cs.take p ++ ws ++ cs.drop (p + ws.length)) t']) rfl hg
    (fun T w hT hA => by
      obtain ⟨w', hr, hst⟩ := St.stored (P := P) (w := w) (b := b) (p := p) (t := t') (cs := cs) (vs := ws) (hA.ok (blk b cs t') (by simp)) (by simpa using Nat.le_of_ble_eq_true hl) h1
      refine ⟨(), w', .skip, trivial, ?_, .inr ⟨rfl, rfl⟩, hst⟩
      simp [execOp, hT.ev hx, hT.ev hy, Instr.storeAt, Instr.sureAddr, storeVar, hc, hs, hn, hr]) (fun _ _ => k)
/-- .. that replaces one cell. -/
theorem st1 {t t' b p : Nat} {x y : Operand} {v : Value} {cs : List Value} (hg : Want ops F gd) (hx : ev F x = some (.pointer (some ⟨b, p, none⟩))) (hy : ev F y = some v)
    (hc : v.cells = #[v]) (hs : ∀ w, (Go.sizeOf t).run P w = .ok 1 w) (hl : Nat.blt p cs.length = true) (h1 : v.oneCell' = true)
    (k : OpsJ P ops Q K rest N F (St w0 M (blk b (cs.set p v) t' :: L))) : OpsJ P ops Q K (⟨none, .store t x y, ty, pos, after, gd⟩ :: rest) N F (St w0 M (blk b cs t' :: L)) := by
  have hlt : p < cs.length := by simpa [Nat.blt_eq] using hl
  refine sto [v] hg hx hy hc hs rfl (Nat.ble_eq_true_of_le (Nat.succ_le_of_lt hlt)) (by simpa using h1) ?_
  have e : cs.take p ++ [v] ++ cs.drop (p + [v].length) = cs.set p v := by
    rw [List.set_eq_take_append_cons_drop, if_pos hlt]
    simp
  rw [e]
  exact k
/-- .. that replaces all cells. -/
theorem stW {t t' b n : Nat} {x y : Operand} {v : Value} {cs : List Value} (ws : List Value) (hg : Want ops F gd) (hx : ev F x = some (.pointer (some ⟨b, 0, none⟩))) (hy : ev F y = some v)
    (hc : v.cells = ws.toArray) (hs : ∀ w, (Go.sizeOf t).run P w = .ok n w) (hn : ws.length = n) (hl : cs.length = n) (h1 : ∀ u ∈ ws, u.oneCell' = true)
    (k : OpsJ P ops Q K rest N F (St w0 M (blk b ws t' :: L))) : OpsJ P ops Q K (⟨none, .store t x y, ty, pos, after, gd⟩ :: rest) N F (St w0 M (blk b cs t' :: L)) := by
  refine sto ws hg hx hy hc hs hn (Nat.ble_eq_true_of_le (by omega)) h1 ?_
  have e : cs.take 0 ++ ws ++ cs.drop (0 + ws.length) = ws := by
    rw [List.drop_eq_nil_of_le (by omega)]
    simp
  rw [e]
  exact k
theorem extr {x : Operand} {i : Nat} {vs : Array Value} {v : Value} (hg : Want ops F gd) (hx : ev F x = some (.tuple vs)) (hv : vs[i]? = some v) : Yl P ops N F A ⟨some d, .extract x i, ty, pos, after, gd⟩ (v) :=
  opv hg (fun T w hT _ => by simp [execOp, hT.ev hx, Instr.extract, hv])
/-- A field of a struct value. -/
theorem fld {x : Operand} {s f : Nat} {u v : Value} (hg : Want ops F gd) (hx : ev F x = some u) (hv : ∀ w, (Instr.field s u f).run P w = .ok v w) : Yl P ops N F A ⟨some d, .field s x f, ty, pos, after, gd⟩ (v) :=
  opv hg (fun T w hT _ => by simp [execOp, hT.ev hx, hv])
def parts (F : Fr) : List (Nat × Operand) → Option (List (Nat × Value))
  | [] => some []
  | (i, x) :: ps => match ev F x, parts F ps with
    | some v, some vs => some ((i, v) :: vs)
    | _, _ => none
theorem Kn.parts {T : Array Value} (h : Kn N F T) : ∀ {ps : List (Nat × Operand)} {vs : List (Nat × Value)}, parts F ps = some vs → ps.map (fun p => (p.1, (⟨T, []⟩ : Act).eval p.2)) = vs
  | [], vs, hx => by simp [Eng.parts] at hx; subst hx; rfl
  | (i, x) :: ps, vs, hx => by
    simp only [Eng.parts] at hx
    split at hx
    · rename_i v ws hv hw
      simp only [Option.some.injEq] at hx
      subst hx
      simp [h.ev hv, h.parts hw]
    · cases hx
theorem bld {t : TypeId} {ps : Array (Nat × Operand)} {vs : List (Nat × Value)} {v : Value} (hg : Want ops F gd) (hp : parts F ps.toList = some vs)
    (hv : ∀ w, (Instr.build t vs.toArray).run P w = .ok v w) : Yl P ops N F A ⟨some d, .build t ps, ty, pos, after, gd⟩ (v) :=
  opv hg (fun T w hT _ => by
    have e : (ps.map fun p => (p.1, (⟨T, []⟩ : Act).eval p.2)) = vs.toArray := by
      rw [← hT.parts hp]
      apply Array.ext'
      simp
    have e' : (ps.map fun (i, x) => (i, (⟨T, []⟩ : Act).eval x)) = vs.toArray := e
    simp [execOp, e', hv])
theorem mkf {fn : FuncId} {xs ys : Array Operand} {us vs : List Value} (hg : Want ops F gd) (hx : evs F xs.toList = some us) (hy : evs F ys.toList = some vs) : Yl P ops N F A ⟨some d, .makeFunc (.func fn) xs ys, ty, pos, after, gd⟩ (.func (.func fn) us.toArray vs.toArray) :=
  opv hg (fun T w hT _ => by
    have e1 : xs.map (⟨T, []⟩ : Act).eval = us.toArray := by rw [← hT.evs (ds := []) hx]; apply Array.ext'; simp
    have e2 : ys.map (⟨T, []⟩ : Act).eval = vs.toArray := by rw [← hT.evs (ds := []) hy]; apply Array.ext'; simp
    simp [execOp, Instr.makeFunc, e1, e2])
/-- A conversion between integers. -/
theorem cvI {x : Operand} {s t : TypeId} {k1 k2 : IntKind} {n : Int} {du : TypeDesc} (hg : Want ops F gd) (hx : ev F x = some (.int k1 n)) (hs : ∀ w, (underlying s).run P w = .ok du w) (ht : ∀ w, (underlying t).run P w = .ok (.int k2) w)
    (hr : k2.min ≤ n ∧ n ≤ k2.max) : Yl P ops N F A ⟨some d, .convert s t x, ty, pos, after, gd⟩ (.int k2 n) :=
  opv hg (fun T w hT _ => by simp [execOp, hT.ev hx, convert, hs, ht, Conv.intToInt, wrap_in _ _ hr])
theorem cvW {x : Operand} {s t : TypeId} {k1 k2 : IntKind} {n : Int} {du : TypeDesc} (hg : Want ops F gd) (hx : ev F x = some (.int k1 n)) (hs : ∀ w, (underlying s).run P w = .ok du w) (ht : ∀ w, (underlying t).run P w = .ok (.int k2) w) : Yl P ops N F A ⟨some d, .convert s t x, ty, pos, after, gd⟩ (.int k2 (k2.wrap n)) :=
  opv hg (fun T w hT _ => by simp [execOp, hT.ev hx, convert, hs, ht, Conv.intToInt])
/-! ### Builtins -/
theorem bIn {b : Builtin} {xs : Array Operand} {ats : Array TypeId} {vs : List Value} {v : Value} (hg : Want ops F gd) (hx : evs F xs.toList = some vs)
    (hv : ∀ (cs : Array Bool) w, A w → (builtin b ats ty cs vs.toArray).run P w = .ok (.value v) w) : Yl P ops N F A ⟨some d, .call { callee := .builtin b, args := xs, argTypes := ats }, ty, pos, after, gd⟩ (v) :=
  opv hg (fun T w hT hA => by
    have e1 : xs.map (⟨T, []⟩ : Act).eval = vs.toArray := by rw [← hT.evs (ds := []) hx]; apply Array.ext'; simp
    simp [execOp, resolve, e1, invoke, hv _ w hA])
theorem lenS {x : Operand} {t : TypeId} {l : List UInt8} (hg : Want ops F gd) (hx : ev F x = some (str l)) (ht : ∀ w, (underlying t).run P w = .ok .string w) : Yl P ops N F A ⟨some d, .call { callee := .builtin .len, args := #[x], argTypes := #[t] }, ty, pos, after, gd⟩ (.int .i64 (l.length : Nat)) :=
  bIn hg (vs := [str l]) (by simp [evs, hx]) (fun cs w _ => by simp [builtin, Builtin.len_, ht, goInt]; rfl)
theorem lenL {x : Operand} {t e : TypeId} {a : Option Addr} {n c : Nat} (hg : Want ops F gd) (hx : ev F x = some (.slice a n c)) (ht : ∀ w, (underlying t).run P w = .ok (.slice e) w) : Yl P ops N F A ⟨some d, .call { callee := .builtin .len, args := #[x], argTypes := #[t] }, ty, pos, after, gd⟩ (.int .i64 (n : Nat)) :=
  bIn hg (vs := [.slice a n c]) (by simp [evs, hx]) (fun cs w _ => by simp [builtin, Builtin.len_, ht, goInt])
theorem sv_len {o : Option (Nat × Nat)} {e size : Nat} {es : List (List Value)} {w : World} (h : (own o e size es).ok w) : ∃ a c, sv o es.length = .slice a es.length c := by
  cases o with
  | some gc => exact ⟨_, _, rfl⟩
  | none =>
    rcases h.1.2 with ⟨_, h0⟩ | ⟨g, cap, cur, hv, _⟩
    · exact ⟨none, 0, by rw [h0]; rfl⟩
    · simp [sv] at hv
theorem lenO {x : Operand} {t e e' size : Nat} {o : Option (Nat × Nat)} {n : Nat} {es : List (List Value)} (hg : Want ops F gd) (hx : ev F x = some (sv o n)) (hn : es.length = n) (hm : own o e' size es ∈ L) (ht : ∀ w, (underlying t).run P w = .ok (.slice e) w) : Yl P ops N F (St w0 M L) ⟨some d, .call { callee := .builtin .len, args := #[x], argTypes := #[t] }, ty, pos, after, gd⟩ (.int .i64 (n : Nat)) :=
  bIn hg (vs := [sv o n]) (by simp [evs, hx]) (fun cs w hA => by
    obtain ⟨a, c, hac⟩ := sv_len (hA.ok _ hm)
    rw [hn] at hac
    simp [builtin, Builtin.len_, ht, goInt, hac])
theorem min_eq (x y : Int) : (if y < x then y else x) = min x y := by
  rw [Int.min_def]
  split <;> split <;> omega
theorem max_eq (x y : Int) : (if y > x then y else x) = max x y := by
  rw [Int.max_def]
  split <;> split <;> omega
theorem min2 {x y : Operand} {ats : Array TypeId} {kd : IntKind} {m n : Int} (hg : Want ops F gd) (hx : ev F x = some (.int kd m)) (hy : ev F y = some (.int kd n)) : Yl P ops N F A ⟨some d, .call { callee := .builtin .min, args := #[x, y], argTypes := ats }, ty, pos, after, gd⟩ (.int kd (min m n)) :=
  bIn hg (vs := [.int kd m, .int kd n]) (by simp [evs, hx, hy]) (fun cs w _ => by simp [builtin, Builtin.min_, Builtin.min2, min_eq])
theorem max2 {x y : Operand} {ats : Array TypeId} {kd : IntKind} {m n : Int} (hg : Want ops F gd) (hx : ev F x = some (.int kd m)) (hy : ev F y = some (.int kd n)) : Yl P ops N F A ⟨some d, .call { callee := .builtin .max, args := #[x, y], argTypes := ats }, ty, pos, after, gd⟩ (.int kd (max m n)) :=
  bIn hg (vs := [.int kd m, .int kd n]) (by simp [evs, hx, hy]) (fun cs w _ => by
    have := max_eq m n
    simp only [gt_iff_lt] at this
    simp [builtin, Builtin.max_, Builtin.max2, this])
theorem min3 {x y z : Operand} {ats : Array TypeId} {kd : IntKind} {m n q : Int} (hg : Want ops F gd) (hx : ev F x = some (.int kd m)) (hy : ev F y = some (.int kd n)) (hz : ev F z = some (.int kd q)) : Yl P ops N F A ⟨some d, .call { callee := .builtin .min, args := #[x, y, z], argTypes := ats }, ty, pos, after, gd⟩ (.int kd (min (min m n) q)) :=
  bIn hg (vs := [.int kd m, .int kd n, .int kd q]) (by simp [evs, hx, hy, hz]) (fun cs w _ => by simp [builtin, Builtin.min_, Builtin.min2, min_eq])
theorem max3 {x y z : Operand} {ats : Array TypeId} {kd : IntKind} {m n q : Int} (hg : Want ops F gd) (hx : ev F x = some (.int kd m)) (hy : ev F y = some (.int kd n)) (hz : ev F z = some (.int kd q)) : Yl P ops N F A ⟨some d, .call { callee := .builtin .max, args := #[x, y, z], argTypes := ats }, ty, pos, after, gd⟩ (.int kd (max (max m n) q)) :=
  bIn hg (vs := [.int kd m, .int kd n, .int kd q]) (by simp [evs, hx, hy, hz]) (fun cs w _ => by
    have h1 := max_eq m n
    have h2 := max_eq (max m n) q
    simp only [gt_iff_lt] at h1 h2
    simp [builtin, Builtin.max_, Builtin.max2, h1, h2])
end
end Eng
