/- The engine, part B: resources (blocks that the call owns), the state of the world, and the rules of single operations. No program is named here. -/
import Derived.Test.YtggofhbblidimaaDoorEngA
namespace Eng
open Go Go.RowKit

/-! ### Resources -/
structure Res where
  fp : Nat → Prop
  ok : World → Prop
  loc : ∀ {w w' : World}, (∀ k, fp k → w'.heap[k]? = w.heap[k]?) → ok w → ok w'
def Disj (r s : Res) : Prop := ∀ k, r.fp k → ¬ s.fp k
def fpOf (L : List Res) : Nat → Prop := fun k => ∃ r ∈ L, r.fp k
def No : Nat → Prop := fun _ => False
/-- What is known of the world, a call having begun in w0: outside of M what was there is as it was; L is owned. -/
structure St (w0 : World) (M : Nat → Prop) (L : List Res) (w : World) : Prop where
  os : w.os = w0.os
  tape : w.tape = w0.tape
  output : w.output = w0.output
  size : w0.heap.size ≤ w.heap.size
  block : ∀ k, k < w0.heap.size → ¬ M k → w.heap[k]? = w0.heap[k]?
  ok : ∀ r ∈ L, r.ok w
  fp : ∀ r ∈ L, ∀ k, r.fp k → (M k ∨ w0.heap.size ≤ k) ∧ k < w.heap.size
  disj : L.Pairwise Disj
theorem Disj.symm {r s : Res} (h : Disj r s) : Disj s r := fun k hs hr => h k hr hs
theorem St.start (w0 : World) (M : Nat → Prop) : St w0 M [] w0 := ⟨rfl, rfl, rfl, Nat.le_refl _, fun _ _ _ => rfl, by simp, by simp, .nil⟩
theorem St.startM (w0 : World) (L : List Res) (hok : ∀ r ∈ L, r.ok w0) (hfp : ∀ r ∈ L, ∀ k, r.fp k → k < w0.heap.size) (hd : L.Pairwise Disj) : St w0 (fpOf L) L w0 :=
  ⟨rfl, rfl, rfl, Nat.le_refl _, fun _ _ _ => rfl, hok, fun r hr k hk => ⟨.inl ⟨r, hr, hk⟩, hfp r hr k hk⟩, hd⟩
theorem St.perm {w0 w : World} {M : Nat → Prop} {L L' : List Res} (h : St w0 M L w) (hp : L.Perm L') : St w0 M L' w :=
  ⟨h.os, h.tape, h.output, h.size, h.block, fun r hr => h.ok r (hp.mem_iff.2 hr), fun r hr => h.fp r (hp.mem_iff.2 hr), (hp.pairwise_iff fun h => h.symm).1 h.disj⟩
theorem St.subl {w0 w : World} {M : Nat → Prop} {L L' : List Res} (h : St w0 M L w) (hs : L'.Sublist L) : St w0 M L' w :=
  ⟨h.os, h.tape, h.output, h.size, h.block, fun r hr => h.ok r (hs.subset hr), fun r hr => h.fp r (hs.subset hr), h.disj.sublist hs⟩
/-- A callee's, or an operation's, part of the work: L0 is handed over, Rs comes back. -/
theorem St.call {w0 w w' : World} {M : Nat → Prop} {L0 L1 Rs : List Res} (h : St w0 M (L0 ++ L1) w) (hc : St w (fpOf L0) Rs w') : St w0 M (Rs ++ L1) w' := by
  have hd := List.pairwise_append.1 h.disj
  have keep : ∀ r ∈ L1, ∀ k, r.fp k → w'.heap[k]? = w.heap[k]? := fun r hr k hk =>
    hc.block k (h.fp r (List.mem_append_right _ hr) k hk).2 (fun ⟨s, hs, hsk⟩ => hd.2.2 s hs r hr k hsk hk)
  refine ⟨hc.os.trans h.os, hc.tape.trans h.tape, hc.output.trans h.output, Nat.le_trans h.size hc.size, fun k hk hM => ?_, fun r hr => ?_, fun r hr k hk => ?_, ?_⟩
  · refine (hc.block k (Nat.lt_of_lt_of_le hk h.size) (fun ⟨s, hs, hsk⟩ => ?_)).trans (h.block k hk hM)
    rcases (h.fp s (List.mem_append_left _ hs) k hsk).1 with h1 | h1
    · exact hM h1
    · omega
  · rcases List.mem_append.1 hr with hr | hr
    · exact hc.ok r hr
    · exact r.loc (keep r hr) (h.ok r (List.mem_append_right _ hr))
  · rcases List.mem_append.1 hr with hr | hr
    · have h1 := hc.fp r hr k hk
      refine ⟨?_, h1.2⟩
      rcases h1.1 with ⟨s, hs, hsk⟩ | h2
      · exact (h.fp s (List.mem_append_left _ hs) k hsk).1
      · exact .inr (Nat.le_trans h.size h2)
    · have h1 := h.fp r (List.mem_append_right _ hr) k hk
      exact ⟨h1.1, Nat.lt_of_lt_of_le h1.2 hc.size⟩
  · refine List.pairwise_append.2 ⟨hc.disj, hd.2.1, fun r hr s hs k hrk hsk => ?_⟩
    have h1 := hc.fp r hr k hrk
    rcases h1.1 with ⟨t, ht, htk⟩ | h2
    · exact hd.2.2 t ht s hs k htk hsk
    · have := (h.fp s (List.mem_append_right _ hs) k hsk).2
      omega
theorem St.call0 {w0 w w' : World} {M : Nat → Prop} {L Rs : List Res} (h : St w0 M L w) (hc : St w No Rs w') : St w0 M (Rs ++ L) w' :=
  St.call (L0 := []) h ⟨hc.os, hc.tape, hc.output, hc.size, fun k hk _ => hc.block k hk (fun h => h), hc.ok, fun r hr k hk => ⟨.inr ((hc.fp r hr k hk).1.resolve_left (fun h => h)), (hc.fp r hr k hk).2⟩, hc.disj⟩
theorem St.below {w0 w : World} {L : List Res} (h : St w0 No L w) : Below w0.heap.size w0 w := ⟨h.os, h.tape, h.output, h.size, fun k hk => h.block k hk (fun h => h)⟩
theorem St.of_below {w0 w : World} (h : Below w0.heap.size w0 w) : St w0 No [] w := ⟨h.os, h.tape, h.output, h.size, fun k hk _ => h.block k hk, by simp, by simp, .nil⟩
theorem St.of_below_res {w0 w : World} (h : Below w0.heap.size w0 w) {r : Res} (hr : r.ok w) (hfp : ∀ k, r.fp k → w0.heap.size ≤ k ∧ k < w.heap.size) : St w0 No [r] w :=
  ⟨h.os, h.tape, h.output, h.size, fun k hk _ => h.block k hk, by simpa using hr, by simpa using fun k hk => ⟨.inr (hfp k hk).1, (hfp k hk).2⟩, List.pairwise_singleton _ _⟩
-- the head is exchanged
theorem St.b1 {w0 w : World} {M : Nat → Prop} {a b : Res} {L : List Res} (h : St w0 M (a :: b :: L) w) : St w0 M (b :: a :: L) w := h.perm (.swap _ _ _)
theorem St.b2 {w0 w : World} {M : Nat → Prop} {a b c : Res} {L : List Res} (h : St w0 M (a :: b :: c :: L) w) : St w0 M (c :: a :: b :: L) w :=
  h.perm ((List.Perm.cons _ (.swap _ _ _)).trans (.swap _ _ _))
theorem perm_bring {α : Type} (x : α) (l m : List α) : (l ++ x :: m).Perm (x :: (l ++ m)) := List.perm_middle
theorem St.b3 {w0 w : World} {M : Nat → Prop} {a b c d : Res} {L : List Res} (h : St w0 M (a :: b :: c :: d :: L) w) : St w0 M (d :: a :: b :: c :: L) w := h.perm (perm_bring d [a, b, c] L)
theorem St.b4 {w0 w : World} {M : Nat → Prop} {a b c d e : Res} {L : List Res} (h : St w0 M (a :: b :: c :: d :: e :: L) w) : St w0 M (e :: a :: b :: c :: d :: L) w := h.perm (perm_bring e [a, b, c, d] L)
theorem St.b5 {w0 w : World} {M : Nat → Prop} {a b c d e f : Res} {L : List Res} (h : St w0 M (a :: b :: c :: d :: e :: f :: L) w) : St w0 M (f :: a :: b :: c :: d :: e :: L) w := h.perm (perm_bring f [a, b, c, d, e] L)
theorem St.b6 {w0 w : World} {M : Nat → Prop} {a b c d e f g : Res} {L : List Res} (h : St w0 M (a :: b :: c :: d :: e :: f :: g :: L) w) : St w0 M (g :: a :: b :: c :: d :: e :: f :: L) w := h.perm (perm_bring g [a, b, c, d, e, f] L)
theorem St.b7 {w0 w : World} {M : Nat → Prop} {a b c d e f g i : Res} {L : List Res} (h : St w0 M (a :: b :: c :: d :: e :: f :: g :: i :: L) w) : St w0 M (i :: a :: b :: c :: d :: e :: f :: g :: L) w := h.perm (perm_bring i [a, b, c, d, e, f, g] L)
theorem St.drop1 {w0 w : World} {M : Nat → Prop} {a : Res} {L : List Res} (h : St w0 M (a :: L) w) : St w0 M L w := h.subl (List.sublist_cons_self _ _)

/-- A block, known whole. -/
def blk (b : Nat) (cs : List Value) (t : TypeId) : Res where
  fp := fun k => k = b
  ok := fun w => w.heap[b]? = some (.cells cs.toArray t (0, 0))
  loc := fun h hk => (h b rfl).trans hk
/-- The value of a slice that the call owns. -/
def sv : Option (Nat × Nat) → Nat → Value
  | none, _ => .slice none 0 0
  | some (g, cap), n => .slice (some ⟨g, 0, none⟩) n cap
/-- A slice that the call owns: its rows. -/
def own (o : Option (Nat × Nat)) (e size : Nat) (es : List (List Value)) : Res where
  fp := fun k => (sv o es.length).ownBlock = some k
  ok := fun w => w.ownsRow 0 e size (sv o es.length) es.length es.flatten ∧ ∀ r ∈ es, r.length = size
  loc := by
    intro w w' h ⟨hk, hl⟩
    refine ⟨⟨hk.1, ?_⟩, hl⟩
    rcases hk.2 with hn | ⟨g, cap, cur, hv, hb, hg, rest⟩
    · exact .inl hn
    · exact .inr ⟨g, cap, cur, hv, hb, by rw [h g (by rw [hv]; rfl)]; exact hg, rest⟩
def Row (w : World) (b o : Nat) (vs : List Value) : Prop := ∀ j v, vs[j]? = some v → w.cell? ⟨b, o + j, none⟩ = some v
def Has (A : WA) (b o : Nat) (vs : List Value) : Prop := ∀ w, A w → Row w b o vs
theorem cells_row {w : World} {b : Nat} {cs : List Value} {t : TypeId} {fr : Nat × Nat} (h : w.heap[b]? = some (.cells cs.toArray t fr)) : Row w b 0 cs := by
  intro j v hj
  simp [World.cell?, h, hj]
theorem hasBlk {w0 : World} {M : Nat → Prop} {L : List Res} {b : Nat} {cs : List Value} {t : TypeId} (hm : blk b cs t ∈ L) : Has (St w0 M L) b 0 cs := fun _ hw => cells_row (hw.ok _ hm)
theorem hasArg {w0 : World} {M : Nat → Prop} {L : List Res} {b o : Nat} {vs : List Value} (hr : Row w0 b o vs) (hM : ¬ M b) : Has (St w0 M L) b o vs := fun w hw j v hj => by
  have hc := hr j v hj
  have hlt : b < w0.heap.size := World.block_lt_of_cell? w0 ⟨b, o + j, none⟩ hc
  exact (World.cell?_of_block (w := w0) (a := ⟨b, o + j, none⟩) (hw.block b hlt hM)).trans hc
theorem flatten_rows {size : Nat} : ∀ (es : List (List Value)), (∀ r ∈ es, r.length = size) → ∀ i r, es[i]? = some r → ∀ j v, r[j]? = some v → es.flatten[i * size + j]? = some v
  | [], _, i, r, h, _, _, _ => by simp at h
  | e :: es, hl, 0, r, h, j, v, hj => by
    simp at h
    subst h
    have hlt : j < e.length := (List.getElem?_eq_some_iff.1 hj).1
    simp only [List.flatten_cons, Nat.zero_mul, Nat.zero_add]
    rw [List.getElem?_append_left hlt]
    exact hj
  | e :: es, hl, i + 1, r, h, j, v, hj => by
    have he : e.length = size := hl e (by simp)
    have := flatten_rows es (fun r hr => hl r (by simp [hr])) i r (by simpa using h) j v hj
    simp only [List.flatten_cons]
    rw [List.getElem?_append_right (by rw [he, Nat.add_mul]; omega)]
    rw [he, show (i + 1) * size + j - size = i * size + j by rw [Nat.add_mul]; omega]
    exact this
theorem hasOwn {w0 : World} {M : Nat → Prop} {L : List Res} {g cap e size : Nat} {es : List (List Value)} (hm : own (some (g, cap)) e size es ∈ L) {i : Nat} {r : List Value} (hi : es[i]? = some r) :
    Has (St w0 M L) g (i * size) r := fun w hw j v hj => by
  obtain ⟨hk, hl⟩ := hw.ok _ hm
  have hf := flatten_rows es hl i r hi j v hj
  rcases hk.2 with ⟨hn, _⟩ | ⟨g', cap', cur, hv, _, hg, _, _, _, htake⟩
  · simp [sv] at hn
  · simp only [sv, Value.slice.injEq, Option.some.injEq, Addr.mk.injEq, and_true, true_and] at hv
    obtain ⟨rfl, rfl⟩ := hv
    rw [← htake, List.getElem?_take] at hf
    split at hf
    · simp only [World.cell?, hg]
      simpa using hf
    · cases hf

/-! ### Operations -/
section
variable {P : Program} {ops : Array Oper} {Q : Exit → Act → World → Prop} {K : Act → World → Prop} {N : Nat} {F : Fr} {A : WA} {rest : List Oper}
variable {d : Tmp} {ty : TypeId} {pos : String} {after : Array Edge} {gd : Option (Nat × Bool)}

theorem OpsJ.conv {l : List Oper} {B : WA} (hA : ∀ w, A w → B w) (h : OpsJ P ops Q K l N F B) : OpsJ P ops Q K l N F A := fun T w hT hw => h T w hT (hA w hw)
theorem CodeJ.conv {c : Code} {B : WA} (hA : ∀ w, A w → B w) (h : CodeJ P c Q N F B) : CodeJ P c Q N F A := fun T w hT hw => h T w hT (hA w hw)
theorem EndJ.conv {B : WA} (hA : ∀ w, A w → B w) (h : EndJ K N F B) : EndJ K N F A := fun T w hT hw => h T w hT (hA w hw)

def Want (ops : Array Oper) (F : Fr) : Option (Nat × Bool) → Prop
  | none => True
  | some (j, b) => ∃ t, (ops[j]?).bind (·.dst) = some t ∧ look F t = some (.bool b)
theorem Want.wanted {o : Oper} (h : Want ops F o.guard) {T : Array Value} (hT : Kn N F T) : Region.wanted o (yielded ops T) = true := by
  unfold Region.wanted
  cases hg : o.guard with
  | none => rfl
  | some g =>
    obtain ⟨j, b⟩ := g
    rw [hg] at h
    obtain ⟨t, h1, h2⟩ := h
    have := hT.known t _ h2
    simp [yielded, h1, this]
/-- An operation that leaves the world as it is, and what it yields (a guard that says no: nothing). -/
def Yl (P : Program) (ops : Array Oper) (N : Nat) (F : Fr) (A : WA) (o : Oper) (v : Value) : Prop :=
  ∀ T w, Kn N F T → A w → (Region.wanted o (yielded ops T) = true ∧ (execOp (⟨T, []⟩ : Act).eval o).run P w = .ok (.value v) w) ∨ (Region.wanted o (yielded ops T) = false ∧ v = undef)
theorem Yl.weak {o : Oper} {v : Value} {B : WA} (hA : ∀ w, A w → B w) (h : Yl P ops N F B o v) : Yl P ops N F A o v := fun T w hT hw => h T w hT (hA w hw)
/-- Such an operation first. -/
theorem vl {op : Op} {v : Value} (hd : Nat.blt d N = true) (h : Yl P ops N F A ⟨some d, op, ty, pos, after, gd⟩ v) (k : OpsJ P ops Q K rest N ((d, v) :: F) A) :
    OpsJ P ops Q K (⟨some d, op, ty, pos, after, gd⟩ :: rest) N F A := by
  intro T w hT hA
  simp only [run]
  rcases h T w hT hA with ⟨h1, h2⟩ | ⟨h1, rfl⟩
  · rw [if_pos h1]
    refine .inl ?_
    unfold Oper.wp
    rw [h2]
    exact k _ w (hT.put d v hd) hA
  · rw [if_neg (by rw [h1]; simp)]
    exact k _ w (hT.put d undef hd) hA
theorem opv {op : Op} {v : Value} (hg : Want ops F gd)
    (hrun : ∀ T w, Kn N F T → A w → (execOp (⟨T, []⟩ : Act).eval ⟨some d, op, ty, pos, after, gd⟩).run P w = .ok (.value v) w) :
    Yl P ops N F A ⟨some d, op, ty, pos, after, gd⟩ v :=
  fun T w hT hA => .inl ⟨Want.wanted (o := ⟨some d, op, ty, pos, after, gd⟩) hg hT, hrun T w hT hA⟩
/-- An operation that is passed over. -/
theorem skp {op : Op} {j : Nat} {b : Bool} {t : Tmp} {v : Value} (ht : (ops[j]?).bind (·.dst) = some t) (hv : look F t = some v) (hne : v ≠ .bool b) :
    Yl P ops N F A ⟨some d, op, ty, pos, after, some (j, b)⟩ undef := by
  intro T w hT hA
  refine .inr ⟨?_, rfl⟩
  have := hT.known t _ hv
  simp only [Region.wanted, yielded, ht, Option.bind_some]
  cases v <;> simp [this]
  intro e
  exact hne (by rw [e])
theorem skT {op : Op} {j : Nat} {t : Tmp} (ht : (ops[j]?).bind (·.dst) = some t) (hv : look F t = some (.bool false)) : Yl P ops N F A ⟨some d, op, ty, pos, after, some (j, true)⟩ (undef) := skp ht hv (by simp)
theorem skF {op : Op} {j : Nat} {t : Tmp} (ht : (ops[j]?).bind (·.dst) = some t) (hv : look F t = some (.bool true)) : Yl P ops N F A ⟨some d, op, ty, pos, after, some (j, false)⟩ (undef) := skp ht hv (by simp)
theorem skU {op : Op} {j : Nat} {b : Bool} {t : Tmp} (ht : (ops[j]?).bind (·.dst) = some t) (hv : look F t = some undef) : Yl P ops N F A ⟨some d, op, ty, pos, after, some (j, b)⟩ (undef) := skp ht hv (by simp [undef])
/-- A test's two ways: the slot is then known. -/
theorem splitB {l : List Oper} (i : Nat) {c : Bool} (hc : look F i = some (.bool c)) (ht : c = true → OpsJ P ops Q K l N ((i, .bool true) :: F) A) (hf : c = false → OpsJ P ops Q K l N ((i, .bool false) :: F) A) : OpsJ P ops Q K l N F A := by
  intro T w hT hA
  have key : ∀ b, c = b → Kn N ((i, .bool b) :: F) T := fun b hb => ⟨hT.size, fun k v hk => by
    rw [look_cons] at hk
    by_cases hi : i = k
    · subst hi
      simp at hk
      subst hk
      subst hb
      exact hT.known _ _ hc
    · rw [if_neg hi] at hk
      exact hT.known k v hk⟩
  cases hcb : c
  · exact hf hcb T w (key _ hcb) hA
  · exact ht hcb T w (key _ hcb) hA
/-- A slot's value is said otherwise. -/
theorem respell {l : List Oper} (i : Nat) {v : Value} (u : Value) (hv : look F i = some v) (e : v = u) (k : OpsJ P ops Q K l N ((i, u) :: F) A) : OpsJ P ops Q K l N F A := by
  intro T w hT hA
  refine k T w ⟨hT.size, fun j x hx => ?_⟩ hA
  rw [look_cons] at hx
  by_cases hi : i = j
  · subst hi
    simp at hx
    subst hx
    subst e
    exact hT.known _ _ hv
  · rw [if_neg hi] at hx
    exact hT.known j x hx
theorem mv {x : Operand} {v : Value} (hg : Want ops F gd) (hx : ev F x = some v) : Yl P ops N F A ⟨some d, .move x, ty, pos, after, gd⟩ (v) :=
  opv hg (fun T w hT _ => by simp [execOp, hT.ev hx])
theorem asg {x : Operand} {v : Value} (hg : Want ops F gd) (hx : ev F x = some v) : Yl P ops N F A ⟨some d, .assign x, ty, pos, after, gd⟩ (v) :=
  opv hg (fun T w hT _ => by simp [execOp, hT.ev hx])
theorem pk {c x y : Operand} {b : Bool} {u v : Value} (hg : Want ops F gd) (hc : ev F c = some (.bool b)) (hx : ev F x = some u) (hy : ev F y = some v) : Yl P ops N F A ⟨some d, .pick c x y, ty, pos, after, gd⟩ (if b then u else v) :=
  opv hg (fun T w hT _ => by simp [execOp, hT.ev hc, hT.ev hx, hT.ev hy, asBool])
theorem pkT {c x y : Operand} {u : Value} (hg : Want ops F gd) (hc : ev F c = some (.bool true)) (hx : ev F x = some u) : Yl P ops N F A ⟨some d, .pick c x y, ty, pos, after, gd⟩ (u) :=
  opv hg (fun T w hT _ => by simp [execOp, hT.ev hc, hT.ev hx, asBool])
theorem pkF {c x y : Operand} {v : Value} (hg : Want ops F gd) (hc : ev F c = some (.bool false)) (hy : ev F y = some v) : Yl P ops N F A ⟨some d, .pick c x y, ty, pos, after, gd⟩ (v) :=
  opv hg (fun T w hT _ => by simp [execOp, hT.ev hc, hT.ev hy, asBool])
/-- nilCheck of an address. -/
theorem nck {x : Operand} {a : Addr} (hg : Want ops F gd) (hx : ev F x = some (.pointer (some a))) : Yl P ops N F A ⟨some d, .nilCheck x, ty, pos, after, gd⟩ (.pointer (some a)) :=
  opv hg (fun T w hT _ => by simp [execOp, hT.ev hx])
-- integers
theorem wrap_in (k : IntKind) (n : Int) (h : k.min ≤ n ∧ n ≤ k.max) : k.wrap n = n := by
  cases k <;> simp [IntKind.wrap, IntKind.min, IntKind.max, IntKind.signed, IntKind.bits] at * <;> (try split) <;> omega
theorem binI {op : BinOp} {x y : Operand} {t t' : TypeId} {kd : IntKind} {m n : Int} {v : Value} (hg : Want ops F gd) (hx : ev F x = some (.int kd m)) (hy : ev F y = some (.int kd n))
    (hv : ∀ w : World, (binOp op t (.int kd m) (.int kd n)).run P w = .ok v w) : Yl P ops N F A ⟨some d, .binOp op t x y t', ty, pos, after, gd⟩ (v) :=
  opv hg (fun T w hT _ => by
    have h1 : ∀ w : World, (eqGuard op t x y (.int kd m) (.int kd n)).run P w = .ok () w := fun w => by
      cases op <;> rfl
    simp [execOp, hT.ev hx, hT.ev hy, h1, hv])
theorem addI {x y : Operand} {t t' : TypeId} {kd : IntKind} {m n : Int} (hg : Want ops F gd) (hx : ev F x = some (.int kd m)) (hy : ev F y = some (.int kd n)) (hr : kd.min ≤ m + n ∧ m + n ≤ kd.max) : Yl P ops N F A ⟨some d, .binOp .add t x y t', ty, pos, after, gd⟩ (.int kd (m + n)) :=
  binI hg hx hy (fun w => by simp [binOp, Op.intArith, wrap_in kd _ hr])
theorem subI {x y : Operand} {t t' : TypeId} {kd : IntKind} {m n : Int} (hg : Want ops F gd) (hx : ev F x = some (.int kd m)) (hy : ev F y = some (.int kd n)) (hr : kd.min ≤ m - n ∧ m - n ≤ kd.max) : Yl P ops N F A ⟨some d, .binOp .sub t x y t', ty, pos, after, gd⟩ (.int kd (m - n)) :=
  binI hg hx hy (fun w => by simp [binOp, Op.intArith, wrap_in kd _ hr])
theorem mulI {x y : Operand} {t t' : TypeId} {kd : IntKind} {m n : Int} (hg : Want ops F gd) (hx : ev F x = some (.int kd m)) (hy : ev F y = some (.int kd n)) (hr : kd.min ≤ m * n ∧ m * n ≤ kd.max) : Yl P ops N F A ⟨some d, .binOp .mul t x y t', ty, pos, after, gd⟩ (.int kd (m * n)) :=
  binI hg hx hy (fun w => by simp [binOp, Op.intArith, wrap_in kd _ hr])
theorem addW {x y : Operand} {t t' : TypeId} {kd : IntKind} {m n : Int} (hg : Want ops F gd) (hx : ev F x = some (.int kd m)) (hy : ev F y = some (.int kd n)) : Yl P ops N F A ⟨some d, .binOp .add t x y t', ty, pos, after, gd⟩ (.int kd (kd.wrap (m + n))) :=
  binI hg hx hy (fun w => by simp [binOp, Op.intArith])
theorem subW {x y : Operand} {t t' : TypeId} {kd : IntKind} {m n : Int} (hg : Want ops F gd) (hx : ev F x = some (.int kd m)) (hy : ev F y = some (.int kd n)) : Yl P ops N F A ⟨some d, .binOp .sub t x y t', ty, pos, after, gd⟩ (.int kd (kd.wrap (m - n))) :=
  binI hg hx hy (fun w => by simp [binOp, Op.intArith])
theorem eqI {x y : Operand} {t t' : TypeId} {kd : IntKind} {m n : Int} (hg : Want ops F gd) (hx : ev F x = some (.int kd m)) (hy : ev F y = some (.int kd n)) : Yl P ops N F A ⟨some d, .binOp .eql t x y t', ty, pos, after, gd⟩ (.bool (decide (m = n))) :=
  binI hg hx hy (fun w => by simp [binOp, Op.intCmp]; rfl)
theorem neI {x y : Operand} {t t' : TypeId} {kd : IntKind} {m n : Int} (hg : Want ops F gd) (hx : ev F x = some (.int kd m)) (hy : ev F y = some (.int kd n)) : Yl P ops N F A ⟨some d, .binOp .neq t x y t', ty, pos, after, gd⟩ (.bool (!decide (m = n))) :=
  binI hg hx hy (fun w => by simp [binOp, Op.intCmp]; rfl)
theorem ltI {x y : Operand} {t t' : TypeId} {kd : IntKind} {m n : Int} (hg : Want ops F gd) (hx : ev F x = some (.int kd m)) (hy : ev F y = some (.int kd n)) : Yl P ops N F A ⟨some d, .binOp .lss t x y t', ty, pos, after, gd⟩ (.bool (decide (m < n))) :=
  binI hg hx hy (fun w => by simp [binOp, Op.intCmp])
theorem leI {x y : Operand} {t t' : TypeId} {kd : IntKind} {m n : Int} (hg : Want ops F gd) (hx : ev F x = some (.int kd m)) (hy : ev F y = some (.int kd n)) : Yl P ops N F A ⟨some d, .binOp .leq t x y t', ty, pos, after, gd⟩ (.bool (decide (m ≤ n))) :=
  binI hg hx hy (fun w => by simp [binOp, Op.intCmp])
theorem gtI {x y : Operand} {t t' : TypeId} {kd : IntKind} {m n : Int} (hg : Want ops F gd) (hx : ev F x = some (.int kd m)) (hy : ev F y = some (.int kd n)) : Yl P ops N F A ⟨some d, .binOp .gtr t x y t', ty, pos, after, gd⟩ (.bool (decide (n < m))) :=
  binI hg hx hy (fun w => by simp [binOp, Op.intCmp])
theorem geI {x y : Operand} {t t' : TypeId} {kd : IntKind} {m n : Int} (hg : Want ops F gd) (hx : ev F x = some (.int kd m)) (hy : ev F y = some (.int kd n)) : Yl P ops N F A ⟨some d, .binOp .geq t x y t', ty, pos, after, gd⟩ (.bool (decide (n ≤ m))) :=
  binI hg hx hy (fun w => by simp [binOp, Op.intCmp])
theorem notB {x : Operand} {t : TypeId} {b : Bool} (hg : Want ops F gd) (hx : ev F x = some (.bool b)) : Yl P ops N F A ⟨some d, .unOp .not t x, ty, pos, after, gd⟩ (.bool (!b)) :=
  opv hg (fun T w hT _ => by simp [execOp, hT.ev hx, Op.unary])
theorem negI {x : Operand} {t : TypeId} {kd : IntKind} {m : Int} (hg : Want ops F gd) (hx : ev F x = some (.int kd m)) (hr : kd.min ≤ -m ∧ -m ≤ kd.max) : Yl P ops N F A ⟨some d, .unOp .neg t x, ty, pos, after, gd⟩ (.int kd (-m)) :=
  opv hg (fun T w hT _ => by simp [execOp, hT.ev hx, Op.unary, Op.intArith, wrap_in kd _ hr])
end
theorem all1 {ws : List Value} (h : ws.all Value.oneCell' = true) : ∀ u ∈ ws, u.oneCell' = true := by simpa using List.all_eq_true.1 h
theorem sv_cells (o : Option (Nat × Nat)) (n : Nat) : (sv o n).cells = #[sv o n] := by cases o <;> rfl
theorem sv_one (o : Option (Nat × Nat)) (n : Nat) : (sv o n).oneCell' = true := by cases o <;> rfl
end Eng
