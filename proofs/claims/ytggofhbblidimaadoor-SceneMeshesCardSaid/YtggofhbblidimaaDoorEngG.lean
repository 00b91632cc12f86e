/- The engine, part G: regions whose order is open, and further operations. No program is named here. -/
import Derived.Test.YtggofhbblidimaaDoorEngF
import Derived.Laws.BytesArg
import Derived.Lib.AppendStr
import Derived.Lib.UnsafeStr
namespace Eng
open Go Go.RowKit

/-! ### A region whose order is open -/
/-- No panic. -/
def NP (Q : Exit → Act → World → Prop) : Exit → Act → World → Prop
  | .panic _, _, _ => False
  | e, a, w => Q e a w
theorem NP.imp {Q : Exit → Act → World → Prop} : ∀ e a w, NP Q e a w → Q e a w
  | .panic _, _, _, h => h.elim
  | .normal, _, _, h => h
  | .ret, _, _, h => h
  | .exit _, _, _, h => h
  | .goto _, _, _, h => h
  | .outgrown, _, _, h => h
def AnyJ (P : Program) (ops : Array Oper) (Q : Exit → Act → World → Prop) (S : WA) (n : Nat) (li : Array Bool) (N : Nat) (F : Fr) (A : WA) : Prop :=
  ∀ T w, Kn N F T → A w → wpAnyH P .any ops (NP Q) S n li ⟨T, []⟩ w
theorem St.drawn {w0 w : World} {M : Nat → Prop} {L : List Res} {n : Nat} (h : St w0 M L w) : St w0 M L { w with drawn := n } :=
  ⟨h.os, h.tape, h.output, h.size, h.block, fun r hr => r.loc (w := w) (fun _ _ => rfl) (h.ok r hr), h.fp, h.disj⟩
section
variable {P : Program} {ops : Array Oper} {Q : Exit → Act → World → Prop} {K : Act → World → Prop} {N : Nat} {F : Fr} {A S : WA} {rest : List Oper}
variable {d : Tmp} {ty : TypeId} {pos : String} {after : Array Edge} {gd : Option (Nat × Bool)} {w0 : World} {M : Nat → Prop} {L : List Res}
theorem regionD {id n : Nat} {l : List Oper} {li : Array Bool} (S : WA) (hm : P.follows .mixedOrders = true) (hn : l.toArray.size = n) (hl : Array.replicate n false = li) (h : AnyJ P l.toArray Q S n li N F (St w0 M L)) :
    CodeJ P (.region id l.toArray true) Q N F (St w0 M L) := by
  subst hn
  subst hl
  exact fun T w hT hA => Code.wp_mono NP.imp (wp_region_held hm (h T _ hT hA.drawn))
theorem regionE {id n : Nat} {l : List Oper} {li : Array Bool} (hm : P.follows .mixedOrders = true) (hn : l.toArray.size = n) (hl : Array.replicate n false = li) (h : AnyJ P l.toArray Q (St w0 M L) n li N F (St w0 M L)) :
    CodeJ P (.region id l.toArray true) Q N F (St w0 M L) := regionD _ hm hn hl h
/-- What may be taken first is taken first. -/
theorem takeV {n : Nat} (i : Nat) {li li' : Array Bool} {op : Op} {v : Value} (hi : ops[i]? = some ⟨some d, op, ty, pos, after, gd⟩)
    (hc : (Region.noSelect ops && Region.free .any ops li i && (Region.ready .any ops li).contains i) = true) (hli : li.setIfInBounds i true = li') (hS : ∀ w, A w → S w)
    (hd : Nat.blt d N = true) (hy : Yl P ops N F S ⟨some d, op, ty, pos, after, gd⟩ v) (k : AnyJ P ops Q S n li' N ((d, v) :: F) A) : AnyJ P ops Q S (n + 1) li N F A := by
  intro T w hT hA
  simp only [Bool.and_eq_true] at hc
  subst hli
  refine wpAnyH_take hi hc.1.1 hc.1.2 hc.2 (fun _ _ _ h => h.elim) ?_ (hS w hA) (k _ w (hT.put d v hd) hA)
  by_cases hw : Region.wanted ⟨some d, op, ty, pos, after, gd⟩ (yielded ops T) = true
  · refine .inl ⟨hw, fun w' hw' => ?_⟩
    rcases hy T w' hT hw' with h | h
    · exact h.2
    · rw [h.1] at hw; cases hw
  · refine .inr ⟨by simpa using hw, ?_⟩
    rcases hy T w hT (hS w hA) with h | h
    · exact absurd h.1 hw
    · exact h.2
/-- Behind an operation that came up. -/
def NxD (P : Program) (ops : Array Oper) (Q : Exit → Act → World → Prop) (S : WA) (n : Nat) (li : Array Bool) : Act → World → Prop := fun a w => S w ∧ wpAnyH P .any ops (NP Q) S n li a w
theorem nxD {n : Nat} {li : Array Bool} (hS : ∀ w, A w → S w) (h : AnyJ P ops Q S n li N F A) : EndJ (NxD P ops Q S n li) N F A := fun T w hT hA => ⟨hS w hA, h T w hT hA⟩
theorem wpOp_of {i : Nat} {o : Oper} {T : Array Value} {w : World} (ho : ops[i]? = some o) (h : run P ops (NP Q) K [o] ⟨T, []⟩ w) : wpOp P ops (NP Q) i K ⟨T, []⟩ w := by
  unfold wpOp
  rw [ho]
  exact h
theorem stepD {n i : Nat} {li li' : Array Bool} {o : Oper} (hr : Region.ready .any ops li = [i]) (ho : ops[i]? = some o) (hli : li.setIfInBounds i true = li')
    (h : OpsJ P ops (NP Q) (NxD P ops Q S n li') [o] N F A) : AnyJ P ops Q S (n + 1) li N F A := by
  intro T w hT hA
  refine wpAnyH_all hr (by simp) (fun j hj => ?_)
  simp only [List.mem_singleton] at hj
  subst hj
  rw [hli]
  exact wpOp_of ho (h T w hT hA)
theorem stepD2 {n i j : Nat} {li l1 l2 : Array Bool} {o1 o2 : Oper} (hr : Region.ready .any ops li = [i, j]) (h1 : ops[i]? = some o1) (h2 : ops[j]? = some o2) (hl1 : li.setIfInBounds i true = l1) (hl2 : li.setIfInBounds j true = l2)
    (k1 : OpsJ P ops (NP Q) (NxD P ops Q S n l1) [o1] N F A) (k2 : OpsJ P ops (NP Q) (NxD P ops Q S n l2) [o2] N F A) : AnyJ P ops Q S (n + 1) li N F A := by
  intro T w hT hA
  refine wpAnyH_all hr (by simp) (fun x hx => ?_)
  simp only [List.mem_cons, List.not_mem_nil, or_false] at hx
  rcases hx with rfl | rfl
  · rw [hl1]; exact wpOp_of h1 (k1 T w hT hA)
  · rw [hl2]; exact wpOp_of h2 (k2 T w hT hA)
theorem stepD3 {n i j u : Nat} {li l1 l2 l3 : Array Bool} {o1 o2 o3 : Oper} (hr : Region.ready .any ops li = [i, j, u]) (h1 : ops[i]? = some o1) (h2 : ops[j]? = some o2) (h3 : ops[u]? = some o3)
    (hl1 : li.setIfInBounds i true = l1) (hl2 : li.setIfInBounds j true = l2) (hl3 : li.setIfInBounds u true = l3)
    (k1 : OpsJ P ops (NP Q) (NxD P ops Q S n l1) [o1] N F A) (k2 : OpsJ P ops (NP Q) (NxD P ops Q S n l2) [o2] N F A) (k3 : OpsJ P ops (NP Q) (NxD P ops Q S n l3) [o3] N F A) : AnyJ P ops Q S (n + 1) li N F A := by
  intro T w hT hA
  refine wpAnyH_all hr (by simp) (fun x hx => ?_)
  simp only [List.mem_cons, List.not_mem_nil, or_false] at hx
  rcases hx with rfl | rfl | rfl
  · rw [hl1]; exact wpOp_of h1 (k1 T w hT hA)
  · rw [hl2]; exact wpOp_of h2 (k2 T w hT hA)
  · rw [hl3]; exact wpOp_of h3 (k3 T w hT hA)
theorem doneD {n : Nat} {li : Array Bool} (hr : (Region.ready .any ops li).isEmpty = true) (h : EndJ (Q .normal) N F A) : AnyJ P ops Q S n li N F A := by
  intro T w hT hA
  exact wpAnyH_done (Q := NP Q) (List.isEmpty_iff.1 hr) (h T w hT hA) n
theorem AnyJ.conv {n : Nat} {li : Array Bool} {B : WA} (hA : ∀ w, A w → B w) (h : AnyJ P ops Q S n li N F B) : AnyJ P ops Q S n li N F A := fun T w hT hw => h T w hT (hA w hw)
theorem AnyJ.lies {m : Nat} {li : Array Bool} {e size n : Nat} {o : Option (Nat × Nat)} {es : List (List Value)} (hm : own o e size es ∈ L) (hn : es.length = n) (hpos : 0 < n)
    (k : ∀ g cap, o = some (g, cap) → AnyJ P ops Q S m li N F (St w0 M L)) : AnyJ P ops Q S m li N F (St w0 M L) := by
  intro T w hT hA
  obtain ⟨g, cap, h⟩ := sv_succ o n es (hA.ok _ hm) hn hpos
  exact k g cap h T w hT hA
theorem splitD {n : Nat} {li : Array Bool} (i : Nat) {c : Bool} (hc : look F i = some (.bool c)) (ht : c = true → AnyJ P ops Q S n li N ((i, .bool true) :: F) A) (hf : c = false → AnyJ P ops Q S n li N ((i, .bool false) :: F) A) : AnyJ P ops Q S n li N F A := by
  intro T w hT hA
  have key : ∀ b, c = b → Kn N ((i, .bool b) :: F) T := fun b hb => ⟨hT.size, fun k v hk => by
    rw [look_cons] at hk
    by_cases hi : i = k
    · subst hi
      simp at hk
      subst hk
      subst hb
      exact hT.known _ _ hc
    · rw [if_neg hi] at hk
      exact hT.known k v hk⟩
  cases hcb : c
  · exact hf hcb T w (key _ hcb) hA
  · exact ht hcb T w (key _ hcb) hA
theorem respellD {n : Nat} {li : Array Bool} (i : Nat) {v : Value} (u : Value) (hv : look F i = some v) (e : v = u) (k : AnyJ P ops Q S n li N ((i, u) :: F) A) : AnyJ P ops Q S n li N F A := by
  intro T w hT hA
  refine k T w ⟨hT.size, fun j x hx => ?_⟩ hA
  rw [look_cons] at hx
  by_cases hi : i = j
  · subst hi
    simp at hx
    subst hx
    subst e
    exact hT.known _ _ hv
  · rw [if_neg hi] at hx
    exact hT.known j x hx

/-! ### Division -/
theorem quoI {x y : Operand} {t t' : TypeId} {kd : IntKind} {m n : Int} (hg : Want ops F gd) (hx : ev F x = some (.int kd m)) (hy : ev F y = some (.int kd n)) (h0 : n ≠ 0) (hr : kd.min ≤ m.tdiv n ∧ m.tdiv n ≤ kd.max) :
    Yl P ops N F A ⟨some d, .binOp .quo t x y t', ty, pos, after, gd⟩ (.int kd (m.tdiv n)) :=
  binI hg hx hy (fun w => by simp [binOp, Op.intDiv, h0, wrap_in kd _ hr])
theorem remI {x y : Operand} {t t' : TypeId} {kd : IntKind} {m n : Int} (hg : Want ops F gd) (hx : ev F x = some (.int kd m)) (hy : ev F y = some (.int kd n)) (h0 : n ≠ 0) :
    Yl P ops N F A ⟨some d, .binOp .rem t x y t', ty, pos, after, gd⟩ (.int kd (m.tmod n)) :=
  binI hg hx hy (fun w => by simp [binOp, Op.intDiv, h0])
/-! ### Comparisons by Go's own equality -/
/-- Whatever 'binOp' yields. -/
theorem binV {op : BinOp} {x y : Operand} {t t' : TypeId} {a b v : Value} (hg : Want ops F gd) (hx : ev F x = some a) (hy : ev F y = some b)
    (h1 : ∀ w : World, (eqGuard op t x y a b).run P w = .ok () w) (hv : ∀ w : World, (binOp op t a b).run P w = .ok v w) : Yl P ops N F A ⟨some d, .binOp op t x y t', ty, pos, after, gd⟩ v :=
  opv hg (fun T w hT _ => by simp [execOp, hT.ev hx, hT.ev hy, h1, hv])
theorem neNil {x : Operand} {t t' u : TypeId} {v : Value} (hg : Want ops F gd) (hx : ev F x = some (.iface u v)) (ht : P.underlying t = some (.interface (P.methodsAt t))) :
    Yl P ops N F A ⟨some d, .binOp .neq t x (.const .nilIface) t', ty, pos, after, gd⟩ (.bool true) :=
  binV hg hx rfl (fun w => rfl) (fun w => by simp [binOp, run_equal_held_nil w t u v ht])
theorem neNil0 {x : Operand} {t t' : TypeId} (hg : Want ops F gd) (hx : ev F x = some .nilIface) (ht : P.underlying t = some (.interface (P.methodsAt t))) :
    Yl P ops N F A ⟨some d, .binOp .neq t x (.const .nilIface) t', ty, pos, after, gd⟩ (.bool false) :=
  binV hg hx rfl (fun w => by cases x <;> simp [eqGuard]) (fun w => by simp [binOp, run_equal_nil_nil w t ht])

/-! ### Slices that are read -/
/-- In w, from address a on, lie the rows es. -/
def SlAt (w : World) (size : Nat) (a : Option Addr) (es : List (List Value)) : Prop :=
  ∃ b o, (es ≠ [] → a = some ⟨b, o, none⟩) ∧ ∀ i r, es[i]? = some r → Row w b (o + i * size) r
/-- An address behind elements. -/
def adv (a : Option Addr) (k : Nat) : Option Addr := a.map (·.add k)
theorem sl2 {t e size bytes lo hi n c : Nat} {k1 k2 : IntKind} {p q : Int} {a : Option Addr} {x y z : Operand} (hg : Want ops F gd) (hs : SliceOf P t e size bytes) (hx : ev F x = some (.slice a n c)) (hy : ev F y = some (.int k1 p)) (hz : ev F z = some (.int k2 q))
    (hp : p = (lo : Int)) (hq : q = (hi : Int)) (h1 : lo ≤ hi) (h2 : hi ≤ c) : Yl P ops N F A ⟨some d, .slice t x (some y) (some z) none, ty, pos, after, gd⟩ (.slice (if c = lo then a else a.map (·.add (lo * size))) (hi - lo) (c - lo)) :=
  opv hg (fun T w hT _ => by
    subst hp
    subst hq
    have hu : P.underlying t = some (.slice (P.elem t)) := by rw [hs.und]; simp [Program.elem, hs.und]
    have he : P.elem t = e := by simp [Program.elem, hs.und]
    have hr := run_slice_lh (P := P) w t a n c hu k1 k2 (lo : Int) (hi : Int) (by omega) (by omega) (by omega)
    simp only [execOp, hT.ev hx, hT.ev hy, hT.ev hz, Option.map_some, Option.map_none, Sem.run_bind, run_sliceAt_slice w t _ _ _ _ hu, hr, he, hs.run_size, Result.andThen_ok, Sem.run_pure, sliced, Int.toNat_natCast])
theorem sl1 {t e size bytes lo n c : Nat} {k1 : IntKind} {p : Int} {a : Option Addr} {x y : Operand} (hg : Want ops F gd) (hs : SliceOf P t e size bytes) (hx : ev F x = some (.slice a n c)) (hy : ev F y = some (.int k1 p))
    (hp : p = (lo : Int)) (h1 : lo ≤ n) : Yl P ops N F A ⟨some d, .slice t x (some y) none none, ty, pos, after, gd⟩ (.slice (if c = lo then a else a.map (·.add (lo * size))) (n - lo) (c - lo)) :=
  opv hg (fun T w hT _ => by
    subst hp
    have hu : P.underlying t = some (.slice (P.elem t)) := by rw [hs.und]; simp [Program.elem, hs.und]
    have he : P.elem t = e := by simp [Program.elem, hs.und]
    have hr := run_slice_l (P := P) w t a n c hu k1 (lo : Int) (by omega) (by omega)
    simp only [execOp, hT.ev hx, hT.ev hy, Option.map_some, Option.map_none, Sem.run_bind, run_sliceAt_slice w t _ _ _ _ hu, hr, he, hs.run_size, Result.andThen_ok, Sem.run_pure, sliced, Int.toNat_natCast])

/-! ### Bytes -/
def byteRow (b : UInt8) : List Value := [.int .u8 b.toNat]
theorem flatten_byteRows (l : List UInt8) : (l.map byteRow).flatten = Lib.byteCells l := by
  induction l with
  | nil => rfl
  | cons a l ih => simp only [List.map_cons, List.flatten_cons, ih]; rfl
/-- string(b) of bytes that the call owns. -/
theorem cvB {x : Operand} {s t e e' n g cap : Nat} {l : List UInt8} {w0 : World} (hg : Want ops F gd) (hx : ev F x = some (sv (some (g, cap)) n)) (hn : l.length = n) (hs : P.underlying s = some (.slice e)) (he : P.underlying e = some (.int .u8)) (ht : P.underlying t = some .string)
    (hm : own (some (g, cap)) e' 1 (l.map byteRow) ∈ L) : Yl P ops N F (St w0 M L) ⟨some d, .convert s t x, ty, pos, after, gd⟩ (str l) :=
  opv hg (fun T w hT hA => by
    have hl : ∀ i, i < n → w.cell? ⟨g, 0 + i, none⟩ = some (.int .u8 ((l.map fun b => (b.toNat : Int)).getD i 0)) := fun i hi => by
      have hlt : i < l.length := by omega
      have := hasOwn hm (i := i) (r := byteRow l[i]) (by simp [hlt]) w hA 0 _ rfl
      simpa [hlt] using this
    have hr := run_convert_bytes_arg (P := P) w s e hs he g 0 n cap (l.map fun b => (b.toNat : Int)) (by simpa using hn) hl t ht
    have e1 : strOfNums (l.map fun b => (b.toNat : Int)) = ⟨l.toArray⟩ := by
      unfold strOfNums
      rw [List.map_map]
      congr 2
      rw [List.map_congr_left (g := id) (fun b _ => by simp)]
      simp
    have e2 : (sv (some (g, cap)) n) = .slice (some ⟨g, 0, none⟩) n cap := rfl
    simp only [execOp, hT.ev hx, Sem.run_bind, e2, hr, Result.andThen_ok, Sem.run_pure, e1])
end
theorem appS_old {P : Program} {t u ty e n k : Nat} {o o' : Option (Nat × Nat)} {m : Nat} {xs : List Value} {s : ByteArray} {i : TypeInfo} {w w' : World} (hown : w.ownsRow 0 e 1 (sv o n) n xs) (ht : P.underlying t = some (.slice e)) (hu : P.underlying u = some .string)
    (hi : P.info? e = some i) (hz : i.zero = some (.int .u8 0)) (hsize : i.size = 1) (hby : i.bytes = 1) (hb : n + s.size ≤ 140737488355328)
    (hrun : (Builtin.append_ #[t, u] ty #[sv o n, .string s]).run P w = .ok (sv o' m) w') (hk : (sv o' m).ownBlock = some k) (hlt : k < w.heap.size) (hne : ¬ (sv o n).ownBlock = some k) : False := by
  have hm : n + s.size ≤ maxLen := by unfold maxLen; omega
  have hxl : xs.length = n := by simpa using hown.1
  cases o with
  | none =>
    rcases hown.2 with ⟨_, h0⟩ | ⟨g, cap, cur, h, _⟩
    · subst h0
      have hx : xs = [] := List.eq_nil_of_length_eq_zero hxl
      subst hx
      obtain ⟨v', w2, hr, hown', _, _⟩ := Lib.run_append_own_string (P := P) w w.heap.size t u ty e i ht hu hi hz hsize hby (sv none 0) 0 [] (World.ownsRow_nil w _ e 1) s hm hb (Nat.le_refl _)
      rw [hr] at hrun
      injection hrun with h1 h2
      subst h1
      have := (hown'.lt k hk).1
      omega
    · simp [sv] at h
  | some gc =>
    obtain ⟨g, cap⟩ := gc
    rcases hown.2 with ⟨h, _⟩ | ⟨g', cap', cur, h, hbg, hg, hnc, hcm, hcs, htake⟩
    · simp [sv] at h
    · have e1 : sv (some (g, cap)) n = .slice (some ⟨g, 0, none⟩) n cap := rfl
      simp only [sv, Value.slice.injEq, Option.some.injEq, Addr.mk.injEq, and_true, true_and] at h
      obtain ⟨rfl, rfl⟩ := h
      by_cases hroom : n + s.size ≤ cap
      · have hcs' : cur.size = cap := by simpa using hcs
        have hr := Lib.run_append_room_string (P := P) w t u ty e i ht hu hi hsize g n cap cur hg s hroom (by omega)
        rw [e1, hr] at hrun
        injection hrun with h1 h2
        rw [← h1] at hk
        exact hne hk
      · have holds := hown.cells (g := g) rfl
        have hr := Lib.run_append_grow_string (P := P) w t u ty e i (.int .u8 0) ht hu hi hz ⟨g, 0, none⟩ n cap xs (by rw [hsize]; omega) holds s (by omega) (by omega) (by rw [hby]; exact growslice_fits (by omega) (by omega))
        rw [e1, hr] at hrun
        injection hrun with h1 h2
        rw [← h1] at hk
        simp only [Value.ownBlock, Option.some.injEq] at hk
        omega
/-- append(own bytes, string...). -/
theorem appS {P : Program} {ops : Array Oper} {Q : Exit → Act → World → Prop} {K : Act → World → Prop} {N : Nat} {F : Fr} {rest : List Oper} {d : Tmp} {ty : TypeId} {pos : String} {after : Array Edge} {gd : Option (Nat × Bool)} {w0 : World} {M : Nat → Prop} {L : List Res}
    {t u e n : Nat} {x y : Operand} {o : Option (Nat × Nat)} {es : List (List Value)} {l : List UInt8} (hd : Nat.blt d N = true) (hg : Want ops F gd) (ht : P.underlying t = some (.slice e)) (hu : P.underlying u = some .string)
    (hinfo : (P.info? e).map (fun i => (i.zero, i.size, i.bytes)) = some (some (.int .u8 0), 1, 1))
    (hx : ev F x = some (sv o n)) (hy : ev F y = some (str l)) (hn : es.length = n) (hb : n + l.length ≤ 140737488355328)
    (k : ∀ o', OpsJ P ops Q K rest N ((d, sv o' (n + l.length)) :: F) (St w0 M (own o' e 1 (es ++ l.map byteRow) :: L))) :
    OpsJ P ops Q K (⟨some d, .call { callee := .builtin .append, args := #[x, y], argTypes := #[t, u] }, ty, pos, after, gd⟩ :: rest) N F (St w0 M (own o e 1 es :: L)) := by
  obtain ⟨i, hi, he⟩ := Option.map_eq_some_iff.1 hinfo
  obtain ⟨hz, hsize, hby⟩ : i.zero = some (.int .u8 0) ∧ i.size = 1 ∧ i.bytes = 1 := by
    simp only [Prod.mk.injEq] at he
    exact he
  refine opw (dst := some d) (L0 := [own o e 1 es]) (L1 := L) (γ := Option (Nat × Nat)) (fun _ => True) (fun o' => sv o' (n + l.length)) (fun o' => [own o' e 1 (es ++ l.map byteRow)]) hd hg (fun T w hT hA => ?_) (fun o' _ => k o')
  have hoo := hA.ok (own o e 1 es) (by simp)
  have hown := hoo.1
  rw [hn] at hown
  have hm : n + (ByteArray.mk l.toArray).size ≤ maxLen := by rw [str_size]; unfold maxLen; omega
  obtain ⟨v', w', hrun, hown', hgrow, hnil⟩ := Lib.run_append_own_string (P := P) w 0 t u ty e i ht hu hi hz hsize hby (sv o n) n es.flatten hown ⟨l.toArray⟩ hm (by rw [str_size]; omega) (Nat.zero_le _)
  rw [str_size] at hown'
  have hlt2 : es.flatten ++ Lib.strCells ⟨l.toArray⟩ = (es ++ l.map byteRow).flatten := by rw [List.flatten_append, flatten_byteRows]; rfl
  rw [hlt2] at hown'
  have hv' : ∃ o', v' = sv o' (n + l.length) := by
    rcases hown'.2 with ⟨h, h0⟩ | ⟨g, cap, cur, h, _⟩
    · exact ⟨none, h⟩
    · exact ⟨some (g, cap), h⟩
  obtain ⟨o', rfl⟩ := hv'
  have hlen : (es ++ l.map byteRow).length = n + l.length := by simp [hn]
  refine ⟨o', w', _, trivial, ?_, .inl rfl, hgrow.os, hgrow.tape, hgrow.output, hgrow.size, fun k hk hM => hgrow.block k hk (fun hk' => hM ⟨own o e 1 es, by simp, by show (sv o es.length).ownBlock = some k; rw [hn]; exact hk'.symm⟩), ?_, ?_, List.pairwise_singleton _ _⟩
  · have e1 : #[x, y].map (⟨T, []⟩ : Act).eval = #[sv o n, str l] := by simp [hT.ev hx, hT.ev hy]
    simp only [execOp, resolve, e1, invoke, builtin, Sem.run_bind, Sem.run_pure, Result.andThen_ok]
    rw [hrun]
    rfl
  · intro r' hr'
    simp at hr'
    subst hr'
    refine ⟨?_, fun r' hr' => ?_⟩
    · rw [hlen]; exact hown'
    · rcases List.mem_append.1 hr' with h | h
      · exact hoo.2 r' h
      · simp only [List.mem_map] at h
        obtain ⟨b, _, rfl⟩ := h
        rfl
  · intro r' hr' k hk
    simp at hr'
    subst hr'
    have hk2 : (sv o' (n + l.length)).ownBlock = some k := by simpa [own, hlen] using hk
    have hlt := hown'.lt k hk2
    refine ⟨?_, hlt.2⟩
    by_cases hlt2 : k < w.heap.size
    · left
      rcases Classical.em ((sv o n).ownBlock = some k) with h | h
      · exact ⟨own o e 1 es, by simp, by show (sv o es.length).ownBlock = some k; rw [hn]; exact h⟩
      · exfalso
        exact appS_old (s := ⟨l.toArray⟩) hown ht hu hi hz hsize hby (by rw [str_size]; omega) hrun hk2 hlt2 h
    · exact .inr (by omega)
end Eng
