/- The engine, part E: slices, strings, appends, and a function's end. No program is named here. -/
import Derived.Test.YtggofhbblidimaaDoorEngD
namespace Eng
open Go Go.RowKit
section
variable {P : Program} {ops : Array Oper} {Q : Exit → Act → World → Prop} {K : Act → World → Prop} {N : Nat} {F : Fr} {A : WA} {rest : List Oper}
variable {d : Tmp} {dst : Option Tmp} {ty : TypeId} {pos : String} {after : Array Edge} {gd : Option (Nat × Bool)} {w0 : World} {M : Nat → Prop} {L L0 L1 : List Res}

/-! ### Elements -/
/-- The address of element i of a slice. -/
theorem ixA {t e size bytes b o n c i : Nat} {kd : IntKind} {q : Int} {a : Option Addr} {x y : Operand} (hg : Want ops F gd) (hs : SliceOf P t e size bytes) (hx : ev F x = some (.slice a n c)) (hy : ev F y = some (.int kd q))
    (hq : q = (i : Int)) (hi : i < n) (ha : a = some ⟨b, o, none⟩) : Yl P ops N F A ⟨some d, .indexAddr t x y, ty, pos, after, gd⟩ (.pointer (some ⟨b, o + i * size, none⟩)) :=
  opv hg (fun T w hT _ => by
    subst hq
    subst ha
    have h0 : (0 : Int) ≤ (i : Int) ∧ (i : Int) < (n : Int) := ⟨by omega, by omega⟩
    simp [execOp, hT.ev hx, hT.ev hy, Instr.indexAt, asIntOf, hs.run_und, hs.run_size, h0, addr_add]
    intro h
    omega)
/-- A slice that is not empty lies in a block. -/
theorem OpsJ.lies {l : List Oper} {e size n : Nat} {o : Option (Nat × Nat)} {es : List (List Value)} (hm : own o e size es ∈ L) (hn : es.length = n) (hpos : 0 < n)
    (k : ∀ g cap, o = some (g, cap) → OpsJ P ops Q K l N F (St w0 M L)) : OpsJ P ops Q K l N F (St w0 M L) := by
  intro T w hT hA
  obtain ⟨g, cap, h⟩ := sv_succ o n es (hA.ok _ hm) hn hpos
  exact k g cap h T w hT hA
theorem CodeJ.lies {c : Code} {e size n : Nat} {o : Option (Nat × Nat)} {es : List (List Value)} (hm : own o e size es ∈ L) (hn : es.length = n) (hpos : 0 < n)
    (k : ∀ g cap, o = some (g, cap) → CodeJ P c Q N F (St w0 M L)) : CodeJ P c Q N F (St w0 M L) := by
  intro T w hT hA
  obtain ⟨g, cap, h⟩ := sv_succ o n es (hA.ok _ hm) hn hpos
  exact k g cap h T w hT hA
theorem ixO {t e size bytes n g cap i : Nat} {kd : IntKind} {q : Int} {x y : Operand} (hg : Want ops F gd) (hs : SliceOf P t e size bytes) (hx : ev F x = some (sv (some (g, cap)) n)) (hy : ev F y = some (.int kd q))
    (hq : q = (i : Int)) (hi : i < n) : Yl P ops N F A ⟨some d, .indexAddr t x y, ty, pos, after, gd⟩ (.pointer (some ⟨g, i * size, none⟩)) := by
  rw [show i * size = 0 + i * size by omega]
  exact ixA hg hs hx hy hq hi rfl
/-- The address of element i of an array variable. -/
theorem ixV {t len e size b o i : Nat} {kd : IntKind} {q : Int} {x y : Operand} (hg : Want ops F gd) (hs : ArrayOf P t len e size) (hx : ev F x = some (.pointer (some ⟨b, o, none⟩))) (hy : ev F y = some (.int kd q))
    (hq : q = (i : Int)) (hi : i < len) : Yl P ops N F A ⟨some d, .indexAddr t x y, ty, pos, after, gd⟩ (.pointer (some ⟨b, o + i * size, none⟩)) :=
  opv hg (fun T w hT _ => by
    subst hq
    have h0 : (0 : Int) ≤ (i : Int) ∧ (i : Int) < (len : Int) := ⟨by omega, by omega⟩
    simp [execOp, hT.ev hx, hT.ev hy, Instr.indexAt, asIntOf, run_underlying hs.und, hs.size, h0, addr_add, Instr.sureAddr]
    intro h
    omega)
/-- A byte of a string. -/
theorem ixS {t i : Nat} {kd : IntKind} {q : Int} {l : List UInt8} {x y : Operand} (hg : Want ops F gd) (ht : ∀ w, (underlying t).run P w = .ok .string w) (hx : ev F x = some (str l)) (hy : ev F y = some (.int kd q))
    (hq : q = (i : Int)) (hi : i < l.length) : Yl P ops N F A ⟨some d, .index t x y, ty, pos, after, gd⟩ (.int .u8 ((l.getD i 0).toNat : Nat)) :=
  opv hg (fun T w hT _ => by
    subst hq
    have h1 : (ByteArray.mk l.toArray)[i]? = some (l.getD i 0) := by
      rw [getElem?_pos (ByteArray.mk l.toArray) i hi]
      simp [ByteArray.getElem_eq_getElem_data, hi]
    simp [execOp, hT.ev hx, hT.ev hy, Instr.index, asIntOf, ht, h1])
theorem ext_str (l : List UInt8) (a b : Nat) : (ByteArray.mk l.toArray).extract a b = ⟨((l.take b).drop a).toArray⟩ := by
  apply ByteArray.ext
  rw [ByteArray.data_extract]
  apply Array.ext'
  simp [List.extract_eq_take_drop, List.drop_take]
/-- A part of a string. -/
theorem slS {t a b : Nat} {k1 k2 : IntKind} {p q : Int} {l : List UInt8} {x y z : Operand} (hg : Want ops F gd) (ht : P.underlying t = some .string) (hx : ev F x = some (str l)) (hy : ev F y = some (.int k1 p)) (hz : ev F z = some (.int k2 q))
    (hp : p = (a : Int)) (hq : q = (b : Int)) (hab : a ≤ b) (hb : b ≤ l.length) : Yl P ops N F A ⟨some d, .slice t x (some y) (some z) none, ty, pos, after, gd⟩ (str ((l.take b).drop a)) :=
  opv hg (fun T w hT _ => by
    subst hp
    subst hq
    have h1 : (0 : Int) ≤ (b : Int) ∧ (b : Int) ≤ ((ByteArray.mk l.toArray).size : Int) := ⟨by omega, by rw [str_size]; omega⟩
    have h2 : (0 : Int) ≤ (a : Int) ∧ (a : Int) ≤ (b : Int) := ⟨by omega, by omega⟩
    simp only [execOp, hT.ev hx, hT.ev hy, hT.ev hz, Option.map_some, Option.map_none, Instr.sliceAt, Sem.run_bind, run_underlying ht, Result.andThen_ok, Instr.slice, Option.isSome_none, Bool.false_eq_true, if_false, Instr.sliceBounds, Instr.sliceBound, asIntOf, Sem.run_pure, h1, h2, and_self, if_true,
      Int.toNat_natCast, ext_str, str])
theorem slSl {t a : Nat} {k1 : IntKind} {p : Int} {l : List UInt8} {x y : Operand} (hg : Want ops F gd) (ht : P.underlying t = some .string) (hx : ev F x = some (str l)) (hy : ev F y = some (.int k1 p))
    (hp : p = (a : Int)) (ha : a ≤ l.length) : Yl P ops N F A ⟨some d, .slice t x (some y) none none, ty, pos, after, gd⟩ (str (l.drop a)) :=
  opv hg (fun T w hT _ => by
    subst hp
    have h2 : (0 : Int) ≤ (a : Int) ∧ (a : Int) ≤ (l.length : Int) := ⟨by omega, by omega⟩
    simp only [execOp, hT.ev hx, hT.ev hy, Option.map_some, Option.map_none, Instr.sliceAt, Sem.run_bind, run_underlying ht, Result.andThen_ok, Instr.slice, Option.isSome_none, Bool.false_eq_true, if_false, Instr.sliceBounds, Instr.sliceBound, asIntOf, Sem.run_pure, str_size, h2, and_self, if_true,
      Int.toNat_natCast, ext_str, List.take_length])
theorem slSh {t b : Nat} {k2 : IntKind} {q : Int} {l : List UInt8} {x z : Operand} (hg : Want ops F gd) (ht : P.underlying t = some .string) (hx : ev F x = some (str l)) (hz : ev F z = some (.int k2 q))
    (hq : q = (b : Int)) (hb : b ≤ l.length) : Yl P ops N F A ⟨some d, .slice t x none (some z) none, ty, pos, after, gd⟩ (str (l.take b)) :=
  opv hg (fun T w hT _ => by
    subst hq
    have h1 : (0 : Int) ≤ (b : Int) ∧ (b : Int) ≤ ((ByteArray.mk l.toArray).size : Int) := ⟨by omega, by rw [str_size]; omega⟩
    simp only [execOp, hT.ev hx, hT.ev hz, Option.map_some, Option.map_none, Instr.sliceAt, Sem.run_bind, run_underlying ht, Result.andThen_ok, Instr.slice, Option.isSome_none, Bool.false_eq_true, if_false, Instr.sliceBounds, Instr.sliceBound, asIntOf, Sem.run_pure, h1, and_self, if_true,
      Int.toNat_natCast, ext_str, List.drop_zero])
/-! ### Strings -/
theorem app_str (l m : List UInt8) : (ByteArray.mk l.toArray) ++ (ByteArray.mk m.toArray) = ⟨(l ++ m).toArray⟩ := by
  apply ByteArray.ext
  rw [ByteArray.data_append]
  simp
theorem str_toList (l : List UInt8) : (ByteArray.mk l.toArray).toList = l := by
  rw [ByteArray.toList_eq]
theorem binS {op : BinOp} {x y : Operand} {t t' : TypeId} {l m : List UInt8} {v : Value} (hg : Want ops F gd) (hx : ev F x = some (str l)) (hy : ev F y = some (str m))
    (hv : ∀ w : World, (Op.stringOp op ⟨l.toArray⟩ ⟨m.toArray⟩).run P w = .ok v w) (ho : op ≠ .shl ∧ op ≠ .shr) : Yl P ops N F A ⟨some d, .binOp op t x y t', ty, pos, after, gd⟩ (v) :=
  opv hg (fun T w hT _ => by
    have h1 : ∀ w : World, (eqGuard op t x y (str l) (str m)).run P w = .ok () w := fun w => by cases op <;> rfl
    have h2 : binOp op t (str l) (str m) = Op.stringOp op ⟨l.toArray⟩ ⟨m.toArray⟩ := by cases op <;> first | rfl | exact absurd rfl ho.1 | exact absurd rfl ho.2
    simp only [execOp, hT.ev hx, hT.ev hy, Sem.run_bind, h1, Result.andThen_ok, h2, hv, Sem.run_pure])
theorem addS {x y : Operand} {t t' : TypeId} {l m : List UInt8} (hg : Want ops F gd) (hx : ev F x = some (str l)) (hy : ev F y = some (str m)) (hl : l.length + m.length ≤ 9223372036854775807) : Yl P ops N F A ⟨some d, .binOp .add t x y t', ty, pos, after, gd⟩ (str (l ++ m)) :=
  binS hg hx hy (fun w => by
    have : ¬ ((((ByteArray.mk l.toArray).size + (ByteArray.mk m.toArray).size : Nat) : Int) > IntKind.i64.max) := by
      rw [str_size, str_size]
      simp [IntKind.max, IntKind.signed, IntKind.bits]
      omega
    simp only [Op.stringOp, this, if_false, Sem.run_pure, app_str]) ⟨by simp, by simp⟩
theorem eqS {x y : Operand} {t t' : TypeId} {l m : List UInt8} (hg : Want ops F gd) (hx : ev F x = some (str l)) (hy : ev F y = some (str m)) : Yl P ops N F A ⟨some d, .binOp .eql t x y t', ty, pos, after, gd⟩ (.bool (decide (l = m))) :=
  binS hg hx hy (fun w => by
    have : (l == m) = decide (l = m) := by by_cases h : l = m <;> simp [h]
    simp only [Op.stringOp, str_toList, Sem.run_pure, this]) ⟨by simp, by simp⟩
theorem neS {x y : Operand} {t t' : TypeId} {l m : List UInt8} (hg : Want ops F gd) (hx : ev F x = some (str l)) (hy : ev F y = some (str m)) : Yl P ops N F A ⟨some d, .binOp .neq t x y t', ty, pos, after, gd⟩ (.bool (!decide (l = m))) :=
  binS hg hx hy (fun w => by
    have : (l == m) = decide (l = m) := by by_cases h : l = m <;> simp [h]
    simp only [Op.stringOp, str_toList, Sem.run_pure, this]) ⟨by simp, by simp⟩
/-! ### A slice literal, and append -/
/-- A slice literal of n elements: an owned slice. -/
theorem bsl {t e size n : Nat} {ps : Array (Nat × Operand)} {vs : List (Nat × Value)} (es : List (List Value)) (hd : Nat.blt d N = true) (hg : Want ops F gd) (hp : parts F ps.toList = some vs)
    (hv : ∀ w, (Instr.buildSlice t n vs.toArray).run P w = .ok (.slice (some ⟨w.heap.size, 0, none⟩) n n) (w.alloc (.cells es.flatten.toArray e))) (hn : es.length = n) (hr : ∀ r ∈ es, r.length = size) (hm : n ≤ maxLen)
    (k : ∀ g, w0.heap.size ≤ g → OpsJ P ops Q K rest N ((d, sv (some (g, n)) n) :: F) (St w0 M (own (some (g, n)) e size es :: L))) : OpsJ P ops Q K (⟨some d, .buildSlice t n ps, ty, pos, after, gd⟩ :: rest) N F (St w0 M L) :=
  opw (L0 := []) (L1 := L) (γ := Nat) (fun g => w0.heap.size ≤ g) (fun g => sv (some (g, n)) n) (fun g => [own (some (g, n)) e size es]) hd hg
    (fun T w hT hA => by
      have e1 : (ps.map fun p => (p.1, (⟨T, []⟩ : Act).eval p.2)) = vs.toArray := by
        rw [← hT.parts hp]
        apply Array.ext'
        simp
      have e' : (ps.map fun (i, x) => (i, (⟨T, []⟩ : Act).eval x)) = vs.toArray := e1
      refine ⟨w.heap.size, w.alloc (.cells es.flatten.toArray e), _, hA.size, by simp [execOp, e', hv]; rfl, .inl rfl, rfl, rfl, rfl, by simp, fun k hk _ => heap_alloc_old w _ k hk, ?_, ?_, List.pairwise_singleton _ _⟩
      · intro r hr'
        simp at hr'
        subst hr'
        have hlen : es.flatten.length = n * size := by
          rw [List.length_flatten, List.map_congr_left hr, List.map_const', List.sum_replicate_nat, hn]
        refine ⟨?_, hr⟩
        rw [hn]
        have := World.ownsRow_lit (base := 0) (e := e) (size := size) w es.flatten.toArray n (Nat.zero_le _) hm (by simpa using hlen)
        simpa [sv] using this
      · intro r hr' k hk
        simp at hr'
        subst hr'
        simp [own, sv, Value.ownBlock] at hk
        subst hk
        exact ⟨.inr (Nat.le_refl _), by simp⟩) k
/-- Behind an append the slice lies where it lay, or in a new block. -/
theorem append_block {t e size bytes : Nat} (hs : SliceOf P t e size bytes) {w w' : World} {o : Option (Nat × Nat)} {n m c : Nat} {xs news : List Value} {ad : Addr} {v' : Value} (hown : w.ownsRow 0 e size (sv o n) n xs)
    (hl : news.length = m * size) (hnews : ∀ j u, news[j]? = some u → w.cell? (ad.add j) = some u) (h1 : ∀ u ∈ news, u.oneCell' = true) (hm : 0 < m) (h63 : n + m ≤ maxLen) (hb : (n + m) * bytes ≤ 140737488355328)
    (hrun : (Builtin.append_ #[t, t] ty #[sv o n, .slice (some ad) m c]).run P w = .ok v' w') : v'.ownBlock = (sv o n).ownBlock ∨ v'.ownBlock = some w.heap.size := by
  obtain ⟨i, z, hi, hz, hsz, hby, hzs⟩ := hs.info
  subst hsz
  subst hby
  simp only [maxLen] at h63
  cases o with
  | none =>
    rcases hown.2 with ⟨_, rfl⟩ | ⟨g, cap, cur, h, _⟩
    · have hr := run_append_nil (P := P) w t ty e i z hs.und hi hz ad m c news hl hnews hm (by omega) (by simp only [Nat.zero_add] at hb; omega)
      have e1 : sv none 0 = .slice none 0 0 := rfl
      rw [e1, hr] at hrun
      injection hrun with h1 h2
      subst h1
      exact .inr rfl
    · simp [sv] at h
  | some gc =>
    obtain ⟨g, cap⟩ := gc
    rcases hown.2 with ⟨h, _⟩ | ⟨g', cap', cur, h, hbg, hg, hnc, hcm, hcs, htake⟩
    · simp [sv] at h
    · have e1 : sv (some (g, cap)) n = .slice (some ⟨g, 0, none⟩) n cap := rfl
      simp only [sv, Value.slice.injEq, Option.some.injEq, Addr.mk.injEq, and_true, true_and] at h
      obtain ⟨rfl, rfl⟩ := h
      by_cases hroom : n + m ≤ cap
      · have hfit : n * i.size + news.length ≤ cur.size := by rw [hl, hcs, ← Nat.add_mul]; exact Nat.mul_le_mul_right _ hroom
        have hr := run_append_room (P := P) w t ty e i hs.und hi g n cap cur hg ad m c news hl hnews h1 hroom hfit
        rw [e1, hr] at hrun
        injection hrun with h1 h2
        subst h1
        exact .inl rfl
      · have holds := hown.cells (g := g) rfl
        have hr := run_append_grow (P := P) w t ty e i z hs.und hi hz ⟨g, 0, none⟩ n cap xs hown.1 holds ad m c news hl hnews (by omega) (by omega) (growslice_fits (by omega) hb)
        rw [e1, hr] at hrun
        injection hrun with h1 h2
        subst h1
        exact .inr rfl
/-- append(own, x): one element, that lies in a one-element slice of its own (both are owned; the second is let go). -/
theorem app1 {t e size bytes n : Nat} {x y : Operand} {o : Option (Nat × Nat)} {g' : Nat} {es : List (List Value)} {r : List Value} (hd : Nat.blt d N = true) (hg : Want ops F gd) (hs : SliceOf P t e size bytes)
    (hx : ev F x = some (sv o n)) (hy : ev F y = some (sv (some (g', 1)) 1)) (hn : es.length = n) (h1 : ∀ u ∈ r, u.oneCell' = true) (hb : (n + 1) * bytes ≤ 140737488355328) (h63 : n + 1 ≤ maxLen)
    (k : ∀ g cap, OpsJ P ops Q K rest N ((d, sv (some (g, cap)) (n + 1)) :: F) (St w0 M (own (some (g, cap)) e size (es ++ [r]) :: L))) :
    OpsJ P ops Q K (⟨some d, .call { callee := .builtin .append, args := #[x, y], argTypes := #[t, t] }, ty, pos, after, gd⟩ :: rest) N F (St w0 M (own (some (g', 1)) e size [r] :: own o e size es :: L)) := by
  refine opw (dst := some d) (L0 := [own (some (g', 1)) e size [r], own o e size es]) (L1 := L) (γ := Nat × Nat) (fun _ => True) (fun gc => sv (some gc) (n + 1)) (fun gc => [own (some gc) e size (es ++ [r])]) hd hg
    (fun T w hT hA => ?_) (fun gc _ => k gc.1 gc.2)
  have hro := hA.ok (own (some (g', 1)) e size [r]) (by simp)
  have hoo := hA.ok (own o e size es) (by simp)
  obtain ⟨i, z, hi, hz, hsz, hby, hzs⟩ := hs.info
  have hnews : ∀ j u, r[j]? = some u → w.cell? ((⟨g', 0, none⟩ : Addr).add j) = some u := fun j u hj => by
    have := hro.1.cells (g := g') rfl j u (by simpa using hj)
    exact this
  have hown := hoo.1
  rw [hn] at hown
  obtain ⟨v', w', hrun, hown', hgrow, hnil⟩ := run_append_own (P := P) w 0 t ty e i z size bytes hs.und hi hz hsz hby hzs hs.pos (sv o n) n es.flatten hown ⟨g', 0, none⟩ 1 1 r (by have := hro.2 r (by simp); omega) hnews h1 h63 hb (Nat.zero_le _)
  have hv' : ∃ gc, v' = sv (some gc) (n + 1) := by
    rcases hown'.2 with ⟨h, h0⟩ | ⟨g, cap, cur, h, _⟩
    · omega
    · exact ⟨(g, cap), h⟩
  obtain ⟨gc, rfl⟩ := hv'
  refine ⟨gc, w', _, trivial, ?_, .inl rfl, hgrow.os, hgrow.tape, hgrow.output, hgrow.size, fun k hk hM => hgrow.block k hk (fun hk' => hM ⟨own o e size es, by simp, by show (sv o es.length).ownBlock = some k; rw [hn]; exact hk'.symm⟩), ?_, ?_, List.pairwise_singleton _ _⟩
  · have e1 : #[x, y].map (⟨T, []⟩ : Act).eval = #[sv o n, sv (some (g', 1)) 1] := by simp [hT.ev hx, hT.ev hy]
    simp only [execOp, resolve, e1, invoke, builtin, Sem.run_bind, Sem.run_pure, Result.andThen_ok]
    have : (sv (some (g', 1)) 1) = .slice (some ⟨g', 0, none⟩) 1 1 := rfl
    rw [this, hrun]
    rfl
  · intro r' hr'
    simp at hr'
    subst hr'
    refine ⟨?_, fun r' hr' => ?_⟩
    · simpa [hn] using hown'
    · rcases List.mem_append.1 hr' with h | h
      · exact hoo.2 r' h
      · simp at h; subst h; exact hro.2 r' (by simp)
  · intro r' hr' k hk
    simp at hr'
    subst hr'
    have hlt := hown'.lt k (by simpa [own, hn] using hk)
    refine ⟨?_, hlt.2⟩
    by_cases hlt2 : k < w.heap.size
    · left
      -- an old block: it can only be the slice's own
      rcases Classical.em ((sv o n).ownBlock = some k) with h | h
      · exact ⟨own o e size es, by simp, by show (sv o es.length).ownBlock = some k; rw [hn]; exact h⟩
      · exfalso
        have hk2 : (sv (some gc) (n + 1)).ownBlock = some k := by simpa [own, hn] using hk
        rcases append_block hs hown (by have := hro.2 r (by simp); omega) hnews h1 (by omega) h63 hb hrun with h2 | h2
        · exact h (h2.symm.trans hk2)
        · rw [h2] at hk2
          injection hk2 with hk2
          omega
    · exact .inr (by omega)
/-! ### A function's end -/
variable {fn : Func} {R : Ending → World → Prop}
theorem end0 (hr : fn.results = #[]) (h : ∀ w, A w → R (.returned (.tuple #[])) w) : EndJ (bodyPost P fn R .ret) N F A := fun T w _ hA => ⟨rfl, _, by simp [results, hr], h w hA⟩
theorem end0n (hr : fn.results = #[]) (h : ∀ w, A w → R (.returned (.tuple #[])) w) : EndJ (bodyPost P fn R .normal) N F A := fun T w _ hA => ⟨rfl, _, by simp [results, hr], h w hA⟩
theorem Kn.get {T : Array Value} (h : Kn N F T) {i : Nat} {v : Value} (hv : look F i = some v) : T.getD i undef = v := by
  have := h.known i v hv
  simp [this]
theorem end1 {t : Tmp} {v : Value} (hr : fn.results = #[.tmp t]) (hv : look F t = some v) (h : ∀ w, A w → R (.returned v) w) : EndJ (bodyPost P fn R .ret) N F A := fun T w hT hA =>
  ⟨rfl, v, by
    have := hT.known t v hv
    simp [results, hr, this], h w hA⟩
theorem end2 {t u : Tmp} {v x : Value} (hr : fn.results = #[.tmp t, .tmp u]) (hv : look F t = some v) (hx : look F u = some x) (h : ∀ w, A w → R (.returned (.tuple #[v, x])) w) : EndJ (bodyPost P fn R .ret) N F A := fun T w hT hA =>
  ⟨rfl, _, by
    have h1 := hT.known t v hv
    have h2 := hT.known u x hx
    simp [results, hr, h1, h2], h w hA⟩
theorem end3 {t u r : Tmp} {v x y : Value} (hr : fn.results = #[.tmp t, .tmp u, .tmp r]) (hv : look F t = some v) (hx : look F u = some x) (hy : look F r = some y) (h : ∀ w, A w → R (.returned (.tuple #[v, x, y])) w) : EndJ (bodyPost P fn R .ret) N F A := fun T w hT hA =>
  ⟨rfl, _, by
    have h1 := hT.known t v hv
    have h2 := hT.known u x hx
    have h3 := hT.known r y hy
    simp [results, hr, h1, h2, h3], h w hA⟩
/-- The result is a struct that lies in a block of the call's own. -/
theorem endC {t : Tmp} {ty : TypeId} {b o n : Nat} {vs : List Value} (hr : fn.results = #[.cell t ty]) (ht : look F t = some (.pointer (some ⟨b, o, none⟩))) (ha : ∀ w, (isAgg ty).run P w = .ok true w) (hs : ∀ w, (Go.sizeOf ty).run P w = .ok n w)
    (hb : Has A b o vs) (hl : vs.length = n) (h : ∀ w, A w → R (.returned (.agg vs.toArray)) w) : EndJ (bodyPost P fn R .ret) N F A := fun T w hT hA =>
  ⟨rfl, _, by
    have h1 := hT.known t _ ht
    have h2 := run_loadA (P := P) ha hs hl (hb w hA)
    simp [results, hr, h1, asAddr, h2], h w hA⟩
theorem endC1 {t u : Tmp} {ty : TypeId} {b o n : Nat} {vs : List Value} {x : Value} (hr : fn.results = #[.cell t ty, .tmp u]) (ht : look F t = some (.pointer (some ⟨b, o, none⟩))) (hx : look F u = some x) (ha : ∀ w, (isAgg ty).run P w = .ok true w) (hs : ∀ w, (Go.sizeOf ty).run P w = .ok n w)
    (hb : Has A b o vs) (hl : vs.length = n) (h : ∀ w, A w → R (.returned (.tuple #[.agg vs.toArray, x])) w) : EndJ (bodyPost P fn R .ret) N F A := fun T w hT hA =>
  ⟨rfl, _, by
    have h1 := hT.known t _ ht
    have h3 := hT.known u x hx
    have h2 := run_loadA (P := P) ha hs hl (hb w hA)
    simp [results, hr, h1, h3, asAddr, h2], h w hA⟩
end
end Eng
