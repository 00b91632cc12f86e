/- The engine, part C: the rules of operations on memory, strings and slices, and of calls. No program is named here. -/
import Derived.Test.YtggofhbblidimaaDoorEngB
namespace Eng
open Go Go.RowKit

/-! ### Runs over the world -/
section
variable {P : Program}
theorem addr_add (b o k : Nat) : (⟨b, o, none⟩ : Addr).add k = ⟨b, o + k, none⟩ := by
  unfold Addr.add
  split
  · rename_i h; subst h; rfl
  · rfl
theorem run_loadCellsFrom {w : World} {b o : Nat} : ∀ (n i : Nat) (vs : List Value) (acc : Array Value), vs.length = n → (∀ j v, vs[j]? = some v → w.cell? ⟨b, o + (i + j), none⟩ = some v) →
    (loadCellsFrom ⟨b, o, none⟩ i n acc).run P w = .ok (acc ++ vs.toArray) w
  | 0, i, vs, acc, hl, _ => by
    have : vs = [] := List.eq_nil_of_length_eq_zero hl
    subst this
    simp [loadCellsFrom]
  | n + 1, i, [], acc, hl, _ => by simp at hl
  | n + 1, i, v :: vs, acc, hl, h => by
    have h0 : w.cell? ⟨b, o + i, none⟩ = some v := by simpa using h 0 v rfl
    have ih := run_loadCellsFrom n (i + 1) vs (acc.push v) (by simpa using hl) (fun j u hj => by
      have := h (j + 1) u (by simpa using hj)
      rw [show i + 1 + j = i + (j + 1) by omega]
      exact this)
    simp only [loadCellsFrom, addr_add, Sem.run_bind]
    simp only [run_load, h0, Result.andThen_ok, ih]
    simp
theorem run_load1 {w : World} {b o : Nat} {t : TypeId} {v : Value} (ha : ∀ w, (isAgg t).run P w = .ok false w) (hc : w.cell? ⟨b, o, none⟩ = some v) : (loadVar t ⟨b, o, none⟩).run P w = .ok v w := by
  simp [loadVar, ha, hc]
theorem run_loadA {w : World} {b o n : Nat} {t : TypeId} {vs : List Value} (ha : ∀ w, (isAgg t).run P w = .ok true w) (hs : ∀ w, (Go.sizeOf t).run P w = .ok n w) (hl : vs.length = n) (hc : Row w b o vs) :
    (loadVar t ⟨b, o, none⟩).run P w = .ok (.agg vs.toArray) w := by
  have := run_loadCellsFrom (P := P) (w := w) (b := b) (o := o) n 0 vs #[] hl (fun j v hj => by simpa using hc j v hj)
  simp [loadVar, ha, hs, loadCells, this]
/-- The world behind a new block. -/
theorem St.alloc (w : World) (cs : List Value) (t : TypeId) : St w No [blk w.heap.size cs t] (w.alloc (.cells cs.toArray t)) := by
  refine ⟨rfl, rfl, rfl, by simp, fun k hk _ => heap_alloc_old w _ k hk, ?_, ?_, List.pairwise_singleton _ _⟩
  · simpa [blk] using heap_alloc_new w (.cells cs.toArray t)
  · intro r hr k hk
    simp at hr
    subst hr
    simp [blk] at hk
    subst hk
    exact ⟨.inr (Nat.le_refl _), by simp⟩
theorem run_storeCells {b o : Nat} {t : TypeId} : ∀ (vs : List Value) (i : Nat) (cs : List Value) (w : World), w.heap[b]? = some (.cells cs.toArray t (0, 0)) → o + i + vs.length ≤ cs.length →
    (∀ v ∈ vs, v.oneCell' = true) → ∃ w', (storeCells ⟨b, o, none⟩ vs i).run P w = .ok () w' ∧ w'.heap[b]? = some (.cells (cs.take (o + i) ++ vs ++ cs.drop (o + i + vs.length)).toArray t (0, 0)) ∧
      w'.os = w.os ∧ w'.tape = w.tape ∧ w'.output = w.output ∧ w'.heap.size = w.heap.size ∧ ∀ k, k ≠ b → w'.heap[k]? = w.heap[k]?
  | [], i, cs, w, hb, hl, _ => ⟨w, by simp [storeCells], by simpa using hb, rfl, rfl, rfl, rfl, fun _ _ => rfl⟩
  | v :: vs, i, cs, w, hb, hl, h1 => by
    simp only [List.length_cons] at hl
    have hlt : o + i < cs.length := by omega
    have hc : w.cell? ⟨b, o + i, none⟩ = some cs[o + i] := by simp [World.cell?, hb, hlt]
    have hf : w.frozen? ⟨b, o + i, none⟩ = false := by simp [World.frozen?, hb]
    have hb1 : (w.setCell ⟨b, o + i, none⟩ v).heap[b]? = some (.cells (cs.set (o + i) v).toArray t (0, 0)) := by
      have := heap_setCell_same w b (o + i) cs.toArray t v hb
      simpa using this
    obtain ⟨w', hr, h2, h3, h4, h5, h6, h7⟩ := run_storeCells (b := b) (o := o) (t := t) vs (i + 1) (cs.set (o + i) v) (w.setCell ⟨b, o + i, none⟩ v) hb1 (by simp; omega) (fun u hu => h1 u (by simp [hu]))
    have hst := run_store P w ⟨b, o + i, none⟩ v .plain (h1 v (by simp))
    rw [hc] at hst
    simp only [hf, Bool.false_eq_true, if_false] at hst
    refine ⟨w', ?_, ?_, h3, h4, h5, by rw [h6]; simp, fun k hk => (h7 k hk).trans (heap_setCell_other w ⟨b, o + i, none⟩ k v hk)⟩
    · simp only [storeCells, addr_add, Sem.run_bind]
      rw [hst]
      simpa using hr
    · rw [h2]
      congr 3
      rw [List.drop_set_of_lt (by omega), show o + (i + 1) + vs.length = o + i + (vs.length + 1) by omega]
      rw [show o + (i + 1) = o + i + 1 by omega, List.take_add_one, List.getElem?_set_self (by simpa using hlt), List.take_set_of_le (Nat.le_refl _)]
      simp
theorem St.stored {w : World} {b p : Nat} {t : TypeId} {cs vs : List Value} (hb : w.heap[b]? = some (.cells cs.toArray t (0, 0))) (hl : p + vs.length ≤ cs.length) (h1 : ∀ v ∈ vs, v.oneCell' = true) :
    ∃ w', (storeCells ⟨b, p, none⟩ vs).run P w = .ok () w' ∧ St w (fpOf [blk b cs t]) [blk b (cs.take p ++ vs ++ cs.drop (p + vs.length)) t] w' := by
  obtain ⟨w', hr, h2, h3, h4, h5, h6, h7⟩ := run_storeCells (P := P) (b := b) (o := p) (t := t) vs 0 cs w hb (by simpa using hl) h1
  have hlt : b < w.heap.size := (Array.getElem?_eq_some_iff.1 hb).1
  refine ⟨w', hr, h3, h4, h5, by omega, fun k _ hM => h7 k (fun e => hM ⟨blk b cs t, by simp, e⟩), ?_, ?_, List.pairwise_singleton _ _⟩
  · simpa [blk] using h2
  · intro r hr k hk
    simp at hr
    subst hr
    simp [blk] at hk
    subst hk
    exact ⟨.inl ⟨blk _ cs t, by simp, rfl⟩, by omega⟩
end

section
variable {P : Program} {ops : Array Oper} {Q : Exit → Act → World → Prop} {K : Act → World → Prop} {N : Nat} {F : Fr} {A : WA} {rest : List Oper}
variable {d : Tmp} {dst : Option Tmp} {ty : TypeId} {pos : String} {after : Array Edge} {gd : Option (Nat × Bool)} {w0 : World} {M : Nat → Prop} {L L0 L1 : List Res}

/-- The frame behind an operation whose result goes to 'dst'. -/
def putF : Option Tmp → Value → Fr → Fr
  | some d, v, F => (d, v) :: F
  | none, _, F => F
def okD : Option Tmp → Nat → Bool
  | some d, N => Nat.blt d N
  | none, _ => true
theorem Kn.putF {T : Array Value} (h : Kn N F T) (v : Value) (hd : okD dst N = true) : Kn N (putF dst v F) ((⟨T, []⟩ : Act).put dst v).tmps := by
  cases dst with
  | none => exact h
  | some d => exact h.put d v hd
theorem put_act {T : Array Value} (v : Value) : ((⟨T, []⟩ : Act).put dst v) = ⟨((⟨T, []⟩ : Act).put dst v).tmps, []⟩ := by cases dst <;> rfl
/-- An operation that changes the world: it is handed L0, and gives Rs. -/
theorem opw {γ : Type} {op : Op} (H : γ → Prop) (val : γ → Value) (Rs : γ → List Res) (hd : okD dst N = true) (hg : Want ops F gd)
    (hrun : ∀ T w, Kn N F T → St w0 M (L0 ++ L1) w → ∃ g w' n, H g ∧ (execOp (⟨T, []⟩ : Act).eval ⟨dst, op, ty, pos, after, gd⟩).run P w = .ok n w' ∧ (n = .value (val g) ∨ n = .skip ∧ val g = undef) ∧ St w (fpOf L0) (Rs g) w')
    (k : ∀ g, H g → OpsJ P ops Q K rest N (putF dst (val g) F) (St w0 M (Rs g ++ L1))) : OpsJ P ops Q K (⟨dst, op, ty, pos, after, gd⟩ :: rest) N F (St w0 M (L0 ++ L1)) := by
  intro T w hT hA
  simp only [run]
  rw [if_pos (Want.wanted (o := ⟨dst, op, ty, pos, after, gd⟩) hg hT)]
  refine .inl ?_
  obtain ⟨g, w', n, hH, hr, hn, hs⟩ := hrun T w hT hA
  unfold Oper.wp
  rw [hr]
  have hk := k g hH _ w' (hT.putF (val g) hd) (hA.call hs)
  rw [← put_act] at hk
  rcases hn with rfl | ⟨rfl, hu⟩
  · exact hk
  · rw [hu] at hk; exact hk
/-- A call of a Go function by its contract. -/
theorem callC {γ : Type} (H : γ → Prop) (val : γ → Value) (Rs : γ → List Res) {f : Operand} {xs : Array Operand} {ats : Array TypeId} {i : FuncId} {fst cap : Array Value} {vs : List Value} (hd : okD dst N = true) (hg : Want ops F gd)
    (hf : ev F f = some (.func (.func i) fst cap)) (hx : evs F xs.toList = some vs) (hbody : ∀ (as : Array Value) (w : World), (callFunc i as).run P w = .ok (.enter i as) w)
    (hc : ∀ w, St w0 M (L0 ++ L1) w → Calls P i (fst.toList ++ vs ++ cap.toList).toArray w fun e w' => ∃ g, H g ∧ e = .returned (val g) ∧ St w (fpOf L0) (Rs g) w')
    (k : ∀ g, H g → OpsJ P ops Q K rest N (putF dst (val g) F) (St w0 M (Rs g ++ L1))) : OpsJ P ops Q K (⟨dst, .call { callee := .value f, args := xs, argTypes := ats }, ty, pos, after, gd⟩ :: rest) N F (St w0 M (L0 ++ L1)) := by
  intro T w hT hA
  simp only [run]
  rw [if_pos (Want.wanted (o := ⟨dst, .call { callee := .value f, args := xs, argTypes := ats }, ty, pos, after, gd⟩) hg hT)]
  refine .inl ?_
  have hxs : xs.map (⟨T, []⟩ : Act).eval = vs.toArray := by
    have := hT.evs (ds := []) hx
    rw [← this]
    apply Array.ext'
    simp
  have hr : (execOp (⟨T, []⟩ : Act).eval ⟨dst, .call { callee := .value f, args := xs, argTypes := ats }, ty, pos, after, gd⟩).run P w = .ok (.enter i (fst.toList ++ vs ++ cap.toList).toArray) w := by
    have e : fst ++ vs.toArray ++ cap = (fst.toList ++ vs ++ cap.toList).toArray := by simp
    rw [← e]
    simp [execOp, resolve, Deferred.ofValue, hT.ev hf, hxs, invoke, hbody]
  unfold Oper.wp
  rw [hr]
  refine (hc w hA).mono fun e w' he => ?_
  obtain ⟨g, hH, rfl, hs⟩ := he
  have hk := k g hH _ w' (hT.putF (val g) hd) (hA.call hs)
  rw [← put_act] at hk
  exact hk
end
end Eng
