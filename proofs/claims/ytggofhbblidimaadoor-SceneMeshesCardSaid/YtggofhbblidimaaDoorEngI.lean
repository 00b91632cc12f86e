/- The engine, part I: a law's row: the arguments as lists, and what is left behind. No program is named here. -/
import Derived.Test.YtggofhbblidimaaDoorEngH
import Derived.ProofKit
import Derived.Deep.Slices
import Derived.HandedShaped
namespace Eng
open Go Go.RowKit
open Go.ChangeShapes Go.WideShapes Go.Deep
section
variable {H : Type} {enc : TypeId × Value → H} {P : Program}
theorem below_all {W W' : World} (hl : laidOutB P = true) (hb : Below W.heap.size W W') : ∀ (ts : List TypeId) (vs : List Value) (ds : List (DataW H)) (ps : List MemPlace),
    (ts.all fun t => P.readableRec t && decide (t < P.types.size)) = true → DataW.TrodAll enc P W 0 (fun _ => true) true ts vs ds ps → (∀ x ∈ ps, x.block < W.heap.size) →
    DataW.TrodAll enc P W' 0 (fun b => decide (b < W.heap.size)) true ts vs ds ps
  | [], [], [], _, _, h, _ => h
  | t :: ts, v :: vs, d :: ds, ps, ht, h, hlt => by
    obtain ⟨p, q, h1, h2, rfl⟩ := h
    simp only [List.all_cons, Bool.and_eq_true, decide_eq_true_eq] at ht
    exact ⟨p, q, Below.trod hl ht.1.1 ht.1.2 h1 hb (fun x hx => hlt x (List.mem_append_left _ hx)), below_all hl hb ts vs ds q (by simpa using ht.2) h2 (fun x hx => hlt x (List.mem_append_right _ hx)), rfl⟩
  | [], [], _ :: _, _, _, h, _ => h.elim
  | [], _ :: _, _, _, _, h, _ => h.elim
  | _ :: _, [], _, _, _, h, _ => h.elim
  | _ :: _, _ :: _, [], _, _, h, _ => h.elim
/-- A law answered true, and nothing that was there has changed. -/
theorem law_post {f : Func} {s : ChangeSpec} {W W' : World} {args : Array Value} {ds gs : List (DataW H)} {before : List MemPlace} {tb : TypeId}
    (hW : DataW.Whole enc P f.params.toList s.vars false W args.toList ds gs before) (hv : s.vars = []) (hs : s.fn H (ds ++ gs) = { results := [.lit (.bool true)], args := ds }) (hr : f.resultTypes = #[tb])
    (ht : P.underlying tb = some .bool) (hl : laidOutB P = true) (hread : (f.params.toList.all fun t => P.readableRec t && decide (t < P.types.size)) = true) (hb : Below W.heap.size W W') :
    s.post enc P f false true false false W args (.bool true) W' := by
  have hlt := hW.lt
  have hW2 := hW
  obtain ⟨p, q, hA, hV, rfl, _, _⟩ := hW2
  have hq : q = [] := by
    rw [hv] at hV
    cases gs with
    | nil => exact hV
    | cons _ _ => exact hV.elim
  subst hq
  refine ⟨ds, gs, _, [], p, [], hW, ?_, ?_, ?_, hb.frame _, fun h => by cases h⟩
  · rw [hs, hr]
    exact trodAll_mk1 (shut_bool ht true)
  · rw [hs]
    exact below_all hl hb _ _ _ _ hread hA (fun x hx => hlt x (List.mem_append_left _ hx))
  · rw [hs, hv]
    exact rfl
/-- A slice that came in, as a list of rows. -/
theorem open_slAt {α : Type} {row : α → List Value} {good : α → Prop} {W : World} {t e size : TypeId} {r : Reach} {b0 : Nat} {v : Value} {d : DataW H} {p : List MemPlace} (ht : P.underlying t = some (.slice e)) (hsz : P.cellsOf e = size)
    (hpos : 0 < size) (dec : ∀ fuel cs x, DataW.trod enc P W 0 (fun _ => true) true fuel e cs = some x → ∃ q, cs = row q ∧ good q) (hv : Value.okWide P W r b0 t v) (hd : DataW.Trod enc P W 0 (fun _ => true) true t v d p) :
    ∃ (l : List α) (a : Option Addr) (c : Nat), v = .slice a l.length c ∧ SlAt W size a (l.map row) ∧ (∀ q ∈ l, good q) ∧ l.length ≤ maxLen ∧ l.length ≤ c := by
  obtain ⟨a0, n0, c0, rfl⟩ := okWide_slice ht hv
  obtain ⟨fuel, hf⟩ := hd
  rcases open_slice ht hf with ⟨h0, _⟩ | ⟨a, len, cap, m, n, D, Pl, hcs, hb, hlc, hcm, hm, hx, hi⟩
  · have : Value.slice a0 n0 c0 = .slice none 0 0 := by simpa [Value.cells] using h0
    rw [this]
    exact ⟨[], none, 0, rfl, ⟨0, 0, fun h => absurd rfl h, fun i r h => by simp at h⟩, by simp, by simp, by simp⟩
  · have hval : Value.slice a0 n0 c0 = .slice (some a) len cap := by simpa [Value.cells] using hcs
    rw [hval]
    have hlm : len ≤ m := by rw [hm]; split <;> omega
    have key : ∀ k, k ≤ len → ∃ l : List α, l.length = k ∧ ∀ i q, l[i]? = some q → W.cells? 0 (a.add (i * size)) size = some (row q) ∧ good q := by
      intro k
      induction k with
      | zero => intro _; exact ⟨[], rfl, fun i q h => by simp at h⟩
      | succ k ih =>
        intro hk
        obtain ⟨l, hl, hall⟩ := ih (by omega)
        obtain ⟨cs', h1, h2⟩ := hi k (by omega)
        obtain ⟨q, rfl, hg⟩ := dec _ _ _ h2
        rw [hsz] at h1
        refine ⟨l ++ [q], by simp [hl], fun i q' hq' => ?_⟩
        rcases Nat.lt_trichotomy i l.length with hlt | heq | hgt
        · rw [List.getElem?_append_left hlt] at hq'
          exact hall i q' hq'
        · subst heq
          rw [List.getElem?_append_right (Nat.le_refl _), Nat.sub_self] at hq'
          simp at hq'
          subst hq'
          rw [hl]
          exact ⟨h1, hg⟩
        · rw [List.getElem?_append_right (by omega)] at hq'
          have : i - l.length ≠ 0 := by omega
          obtain ⟨j, hj⟩ : ∃ j, i - l.length = j + 1 := ⟨i - l.length - 1, by omega⟩
          rw [hj] at hq'
          simp at hq'
    obtain ⟨l, hl, hall⟩ := key len (Nat.le_refl _)
    have hspot : l ≠ [] → a.spot = none := fun hne => by
      obtain ⟨q, l', rfl⟩ := List.exists_cons_of_ne_nil hne
      obtain ⟨h1, _⟩ := hall 0 q rfl
      obtain ⟨_, hlen, hc⟩ := World.cells?_some h1
      have := hc 0 hpos
      rw [List.getElem?_eq_getElem (show 0 < (row q).length by rw [hlen]; exact hpos)] at this
      simp only [Nat.zero_mul, Addr.add, if_true] at this
      unfold World.cell? at this
      split at this
      · split at this
        · cases this
        · rename_i hs
          simpa using hs
      · cases this
    refine ⟨l, some a, cap, by rw [hl], ⟨a.block, a.off, fun hne => ?_, fun i r hr => ?_⟩, fun q hq => ?_, by omega, by omega⟩
    · have := hspot (fun e => hne (by rw [e]; rfl))
      cases a
      simp only at this
      subst this
      rfl
    · rw [List.getElem?_map] at hr
      cases hq : l[i]? with
      | none => rw [hq] at hr; cases hr
      | some q =>
        rw [hq] at hr
        simp only [Option.map_some, Option.some.injEq] at hr
        subst hr
        have hsp := hspot (fun e => by rw [e] at hq; simp at hq)
        obtain ⟨h1, _⟩ := hall i q hq
        obtain ⟨_, hlen, hc⟩ := World.cells?_some h1
        intro j v hj
        have hlt : j < size := by have := (List.getElem?_eq_some_iff.1 hj).1; omega
        have := hc j hlt
        rw [hj] at this
        obtain ⟨ab, ao, as⟩ := a
        simp only at hsp
        subst hsp
        rw [addr_add, addr_add] at this
        exact this
    · obtain ⟨i, hi'⟩ := List.getElem?_of_mem hq
      exact (hall i q hi').2
end
/-- The wrap of a row: the contract is told the world's shape, and a condition of the row's own. -/
theorem row_wrap {H : Type} {enc : TypeId × Value → H} {a : Assume} {C : Checked} {os : Os} {f : FuncId} {fn : Func} {s : ChangeSpec} {conds : List PathCond} {apart fresh handsOn again : Bool} {X : World → Array Value → Prop}
    (hX : ∀ (w w' : World) (args : Array Value), w.heap = w'.heap → X w args → X w' args)
    (own : ownKnob C.prog.godebug = none) (started : os.Started) (noInit : C.prog.inits.idxOf? f = none) (hfn : C.prog.funcs[f]? = some fn)
    (witness : ∃ (w : World) (tape : Tape) (i : Input), w.os = os ∧ (w.forCall tape i).Shaped C.prog ∧ i.vars = [] ∧ Input.okWide C.prog (w.forCall tape i) .any w.heap.size f i ∧
      ((s.pre enc C.prog fn conds apart (w.forCall tape i).memory i.args ∧ X (w.forCall tape i).memory i.args) ∧ sizedMet enc C.prog fn (OpenSpec.ofChange s) apart (w.forCall tape i).memory i.args) ∧ a.holds C.prog (lone (Frame.enter C.prog f i.args .normal) [] (w.forCall tape i)))
    (contract : ∀ (W : World) (base : Nat) (args : Array Value) (ds gs : List (DataW H)) (before : List MemPlace),
      (∀ (j : Nat) t v, fn.params[j]? = some t → args[j]? = some v → Value.okWide C.prog W .any base t v) →
      DataW.Whole enc C.prog fn.params.toList s.vars apart W args.toList ds gs before → W.ShapedOpen C.prog → X W args →
      Calls C.prog f args W fun e W' => ∃ v, e = .returned v ∧ s.post enc C.prog fn apart fresh handsOn again W args v W') :
    ReturnsInHanded a C os f .any (fun w args => (s.pre enc C.prog fn conds apart w args ∧ X w args) ∧ sizedMet enc C.prog fn (OpenSpec.ofChange s) apart w args) (s.post enc C.prog fn apart fresh handsOn again) := by
  refine returnsInHanded_of_calls own started noInit witness ?_
  intro w tape i _ hsh _ hok hpre _
  obtain ⟨_, _, _, fn', hfn', _, _, _, _, hval⟩ := hok
  have e : fn' = fn := Option.some.inj (hfn'.symm.trans hfn)
  subst e
  obtain ⟨⟨⟨ds, gs, before, hw, _⟩, hx⟩, _⟩ := hpre
  have hw' := DataW.Whole.of_heap (w' := w.forCall tape i) (by rfl) hw
  refine (contract (w.forCall tape i) w.heap.size i.args ds gs before hval hw' hsh (hX _ _ _ (by rfl) hx)).mono fun e W' ⟨v, he, hp⟩ => ?_
  subst he
  exact ChangeSpec.post_blind hp
end Eng
