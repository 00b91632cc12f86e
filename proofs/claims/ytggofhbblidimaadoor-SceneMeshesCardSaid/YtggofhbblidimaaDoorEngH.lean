/- The engine, part H: handed-over resources, calls over any state, conversions and calls of the model's own functions. No program is named here. -/
import Derived.Test.YtggofhbblidimaaDoorEngG
import Derived.Laws.Externs
import Derived.Lib.Builder
import Derived.LaidEqlPtr
namespace Eng
open Go Go.RowKit
/-- What a call is handed. -/
abbrev Own (w : World) (L : List Res) : Prop := St w (fpOf L) L w
theorem St.heldBy {w0 w : World} {M : Nat → Prop} {L L0 : List Res} (h : St w0 M L w) (hs : L0.Sublist L) : Own w L0 :=
  ⟨rfl, rfl, rfl, Nat.le_refl _, fun _ _ _ => rfl, fun r hr => h.ok r (hs.subset hr), fun r hr k hk => ⟨.inl ⟨r, hr, hk⟩, (h.fp r (hs.subset hr) k hk).2⟩, h.disj.sublist hs⟩
theorem St.own1 {w0 w : World} {M : Nat → Prop} {L : List Res} {r : Res} (h : St w0 M (r :: L) w) : Own w [r] := h.heldBy ((List.nil_sublist L).cons_cons r)
theorem St.own2 {w0 w : World} {M : Nat → Prop} {L : List Res} {r s : Res} (h : St w0 M (r :: s :: L) w) : Own w [r, s] := h.heldBy (((List.nil_sublist L).cons_cons s).cons_cons r)
theorem St.own3 {w0 w : World} {M : Nat → Prop} {L : List Res} {r s t : Res} (h : St w0 M (r :: s :: t :: L) w) : Own w [r, s, t] := h.heldBy ((((List.nil_sublist L).cons_cons t).cons_cons s).cons_cons r)
section
variable {P : Program} {ops : Array Oper} {Q : Exit → Act → World → Prop} {K : Act → World → Prop} {N : Nat} {F : Fr} {A : WA} {rest : List Oper}
variable {d : Tmp} {dst : Option Tmp} {ty : TypeId} {pos : String} {after : Array Edge} {gd : Option (Nat × Bool)}
variable {f : Operand} {xs : Array Operand} {ats : Array TypeId} {i : FuncId} {fst cap : Array Value} {vs us : List Value}
/-- A call that gives one value, in whatever state. -/
theorem callA {B : WA} {v : Value} (hd : okD dst N = true) (hg : Want ops F gd) (hf : ev F f = some (.func (.func i) fst cap)) (hx : evs F xs.toList = some vs) (hbody : ∀ (as : Array Value) (w : World), (callFunc i as).run P w = .ok (.enter i as) w)
    (hu : fst.toList ++ vs ++ cap.toList = us) (hc : ∀ w, A w → Calls P i us.toArray w fun e w' => e = .returned v ∧ B w')
    (k : OpsJ P ops Q K rest N (putF dst v F) B) : OpsJ P ops Q K (⟨dst, .call { callee := .value f, args := xs, argTypes := ats }, ty, pos, after, gd⟩ :: rest) N F A := by
  intro T w hT hA
  simp only [run]
  rw [if_pos (Want.wanted (o := ⟨dst, .call { callee := .value f, args := xs, argTypes := ats }, ty, pos, after, gd⟩) hg hT)]
  refine .inl ?_
  have hxs : xs.map (⟨T, []⟩ : Act).eval = vs.toArray := by
    have := hT.evs (ds := []) hx
    rw [← this]
    apply Array.ext'
    simp
  have hr : (execOp (⟨T, []⟩ : Act).eval ⟨dst, .call { callee := .value f, args := xs, argTypes := ats }, ty, pos, after, gd⟩).run P w = .ok (.enter i us.toArray) w := by
    have e : fst ++ vs.toArray ++ cap = us.toArray := by simp [← hu]
    rw [← e]
    simp [execOp, resolve, Deferred.ofValue, hT.ev hf, hxs, invoke, hbody]
  unfold Oper.wp
  rw [hr]
  refine (hc w hA).mono fun e w' he => ?_
  obtain ⟨rfl, hb⟩ := he
  have hk := k _ w' (hT.putF v hd) hb
  rw [← put_act] at hk
  exact hk
/-- A function without a body, that the model itself answers. -/
theorem callX {v : Value} (hg : Want ops F gd) (hf : ev F f = some (.func (.func i) #[] #[])) (hx : evs F xs.toList = some vs) (hv : ∀ w, A w → (callFunc i vs.toArray).run P w = .ok (.value v) w) :
    Yl P ops N F A ⟨some d, .call { callee := .value f, args := xs, argTypes := ats }, ty, pos, after, gd⟩ v :=
  opv hg (fun T w hT hA => by
    have hxs : xs.map (⟨T, []⟩ : Act).eval = vs.toArray := by
      have := hT.evs (ds := []) hx
      rw [← this]
      apply Array.ext'
      simp
    simp [execOp, resolve, Deferred.ofValue, hT.ev hf, hxs, invoke, hv w hA])
/-- A conversion, by its run. -/
theorem cvV {x : Operand} {s t : TypeId} {a v : Value} (hg : Want ops F gd) (hx : ev F x = some a) (hv : ∀ w, A w → (convert s t a).run P w = .ok v w) : Yl P ops N F A ⟨some d, .convert s t x, ty, pos, after, gd⟩ v :=
  opv hg (fun T w hT hA => by simp [execOp, hT.ev hx, hv w hA])
end
/-- A fact beside the state. -/
theorem CodeJ.fact {P : Program} {c : Code} {Q : Exit → Act → World → Prop} {N : Nat} {F : Fr} {B : WA} {p : Prop} (h : p → CodeJ P c Q N F B) : CodeJ P c Q N F (fun w => B w ∧ p) := fun T w hT hA => h hA.2 T w hT hA.1
theorem blk_shape {w0 w : World} {M : Nat → Prop} {L : List Res} {b : Nat} {cs : List Value} {t : TypeId} (h : St w0 M (blk b cs t :: L) w) : w.shape? b = some (t, cs.length) := by
  have := h.ok (blk b cs t) m0
  simp only [blk] at this
  simp [World.shape?, this]
/-- A slice that is nil, as one that the call owns. -/
theorem St.nilOwn {w0 w : World} {M : Nat → Prop} {L : List Res} (e size : Nat) (h : St w0 M L w) : St w0 M (own none e size [] :: L) w := by
  refine ⟨h.os, h.tape, h.output, h.size, h.block, fun r hr => ?_, fun r hr => ?_, List.pairwise_cons.2 ⟨fun r _ k hk => ?_, h.disj⟩⟩
  · rcases List.mem_cons.1 hr with rfl | hr
    · exact ⟨World.ownsRow_nil w 0 e size, by simp⟩
    · exact h.ok r hr
  · rcases List.mem_cons.1 hr with rfl | hr
    · intro k hk
      simp [own, sv, Value.ownBlock] at hk
    · exact h.fp r hr
  · simp [own, sv, Value.ownBlock] at hk
theorem ownsRow_base {w : World} {B e size n : Nat} {v : Value} {xs : List Value} (h : w.ownsRow 0 e size v n xs) (hB : ∀ k, v.ownBlock = some k → B ≤ k) : w.ownsRow B e size v n xs := by
  refine ⟨h.1, ?_⟩
  rcases h.2 with h2 | ⟨g, cap, cur, hv, _, rest⟩
  · exact .inl h2
  · exact .inr ⟨g, cap, cur, hv, hB g (by rw [hv]; rfl), rest⟩
/-! ### Slices that are read -/
theorem SlAt.same {w w' : World} {size : Nat} {a : Option Addr} {es : List (List Value)} (h : SlAt w size a es) (hk : ∀ k, k < w.heap.size → w'.heap[k]? = w.heap[k]?) : SlAt w' size a es := by
  obtain ⟨b, o, ha, hr⟩ := h
  refine ⟨b, o, ha, fun i r hi j v hj => ?_⟩
  have hc := hr i r hi j v hj
  have hlt : b < w.heap.size := World.block_lt_of_cell? w ⟨b, o + i * size + j, none⟩ hc
  exact (World.cell?_of_block (w := w) (a := ⟨b, o + i * size + j, none⟩) (hk b hlt)).trans hc
/-- .. and stay, where nothing that was there has changed. -/
theorem SlAt.st {w0 w : World} {L : List Res} {size : Nat} {a : Option Addr} {es : List (List Value)} (h : SlAt w0 size a es) (hw : St w0 No L w) : SlAt w size a es :=
  h.same fun k hk => hw.block k hk (fun h => h)
/-- What the call owns may be read. -/
theorem own_slAt {w0 w : World} {M : Nat → Prop} {L : List Res} {o : Option (Nat × Nat)} {e size n : Nat} {es : List (List Value)} (hw : St w0 M L w) (hm : own o e size es ∈ L) (hn : es.length = n) :
    ∃ a c, sv o n = .slice a n c ∧ SlAt w size a es := by
  cases o with
  | none =>
    have h := (hw.ok _ hm).1.2
    rcases h with ⟨_, h0⟩ | ⟨g, cap, cur, hv, _⟩
    · have he : es = [] := List.eq_nil_of_length_eq_zero h0
      subst he
      simp at hn
      subst hn
      exact ⟨none, 0, rfl, 0, 0, fun h => absurd rfl h, fun i r hi => by simp at hi⟩
    · simp [sv] at hv
  | some gc =>
    refine ⟨some ⟨gc.1, 0, none⟩, gc.2, rfl, gc.1, 0, fun _ => rfl, fun i r hi => ?_⟩
    rw [Nat.zero_add]
    exact hasOwn (cap := gc.2) hm hi w hw
/-- .. outside of what a call may change. -/
def SlAtM (w : World) (M : Nat → Prop) (size : Nat) (a : Option Addr) (es : List (List Value)) : Prop :=
  ∃ b o, (es ≠ [] → a = some ⟨b, o, none⟩ ∧ ¬ M b) ∧ ∀ i r, es[i]? = some r → Row w b (o + i * size) r
theorem SlAt.no {w : World} {size : Nat} {a : Option Addr} {es : List (List Value)} (h : SlAt w size a es) : SlAtM w No size a es := by
  obtain ⟨b, o, ha, hr⟩ := h
  exact ⟨b, o, fun h => ⟨ha h, fun h => h⟩, hr⟩
theorem SlAtM.st {w0 w : World} {r s : Res} {L : List Res} {size : Nat} {a : Option Addr} {es : List (List Value)} (h : SlAtM w0 No size a es) (hne : ∀ x ∈ es, x ≠ []) (hw : St w0 No (r :: s :: L) w) : SlAtM w (fpOf [r, s]) size a es := by
  obtain ⟨b, o, ha, hr⟩ := h
  cases es with
  | nil => exact ⟨0, 0, fun h => absurd rfl h, fun i x hi => by simp at hi⟩
  | cons y es =>
    obtain ⟨v, y', rfl⟩ := List.exists_cons_of_ne_nil (hne y (by simp))
    have hb : b < w0.heap.size := World.block_lt_of_cell? w0 _ (hr 0 (v :: y') rfl 0 v rfl)
    refine ⟨b, o, fun hne => ⟨(ha hne).1, fun ⟨x, hx, hk⟩ => ?_⟩, fun i x hi j v hj => ?_⟩
    · have hm : x ∈ r :: s :: L := by
        simp only [List.mem_cons, List.not_mem_nil, or_false] at hx
        rcases hx with rfl | rfl <;> simp
      have := (hw.fp x hm b hk).1.resolve_left (fun h => h)
      omega
    · exact (World.cell?_of_block (w := w0) (a := ⟨b, o + i * size + j, none⟩) (hw.block b hb (fun h => h))).trans (hr i x hi j v hj)
/-- A part of a slice. -/
theorem SlAtM.part {w : World} {M : Nat → Prop} {size lo hi c : Nat} {a : Option Addr} {es : List (List Value)} (h : SlAtM w M size a es) (hlo : lo ≤ hi) (hhi : hi ≤ es.length) (hc : es.length ≤ c) :
    SlAtM w M size (if c = lo then a else a.map (·.add (lo * size))) ((es.take hi).drop lo) := by
  obtain ⟨b, o, ha, hr⟩ := h
  refine ⟨b, o + lo * size, fun hne => ?_, fun i r hi' => ?_⟩
  · have hlt : lo < hi := by
      rcases Nat.lt_or_ge lo hi with h | h
      · exact h
      · exfalso
        apply hne
        apply List.drop_eq_nil_of_le
        simp
        omega
    have hes : es ≠ [] := by
      intro e
      rw [e] at hhi
      simp at hhi
      omega
    obtain ⟨h1, h2⟩ := ha hes
    rw [if_neg (by omega), h1]
    exact ⟨by simp [addr_add], h2⟩
  · rw [List.getElem?_drop, List.getElem?_take] at hi'
    split at hi'
    · have := hr (lo + i) r hi'
      rw [show o + lo * size + i * size = o + (lo + i) * size by rw [Nat.add_mul]; omega]
      exact this
    · cases hi'
theorem SlAtM.rest {w : World} {M : Nat → Prop} {size lo c : Nat} {a : Option Addr} {es : List (List Value)} (h : SlAtM w M size a es) (hlo : lo ≤ es.length) (hc : es.length ≤ c) :
    SlAtM w M size (if c = lo then a else a.map (·.add (lo * size))) (es.drop lo) := by
  have := h.part (hi := es.length) hlo (Nat.le_refl _) hc
  rwa [List.take_length] at this
/-- What the call owns, and does not hand over, may be read by the callee. -/
theorem own_slAtM {w0 w : World} {M : Nat → Prop} {L0 L : List Res} {o : Option (Nat × Nat)} {e size n : Nat} {es : List (List Value)} (hw : St w0 M (L0 ++ L) w) (hm : own o e size es ∈ L) (hn : es.length = n) :
    ∃ a c, sv o n = .slice a n c ∧ n ≤ c ∧ SlAtM w (fpOf L0) size a es := by
  have hok := hw.ok _ (List.mem_append_right _ hm)
  cases o with
  | none =>
    have h := hok.1.2
    rcases h with ⟨_, h0⟩ | ⟨g, cap, cur, hv, _⟩
    · have he : es = [] := List.eq_nil_of_length_eq_zero h0
      subst he
      simp at hn
      subst hn
      exact ⟨none, 0, rfl, Nat.le_refl _, 0, 0, fun h => absurd rfl h, fun i r hi => by simp at hi⟩
    · simp [sv] at hv
  | some gc =>
    have hcap : n ≤ gc.2 := by
      rcases hok.1.2 with ⟨h, _⟩ | ⟨g, cap, cur, hv, _, _, hnc, _⟩
      · simp [sv] at h
      · simp only [sv, Value.slice.injEq] at hv
        rw [hv.2.2, ← hn]
        exact hnc
    refine ⟨some ⟨gc.1, 0, none⟩, gc.2, rfl, hcap, gc.1, 0, fun _ => ⟨rfl, fun ⟨r, hr, hk⟩ => ?_⟩, fun i r hi => ?_⟩
    · have hd := (List.pairwise_append.1 hw.disj).2.2 r hr _ hm gc.1 hk
      exact hd rfl
    · rw [Nat.zero_add]
      exact hasOwn (cap := gc.2) (List.mem_append_right L0 hm) hi w hw
/-- A new row, as a slice that the call owns. -/
theorem St.newOwn (w : World) (es : List (List Value)) (e size n : Nat) (hn : es.length = n) (hr : ∀ r ∈ es, r.length = size) (hm : n ≤ maxLen) : St w No [Eng.own (some (w.heap.size, n)) e size es] (w.alloc (.cells es.flatten.toArray e)) := by
  refine ⟨rfl, rfl, rfl, by simp, fun k hk _ => heap_alloc_old w _ k hk, ?_, ?_, List.pairwise_singleton _ _⟩
  · intro r hr'
    simp at hr'
    subst hr'
    have hlen : es.flatten.length = n * size := by
      rw [List.length_flatten, List.map_congr_left hr, List.map_const', List.sum_replicate_nat, hn]
    refine ⟨?_, hr⟩
    rw [hn]
    have := World.ownsRow_lit (base := 0) (e := e) (size := size) w es.flatten.toArray n (Nat.zero_le _) hm (by simpa using hlen)
    simpa [sv] using this
  · intro r hr' k hk
    simp at hr'
    subst hr'
    simp [Eng.own, sv, Value.ownBlock] at hk
    subst hk
    exact ⟨.inr (Nat.le_refl _), by simp⟩
/-- An error, or none. -/
def isErr : Value → Bool
  | .nilIface => false
  | _ => true
theorem neErr {P : Program} {ops : Array Oper} {N : Nat} {F : Fr} {A : WA} {d : Tmp} {ty : TypeId} {pos : String} {after : Array Edge} {gd : Option (Nat × Bool)} {x : Operand} {t t' : TypeId} {v : Value} (hg : Want ops F gd) (hx : ev F x = some v)
    (hv : v = .nilIface ∨ ∃ u p, v = .iface u p) (ht : P.underlying t = some (.interface (P.methodsAt t))) : Yl P ops N F A ⟨some d, .binOp .neq t x (.const .nilIface) t', ty, pos, after, gd⟩ (.bool (isErr v)) := by
  rcases hv with rfl | ⟨u, p, rfl⟩
  · exact neNil0 hg hx ht
  · exact neNil hg hx ht
theorem run_neq_same {P : Program} (w : World) {tp te : TypeId} {j : TypeInfo} (a : Addr) (hp : P.underlying tp = some (.pointer te)) (hte : P.info? te = some j) :
    (binOp .neq tp (.pointer (some a)) (.pointer (some a))).run P w = .ok (.bool false) w := by
  have h : ∀ d : Nat, (Op.equalIn (d + 1) tp (.pointer (some a)) (.pointer (some a))).run P w = .ok true w := fun d => by
    by_cases hz : j.size = 0
    · simp [Op.equalIn, run_underlying hp, Go.sizeOf, typeInfo, hte, hz]
    · simp [Op.equalIn, run_underlying hp, Go.sizeOf, typeInfo, hte, run_sameAddr_same]
  simp only [binOp]
  simp [Op.equal, Op.maxDepth, h]
end Eng
