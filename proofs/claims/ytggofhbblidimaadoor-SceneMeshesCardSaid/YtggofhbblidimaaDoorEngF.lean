/- The engine, part F: contracts, and calls by them. No program is named here. -/
import Derived.Test.YtggofhbblidimaaDoorEngE
namespace Eng
open Go Go.RowKit
/-- A contract: called in w, the function returns 'val g' for some g with H g; it owns 'Rs g'; outside of M nothing that was there has changed. -/
def Ret (P : Program) (f : FuncId) (vs : List Value) (w : World) (M : Nat → Prop) {γ : Type} (H : γ → Prop) (val : γ → Value) (Rs : γ → List Res) : Prop :=
  Calls P f vs.toArray w fun e w' => ∃ g, H g ∧ e = .returned (val g) ∧ St w M (Rs g) w'
/-- A contract of a function that gives one value, and nothing else. -/
def Gives (P : Program) (f : FuncId) (vs : List Value) (w : World) (v : Value) : Prop := Calls P f vs.toArray w fun e w' => e = .returned v ∧ St w No [] w'
theorem Gives.of_below {P : Program} {f : FuncId} {vs : List Value} {w : World} {v : Value} (h : Calls P f vs.toArray w fun e w' => e = .returned v ∧ Below w.heap.size w w') : Gives P f vs w v :=
  h.mono fun _ _ ⟨he, hb⟩ => ⟨he, .of_below hb⟩
theorem St.fpOf {w w' : World} {L Rs : List Res} (h : St w No Rs w') : St w (fpOf L) Rs w' :=
  ⟨h.os, h.tape, h.output, h.size, fun k hk _ => h.block k hk (fun h => h), h.ok, fun r hr k hk => ⟨.inr ((h.fp r hr k hk).1.resolve_left (fun h => h)), (h.fp r hr k hk).2⟩, h.disj⟩
-- membership, by place
theorem m0 {α : Type} {a : α} {l : List α} : a ∈ a :: l := .head _
theorem m1 {α : Type} {a b : α} {l : List α} : b ∈ a :: b :: l := .tail _ m0
theorem m2 {α : Type} {a b c : α} {l : List α} : c ∈ a :: b :: c :: l := .tail _ m1
theorem m3 {α : Type} {a b c d : α} {l : List α} : d ∈ a :: b :: c :: d :: l := .tail _ m2
theorem m4 {α : Type} {a b c d e : α} {l : List α} : e ∈ a :: b :: c :: d :: e :: l := .tail _ m3
theorem m5 {α : Type} {a b c d e f : α} {l : List α} : f ∈ a :: b :: c :: d :: e :: f :: l := .tail _ m4
theorem m6 {α : Type} {a b c d e f g : α} {l : List α} : g ∈ a :: b :: c :: d :: e :: f :: g :: l := .tail _ m5
theorem m7 {α : Type} {a b c d e f g h : α} {l : List α} : h ∈ a :: b :: c :: d :: e :: f :: g :: h :: l := .tail _ m6
-- ranges
theorem i64r {x : Int} (h : -9223372036854775808 ≤ x ∧ x ≤ 9223372036854775807) : IntKind.i64.min ≤ x ∧ x ≤ IntKind.i64.max := h
theorem u8r {x : Int} (h : 0 ≤ x ∧ x ≤ 255) : IntKind.u8.min ≤ x ∧ x ≤ IntKind.u8.max := h
theorem i32r {x : Int} (h : -2147483648 ≤ x ∧ x ≤ 2147483647) : IntKind.i32.min ≤ x ∧ x ≤ IntKind.i32.max := h
theorem u64r {x : Int} (h : 0 ≤ x ∧ x ≤ 18446744073709551615) : IntKind.u64.min ≤ x ∧ x ≤ IntKind.u64.max := h
section
variable {P : Program} {ops : Array Oper} {Q : Exit → Act → World → Prop} {K : Act → World → Prop} {N : Nat} {F : Fr} {rest : List Oper}
variable {dst : Option Tmp} {ty : TypeId} {pos : String} {after : Array Edge} {gd : Option (Nat × Bool)} {w0 : World} {M : Nat → Prop} {L L1 : List Res}
variable {f : Operand} {xs : Array Operand} {ats : Array TypeId} {i : FuncId} {fst cap : Array Value} {vs us : List Value}
/-- A call that gives one value. -/
theorem callG {v : Value} (hd : okD dst N = true) (hg : Want ops F gd) (hf : ev F f = some (.func (.func i) fst cap)) (hx : evs F xs.toList = some vs) (hbody : ∀ (as : Array Value) (w : World), (callFunc i as).run P w = .ok (.enter i as) w)
    (hu : fst.toList ++ vs ++ cap.toList = us) (hc : ∀ w, St w0 M L w → Gives P i us w v)
    (k : OpsJ P ops Q K rest N (putF dst v F) (St w0 M L)) : OpsJ P ops Q K (⟨dst, .call { callee := .value f, args := xs, argTypes := ats }, ty, pos, after, gd⟩ :: rest) N F (St w0 M L) :=
  callC (L0 := []) (L1 := L) (γ := Unit) (fun _ => True) (fun _ => v) (fun _ => []) hd hg hf hx hbody (fun w hw => by
    subst hu
    exact (hc w hw).mono fun e w' ⟨h1, h2⟩ => ⟨(), trivial, h1, h2.fpOf⟩) (fun _ _ => k)
/-- A call that gives new resources. -/
theorem callR {γ : Type} {H : γ → Prop} {val : γ → Value} {Rs : γ → List Res} (hd : okD dst N = true) (hg : Want ops F gd) (hf : ev F f = some (.func (.func i) fst cap)) (hx : evs F xs.toList = some vs) (hbody : ∀ (as : Array Value) (w : World), (callFunc i as).run P w = .ok (.enter i as) w)
    (hu : fst.toList ++ vs ++ cap.toList = us) (hc : ∀ w, St w0 M L w → Ret P i us w No H val Rs)
    (k : ∀ g, H g → OpsJ P ops Q K rest N (putF dst (val g) F) (St w0 M (Rs g ++ L))) : OpsJ P ops Q K (⟨dst, .call { callee := .value f, args := xs, argTypes := ats }, ty, pos, after, gd⟩ :: rest) N F (St w0 M L) :=
  callC (L0 := []) (L1 := L) H val Rs hd hg hf hx hbody (fun w hw => by
    subst hu
    exact (hc w hw).mono fun e w' ⟨g, h1, h2, h3⟩ => ⟨g, h1, h2, h3.fpOf⟩) k
/-- A call that is handed the first resource, and gives others for it. -/
theorem callM {γ : Type} {H : γ → Prop} {val : γ → Value} {Rs : γ → List Res} {r : Res} (hd : okD dst N = true) (hg : Want ops F gd) (hf : ev F f = some (.func (.func i) fst cap)) (hx : evs F xs.toList = some vs) (hbody : ∀ (as : Array Value) (w : World), (callFunc i as).run P w = .ok (.enter i as) w)
    (hu : fst.toList ++ vs ++ cap.toList = us) (hc : ∀ w, St w0 M (r :: L) w → Ret P i us w (fpOf [r]) H val Rs)
    (k : ∀ g, H g → OpsJ P ops Q K rest N (putF dst (val g) F) (St w0 M (Rs g ++ L))) : OpsJ P ops Q K (⟨dst, .call { callee := .value f, args := xs, argTypes := ats }, ty, pos, after, gd⟩ :: rest) N F (St w0 M (r :: L)) :=
  callC (L0 := [r]) (L1 := L) H val Rs hd hg hf hx hbody (fun w hw => by
    subst hu
    exact hc w hw) k
/-- .. by the number of resources that come back. -/
theorem callR0 {γ : Type} {H : γ → Prop} {val : γ → Value} (hd : okD dst N = true) (hg : Want ops F gd) (hf : ev F f = some (.func (.func i) fst cap)) (hx : evs F xs.toList = some vs) (hbody : ∀ (as : Array Value) (w : World), (callFunc i as).run P w = .ok (.enter i as) w)
    (hu : fst.toList ++ vs ++ cap.toList = us) (hc : ∀ w, St w0 M L w → Ret P i us w No H val (fun _ => []))
    (k : ∀ g, H g → OpsJ P ops Q K rest N (putF dst (val g) F) (St w0 M L)) : OpsJ P ops Q K (⟨dst, .call { callee := .value f, args := xs, argTypes := ats }, ty, pos, after, gd⟩ :: rest) N F (St w0 M L) :=
  callR hd hg hf hx hbody hu hc k
theorem callR1 {γ : Type} {H : γ → Prop} {val : γ → Value} {r : γ → Res} (hd : okD dst N = true) (hg : Want ops F gd) (hf : ev F f = some (.func (.func i) fst cap)) (hx : evs F xs.toList = some vs) (hbody : ∀ (as : Array Value) (w : World), (callFunc i as).run P w = .ok (.enter i as) w)
    (hu : fst.toList ++ vs ++ cap.toList = us) (hc : ∀ w, St w0 M L w → Ret P i us w No H val (fun g => [r g]))
    (k : ∀ g, H g → OpsJ P ops Q K rest N (putF dst (val g) F) (St w0 M (r g :: L))) : OpsJ P ops Q K (⟨dst, .call { callee := .value f, args := xs, argTypes := ats }, ty, pos, after, gd⟩ :: rest) N F (St w0 M L) :=
  callR hd hg hf hx hbody hu hc k
theorem callM0 {γ : Type} {H : γ → Prop} {val : γ → Value} {r : Res} (hd : okD dst N = true) (hg : Want ops F gd) (hf : ev F f = some (.func (.func i) fst cap)) (hx : evs F xs.toList = some vs) (hbody : ∀ (as : Array Value) (w : World), (callFunc i as).run P w = .ok (.enter i as) w)
    (hu : fst.toList ++ vs ++ cap.toList = us) (hc : ∀ w, St w0 M (r :: L) w → Ret P i us w (fpOf [r]) H val (fun _ => []))
    (k : ∀ g, H g → OpsJ P ops Q K rest N (putF dst (val g) F) (St w0 M L)) : OpsJ P ops Q K (⟨dst, .call { callee := .value f, args := xs, argTypes := ats }, ty, pos, after, gd⟩ :: rest) N F (St w0 M (r :: L)) :=
  callM hd hg hf hx hbody hu hc k
theorem callM1 {γ : Type} {H : γ → Prop} {val : γ → Value} {r : Res} {r' : γ → Res} (hd : okD dst N = true) (hg : Want ops F gd) (hf : ev F f = some (.func (.func i) fst cap)) (hx : evs F xs.toList = some vs) (hbody : ∀ (as : Array Value) (w : World), (callFunc i as).run P w = .ok (.enter i as) w)
    (hu : fst.toList ++ vs ++ cap.toList = us) (hc : ∀ w, St w0 M (r :: L) w → Ret P i us w (fpOf [r]) H val (fun g => [r' g]))
    (k : ∀ g, H g → OpsJ P ops Q K rest N (putF dst (val g) F) (St w0 M (r' g :: L))) : OpsJ P ops Q K (⟨dst, .call { callee := .value f, args := xs, argTypes := ats }, ty, pos, after, gd⟩ :: rest) N F (St w0 M (r :: L)) :=
  callM hd hg hf hx hbody hu hc k
theorem callM2 {γ : Type} {H : γ → Prop} {val : γ → Value} {r s : Res} {r' s' : γ → Res} (hd : okD dst N = true) (hg : Want ops F gd) (hf : ev F f = some (.func (.func i) fst cap)) (hx : evs F xs.toList = some vs) (hbody : ∀ (as : Array Value) (w : World), (callFunc i as).run P w = .ok (.enter i as) w)
    (hu : fst.toList ++ vs ++ cap.toList = us) (hc : ∀ w, St w0 M (r :: s :: L) w → Ret P i us w (fpOf [r, s]) H val (fun g => [r' g, s' g]))
    (k : ∀ g, H g → OpsJ P ops Q K rest N (putF dst (val g) F) (St w0 M (r' g :: s' g :: L))) : OpsJ P ops Q K (⟨dst, .call { callee := .value f, args := xs, argTypes := ats }, ty, pos, after, gd⟩ :: rest) N F (St w0 M (r :: s :: L)) :=
  callC (L0 := [r, s]) (L1 := L) H val (fun g => [r' g, s' g]) hd hg hf hx hbody (fun w hw => by
    subst hu
    exact hc w hw) k
theorem callM21 {γ : Type} {H : γ → Prop} {val : γ → Value} {r s : Res} {r' : γ → Res} (hd : okD dst N = true) (hg : Want ops F gd) (hf : ev F f = some (.func (.func i) fst cap)) (hx : evs F xs.toList = some vs) (hbody : ∀ (as : Array Value) (w : World), (callFunc i as).run P w = .ok (.enter i as) w)
    (hu : fst.toList ++ vs ++ cap.toList = us) (hc : ∀ w, St w0 M (r :: s :: L) w → Ret P i us w (fpOf [r, s]) H val (fun g => [r' g]))
    (k : ∀ g, H g → OpsJ P ops Q K rest N (putF dst (val g) F) (St w0 M (r' g :: L))) : OpsJ P ops Q K (⟨dst, .call { callee := .value f, args := xs, argTypes := ats }, ty, pos, after, gd⟩ :: rest) N F (St w0 M (r :: s :: L)) :=
  callC (L0 := [r, s]) (L1 := L) H val (fun g => [r' g]) hd hg hf hx hbody (fun w hw => by
    subst hu
    exact hc w hw) k
theorem callM32 {γ : Type} {H : γ → Prop} {val : γ → Value} {r s t : Res} {r' s' : γ → Res} (hd : okD dst N = true) (hg : Want ops F gd) (hf : ev F f = some (.func (.func i) fst cap)) (hx : evs F xs.toList = some vs) (hbody : ∀ (as : Array Value) (w : World), (callFunc i as).run P w = .ok (.enter i as) w)
    (hu : fst.toList ++ vs ++ cap.toList = us) (hc : ∀ w, St w0 M (r :: s :: t :: L) w → Ret P i us w (fpOf [r, s, t]) H val (fun g => [r' g, s' g]))
    (k : ∀ g, H g → OpsJ P ops Q K rest N (putF dst (val g) F) (St w0 M (r' g :: s' g :: L))) : OpsJ P ops Q K (⟨dst, .call { callee := .value f, args := xs, argTypes := ats }, ty, pos, after, gd⟩ :: rest) N F (St w0 M (r :: s :: t :: L)) :=
  callC (L0 := [r, s, t]) (L1 := L) H val (fun g => [r' g, s' g]) hd hg hf hx hbody (fun w hw => by
    subst hu
    exact hc w hw) k
/-- A call, known by what lies below the call's own world alone: what was owned is let go. -/
theorem callB {v : Value} (hd : okD dst N = true) (hg : Want ops F gd) (hf : ev F f = some (.func (.func i) fst cap)) (hx : evs F xs.toList = some vs) (hbody : ∀ (as : Array Value) (w : World), (callFunc i as).run P w = .ok (.enter i as) w)
    (hu : fst.toList ++ vs ++ cap.toList = us) (hc : ∀ w, St w0 No L w → Calls P i us.toArray w fun e w' => e = .returned v ∧ Below w0.heap.size w w')
    (k : OpsJ P ops Q K rest N (putF dst v F) (St w0 No [])) : OpsJ P ops Q K (⟨dst, .call { callee := .value f, args := xs, argTypes := ats }, ty, pos, after, gd⟩ :: rest) N F (St w0 No L) := by
  intro T w hT hA
  simp only [run]
  rw [if_pos (Want.wanted (o := ⟨dst, .call { callee := .value f, args := xs, argTypes := ats }, ty, pos, after, gd⟩) hg hT)]
  refine .inl ?_
  have hxs : xs.map (⟨T, []⟩ : Act).eval = vs.toArray := by
    have := hT.evs (ds := []) hx
    rw [← this]
    apply Array.ext'
    simp
  have hr : (execOp (⟨T, []⟩ : Act).eval ⟨dst, .call { callee := .value f, args := xs, argTypes := ats }, ty, pos, after, gd⟩).run P w = .ok (.enter i us.toArray) w := by
    have e : fst ++ vs.toArray ++ cap = us.toArray := by simp [← hu]
    rw [← e]
    simp [execOp, resolve, Deferred.ofValue, hT.ev hf, hxs, invoke, hbody]
  unfold Oper.wp
  rw [hr]
  refine (hc w hA).mono fun e w' he => ?_
  obtain ⟨rfl, hb⟩ := he
  have hst : St w0 No [] w' := ⟨hb.os.trans hA.os, hb.tape.trans hA.tape, hb.output.trans hA.output, Nat.le_trans hA.size hb.size, fun k hk _ => (hb.block k hk).trans (hA.block k hk (fun h => h)), by simp, by simp, .nil⟩
  have hk := k _ w' (hT.putF v hd) hst
  rw [← put_act] at hk
  exact hk
end
end Eng
