/- The engine, part A: partial knowledge of a frame, judgments over operations and code, and their structural rules. No program is named here. -/
import Derived.Tactics2
import Derived.Laws.AppendOwn
import Derived.Laws.OwnMore
import Derived.Laws.MakeOwn
import Derived.Below
import Derived.KernelRfl
import Derived.OrdersHeld
namespace Eng
open Go Go.RowKit

/-! ### What is known of a frame -/
abbrev Fr := List (Nat × Value)
def look : Fr → Nat → Option Value
  | [], _ => none
  | (j, v) :: F, i => bif Nat.beq j i then some v else look F i
structure Kn (N : Nat) (F : Fr) (T : Array Value) : Prop where
  size : T.size = N
  known : ∀ i v, look F i = some v → T[i]? = some v
def ev (F : Fr) : Operand → Option Value
  | .tmp t => look F t
  | .const v => some v
  | .global g => some (.pointer (some ⟨g, 0, none⟩))
  | .func f => some (.func (.func f) #[] #[])
def evs (F : Fr) : List Operand → Option (List Value)
  | [] => some []
  | x :: xs => match ev F x, evs F xs with
    | some v, some vs => some (v :: vs)
    | _, _ => none
theorem look_cons (d : Nat) (v : Value) (F : Fr) (i : Nat) : look ((d, v) :: F) i = if d = i then some v else look F i := by
  by_cases h : d = i
  · subst h; simp [look]
  · have : Nat.beq d i = false := by
      cases hb : Nat.beq d i with
      | true => exact absurd (Nat.eq_of_beq_eq_true hb) h
      | false => rfl
    simp [look, this, h]
theorem Kn.put {N : Nat} {F : Fr} {T : Array Value} (h : Kn N F T) (d : Nat) (v : Value) (hd : Nat.blt d N = true) : Kn N ((d, v) :: F) (T.setIfInBounds d v) := by
  have hd' : d < T.size := by rw [h.size]; simpa [Nat.blt_eq] using hd
  refine ⟨by simpa using h.size, fun i u hu => ?_⟩
  rw [look_cons] at hu
  by_cases hi : d = i
  · subst hi
    simp at hu
    subst hu
    simp [hd']
  · rw [if_neg hi] at hu
    rw [Array.getElem?_setIfInBounds_ne hi]
    exact h.known i u hu
theorem Kn.ev {N : Nat} {F : Fr} {T : Array Value} {ds : List Deferred} (h : Kn N F T) {x : Operand} {v : Value} (hx : ev F x = some v) : (⟨T, ds⟩ : Act).eval x = v := by
  cases x with
  | tmp t =>
    have := h.known t v hx
    simp [Act.eval, this]
  | const u => simpa [Eng.ev, Act.eval] using hx
  | global g => simpa [Eng.ev, Act.eval] using hx
  | func f => simpa [Eng.ev, Act.eval] using hx
theorem Kn.evs {N : Nat} {F : Fr} {T : Array Value} {ds : List Deferred} (h : Kn N F T) : ∀ {xs : List Operand} {vs : List Value}, evs F xs = some vs → xs.map (⟨T, ds⟩ : Act).eval = vs
  | [], vs, hx => by simp [Eng.evs] at hx; subst hx; rfl
  | x :: xs, vs, hx => by
    simp only [Eng.evs] at hx
    split at hx
    · rename_i v ws hv hw
      simp only [Option.some.injEq] at hx
      subst hx
      simp [h.ev hv, h.evs hw]
    · cases hx
/-- Knowledge that follows from other knowledge. -/
def Sub : Fr → Fr → Prop
  | [], _ => True
  | (i, v) :: G, F => look F i = some v ∧ Sub G F
theorem Sub.look {F : Fr} : ∀ {G : Fr}, Sub G F → ∀ i v, look G i = some v → Eng.look F i = some v
  | [], _, i, v, h => by cases h
  | (j, u) :: G, hs, i, v, h => by
    rw [look_cons] at h
    by_cases hj : j = i
    · subst hj; simp at h; subst h; exact hs.1
    · rw [if_neg hj] at h; exact Sub.look hs.2 i v h
theorem Kn.sub {N : Nat} {F G : Fr} {T : Array Value} (h : Kn N F T) (hs : Sub G F) : Kn N G T := ⟨h.size, fun i v hi => h.known i v (hs.look i v hi)⟩
/-- The frame at a function's entry. -/
def args : Nat → List Value → Fr
  | _, [] => []
  | k, v :: vs => (k, v) :: args (k + 1) vs
theorem look_args : ∀ (vs : List Value) (k i : Nat) (v : Value), look (args k vs) i = some v → k ≤ i ∧ vs[i - k]? = some v
  | [], _, _, _, h => by cases h
  | u :: vs, k, i, v, h => by
    simp only [args] at h
    rw [look_cons] at h
    by_cases hi : k = i
    · subst hi; simp at h; subst h; simp
    · rw [if_neg hi] at h
      obtain ⟨h1, h2⟩ := look_args vs (k + 1) i v h
      refine ⟨by omega, ?_⟩
      have : i - k = (i - (k + 1)) + 1 := by omega
      rw [this]
      simpa using h2
theorem Kn.entry (n : Nat) (vs : List Value) (h : vs.length ≤ n) : Kn n (args 0 vs) (vs.toArray ++ Array.replicate (n - vs.toArray.size) undef) := by
  refine ⟨by simp; omega, fun i v hi => ?_⟩
  obtain ⟨_, h2⟩ := look_args vs 0 i v hi
  simp only [Nat.sub_zero] at h2
  have hlt : i < vs.length := (List.getElem?_eq_some_iff.1 h2).1
  rw [Array.getElem?_append_left (by simpa using hlt)]
  simpa using h2

/-! ### Judgments -/
abbrev WA := World → Prop
section
variable {P : Program} {ops : Array Oper} {Q : Exit → Act → World → Prop} {K : Act → World → Prop} {N : Nat} {F : Fr} {A : WA}

/-- The operations of a list, and then K. -/
def run (P : Program) (ops : Array Oper) (Q : Exit → Act → World → Prop) (K : Act → World → Prop) : List Oper → Act → World → Prop
  | [], a, w => K a w
  | o :: rest, a, w =>
    if Region.wanted o (yielded ops a.tmps) then o.wp P a w (run P ops Q K rest) Q ∨ (o.asks P a w ∧ LetsOut Q) else run P ops Q K rest (a.put o.dst undef) w
theorem run_eq (l : List Oper) : run P ops Q (Q .normal) l = wpList P ops Q l := by
  induction l with
  | nil => rfl
  | cons o l ih => funext a w; simp only [run, wpList, ih]
theorem upon_mono {o : Oper} {a : Act} {n1 n2 : Act → World → Prop} (h : ∀ a w, n1 a w → n2 a w) (r : Result Next) (hr : o.upon P a n1 Q r) : o.upon P a n2 Q r := by
  unfold Oper.upon at *
  split at hr
  · exact h _ _ hr
  · exact h _ _ hr
  · exact h _ _ hr
  · refine Calls.mono hr fun e w' he => ?_
    cases e
    · exact h _ _ he
    · exact he
    · exact he
  · exact Rows.mono hr fun v w' he => h _ _ he
  · exact hr
  · exact hr.elim
theorem run_mono {K' : Act → World → Prop} (h : ∀ a w, K a w → K' a w) : ∀ (l : List Oper) (a : Act) (w : World), run P ops Q K l a w → run P ops Q K' l a w
  | [], a, w, hk => h a w hk
  | o :: l, a, w, hk => by
    simp only [run] at *
    split
    · rename_i hw
      rw [if_pos hw] at hk
      rcases hk with hk | hk
      · exact .inl (upon_mono (fun a w => run_mono h l a w) _ hk)
      · exact .inr hk
    · rename_i hw
      rw [if_neg hw] at hk
      exact run_mono h l _ _ hk
theorem run_append (l m : List Oper) : run P ops Q K (l ++ m) = run P ops Q (run P ops Q K m) l := by
  induction l with
  | nil => rfl
  | cons o l ih => funext a w; simp only [List.cons_append, run, ih]

def OpsJ (P : Program) (ops : Array Oper) (Q : Exit → Act → World → Prop) (K : Act → World → Prop) (l : List Oper) (N : Nat) (F : Fr) (A : WA) : Prop :=
  ∀ T w, Kn N F T → A w → run P ops Q K l ⟨T, []⟩ w
def EndJ (K : Act → World → Prop) (N : Nat) (F : Fr) (A : WA) : Prop := ∀ T w, Kn N F T → A w → K ⟨T, []⟩ w
def CodeJ (P : Program) (c : Code) (Q : Exit → Act → World → Prop) (N : Nat) (F : Fr) (A : WA) : Prop := ∀ T w, Kn N F T → A w → c.wp P Q ⟨T, []⟩ w

theorem nil (h : EndJ K N F A) : OpsJ P ops Q K [] N F A := h
/-- A cut behind n operations. -/
def CutK (N : Nat) (F : Fr) (A : WA) : Act → World → Prop := fun a w => Kn N F a.tmps ∧ a.defers = [] ∧ A w
theorem cut (n : Nat) (G : Fr) (B : WA) {l : List Oper} (h1 : OpsJ P ops Q (CutK N G B) (l.take n) N F A) (h2 : OpsJ P ops Q K (l.drop n) N G B) : OpsJ P ops Q K l N F A := by
  intro T w hT hA
  have e : run P ops Q K l = run P ops Q (run P ops Q K (l.drop n)) (l.take n) := by rw [← run_append, List.take_append_drop]
  rw [e]
  exact run_mono (fun a w ⟨hk, hd, hb⟩ => by obtain ⟨T', ds⟩ := a; simp only at hd; subst hd; exact h2 T' w hk hb) _ _ _ (h1 T w hT hA)
theorem cutEnd {G : Fr} {B : WA} (hs : Sub G F) (hA : ∀ w, A w → B w) : EndJ (CutK N G B) N F A := fun _ w hT hw => ⟨hT.sub hs, rfl, hA w hw⟩
theorem OpsJ.weak {l : List Oper} {G : Fr} {B : WA} (hs : Sub G F) (hA : ∀ w, A w → B w) (h : OpsJ P ops Q K l N G B) : OpsJ P ops Q K l N F A := fun T w hT hw => h T w (hT.sub hs) (hA w hw)
theorem CodeJ.weak {c : Code} {G : Fr} {B : WA} (hs : Sub G F) (hA : ∀ w, A w → B w) (h : CodeJ P c Q N G B) : CodeJ P c Q N F A := fun T w hT hw => h T w (hT.sub hs) (hA w hw)
theorem EndJ.weak {G : Fr} {B : WA} (hs : Sub G F) (hA : ∀ w, A w → B w) (h : EndJ K N G B) : EndJ K N F A := fun T w hT hw => h T w (hT.sub hs) (hA w hw)

/-! ### Code -/
theorem region {id : Nat} {l : List Oper} (h : OpsJ P l.toArray Q (Q .normal) l N F A) : CodeJ P (.region id l.toArray false) Q N F A :=
  fun T w hT hA => wp_region_lit (by rw [← run_eq]; exact h T w hT hA)
theorem seq {x y : Code} (h : CodeJ P x (Exit.then (y.wp P Q) Q) N F A) : CodeJ P (.seq x y) Q N F A := fun T w hT hA => wp_seq (h T w hT hA)
/-- A sequence, cut between its parts. -/
def CutQ (Q : Exit → Act → World → Prop) (N : Nat) (F : Fr) (A : WA) : Exit → Act → World → Prop
  | .normal, a, w => CutK N F A a w
  | e, a, w => Q e a w
theorem seqCut {x y : Code} (G : Fr) (B : WA) (h1 : CodeJ P x (CutQ Q N G B) N F A) (h2 : CodeJ P y Q N G B) : CodeJ P (.seq x y) Q N F A := by
  intro T w hT hA
  refine wp_seq (Code.wp_mono (fun e a w hq => ?_) (h1 T w hT hA))
  cases e with
  | normal =>
    obtain ⟨hk, hd, hb⟩ := hq
    obtain ⟨T', ds⟩ := a
    simp only at hd
    subst hd
    exact h2 T' w hk hb
  | _ => exact hq
theorem thenN {y : Code} (h : CodeJ P y Q N F A) : EndJ (Exit.then (y.wp P Q) Q .normal) N F A := h
theorem thenR {n : Act → World → Prop} (h : EndJ (Q .ret) N F A) : EndJ (Exit.then n Q .ret) N F A := h
theorem thenX {n : Act → World → Prop} {i : Nat} (h : EndJ (Q (.exit i)) N F A) : EndJ (Exit.then n Q (.exit i)) N F A := h
theorem cutQR {G : Fr} {B : WA} (h : EndJ (Q .ret) N F A) : EndJ (CutQ Q N G B .ret) N F A := h
theorem cutQX {G : Fr} {B : WA} {i : Nat} (h : EndJ (Q (.exit i)) N F A) : EndJ (CutQ Q N G B (.exit i)) N F A := h
theorem cutQN {G : Fr} {B : WA} (hs : Sub G F) (hA : ∀ w, A w → B w) : EndJ (CutQ Q N G B .normal) N F A := cutEnd hs hA
theorem skip (h : EndJ (Q .normal) N F A) : CodeJ P .skip Q N F A := fun T w hT hA => wp_skip (h T w hT hA)
theorem ret (h : EndJ (Q .ret) N F A) : CodeJ P .ret Q N F A := fun T w hT hA => wp_ret (h T w hT hA)
theorem exit {i : Nat} (h : EndJ (Q (.exit i)) N F A) : CodeJ P (.exit i) Q N F A := fun T w hT hA => wp_exit (h T w hT hA)
theorem cond {c : Operand} {x y : Code} {b : Bool} (hc : ev F c = some (.bool b)) (ht : b = true → CodeJ P x Q N F A) (hf : b = false → CodeJ P y Q N F A) : CodeJ P (.cond c x y) Q N F A :=
  fun T w hT hA => wp_cond_split (hT.ev hc) (fun h => ht h T w hT hA) (fun h => hf h T w hT hA)
theorem condT {c : Operand} {x y : Code} (hc : ev F c = some (.bool true)) (h : CodeJ P x Q N F A) : CodeJ P (.cond c x y) Q N F A := cond hc (fun _ => h) (fun h => by cases h)
theorem condF {c : Operand} {x y : Code} (hc : ev F c = some (.bool false)) (h : CodeJ P y Q N F A) : CodeJ P (.cond c x y) Q N F A := cond hc (fun h => by cases h) (fun _ => h)
theorem block {id : Nat} {c : Code} (h : CodeJ P c (Exit.inBlock id Q) N F A) : CodeJ P (.block id c) Q N F A := fun T w hT hA => wp_block (h T w hT hA)
theorem blkN {id : Nat} (h : EndJ (Q .normal) N F A) : EndJ (Exit.inBlock id Q .normal) N F A := h
theorem blkR {id : Nat} (h : EndJ (Q .ret) N F A) : EndJ (Exit.inBlock id Q .ret) N F A := h
theorem blkX {id : Nat} (h : EndJ (Q .normal) N F A) : EndJ (Exit.inBlock id Q (.exit id)) N F A := fun T w hT hA => by
  show if id = id then _ else _
  rw [if_pos rfl]
  exact h T w hT hA
theorem blkO {id i : Nat} (hne : Nat.beq i id = false) (h : EndJ (Q (.exit i)) N F A) : EndJ (Exit.inBlock id Q (.exit i)) N F A := fun T w hT hA => by
  show if i = id then _ else _
  rw [if_neg (fun e => by subst e; simp at hne)]
  exact h T w hT hA
/-- A loop: a state for each ghost, and a measure. -/
def LoopQ {γ : Type} (Q : Exit → Act → World → Prop) (N : Nat) (H : γ → Prop) (G : γ → Fr) (B : γ → WA) (μ : γ → Nat) (g : γ) : Exit → Act → World → Prop
  | .normal, a, w => ∃ g', H g' ∧ μ g' < μ g ∧ CutK N (G g') (B g') a w
  | e, a, w => Q e a w
theorem loop {γ : Type} (H : γ → Prop) (G : γ → Fr) (B : γ → WA) (μ : γ → Nat) (g0 : γ) {c : Code} (h0 : H g0) (hs : Sub (G g0) F) (hA : ∀ w, A w → B g0 w)
    (round : ∀ g, H g → CodeJ P c (LoopQ Q N H G B μ g) N (G g) (B g)) : CodeJ P (.loop c) Q N F A := by
  intro T w hT hw
  have key : ∀ n, ∀ g, H g → μ g = n → ∀ T w, Kn N (G g) T → B g w → ∀ (b : Frame) (k : List Item) (cs : List Frame),
      ∃ e a' w', Q e a' w' ∧ Arrives P (lone (b.at ⟨T, []⟩ (.code c :: .inLoop c :: k)) cs w) b k cs e a' w' := by
    intro n
    induction n using Nat.strongRecOn with
    | _ n ih =>
      intro g hg hn T w hk hb b k cs
      obtain ⟨e, a1, w1, hq, harr⟩ := round g hg T w hk hb b (.inLoop c :: k) cs
      cases e with
      | normal =>
        obtain ⟨g', hg', hlt, hk', hd', hb'⟩ := hq
        obtain ⟨T', ds⟩ := a1
        simp only at hd'
        subst hd'
        obtain ⟨e2, a2, w2, hq2, harr2⟩ := ih (μ g') (hn ▸ hlt) g' hg' rfl T' w1 hk' hb' b k cs
        exact ⟨e2, a2, w2, hq2, .of_steps (Steps.trans harr (.one step_inLoop)) harr2⟩
      | exit id => exact ⟨_, a1, w1, hq, .pass (x := .inLoop c) rfl (fun _ _ => .inl (by simp)) harr⟩
      | goto l => exact ⟨_, a1, w1, hq, .pass (x := .inLoop c) rfl (fun _ _ => .inl (by simp)) harr⟩
      | ret => exact ⟨_, a1, w1, hq, .pass (x := .inLoop c) rfl (fun _ _ => .inl (by simp)) harr⟩
      | panic ch => exact ⟨_, a1, w1, hq, .pass (x := .inLoop c) rfl (fun _ _ => .inl (by simp)) harr⟩
      | outgrown => exact ⟨_, a1, w1, hq, .pass (x := .inLoop c) rfl (fun _ _ => .inl (by simp)) harr⟩
  intro b k cs
  obtain ⟨e, a', w', hq, harr⟩ := key (μ g0) g0 h0 rfl T w (hT.sub hs) (hA w hw) b k cs
  exact ⟨e, a', w', hq, .of_steps (.one step_loop) harr⟩
theorem loopN {γ : Type} {H : γ → Prop} {G : γ → Fr} {B : γ → WA} {μ : γ → Nat} {g : γ} (g' : γ) (hg : H g') (hμ : μ g' < μ g) (hs : Sub (G g') F) (hA : ∀ w, A w → B g' w) :
    EndJ (LoopQ Q N H G B μ g .normal) N F A := fun _ w hT hw => ⟨g', hg, hμ, hT.sub hs, rfl, hA w hw⟩
theorem loopR {γ : Type} {H : γ → Prop} {G : γ → Fr} {B : γ → WA} {μ : γ → Nat} {g : γ} (h : EndJ (Q .ret) N F A) : EndJ (LoopQ Q N H G B μ g .ret) N F A := h
theorem loopX {γ : Type} {H : γ → Prop} {G : γ → Fr} {B : γ → WA} {μ : γ → Nat} {g : γ} {i : Nat} (h : EndJ (Q (.exit i)) N F A) : EndJ (LoopQ Q N H G B μ g (.exit i)) N F A := h
/-- A function's body. -/
theorem enter {f : FuncId} {fn : Func} {c : Code} {vs : List Value} {w : World} {R : Ending → World → Prop} {n : Nat} (hf : P.funcs[f]? = some fn) (hb : fn.body = some c) (hn : fn.ntmps = n)
    (hl : vs.length ≤ n) (hA : A w) (h : CodeJ P c (bodyPost P fn R) n (args 0 vs) A) : Calls P f vs.toArray w R :=
  calls_of_wp hf hb (by rw [hn]; exact h _ _ (Kn.entry n vs hl) hA)
end
end Eng
