/- Plain definitions and facts: quads, and what makes them valid. No program is named here. -/
import Derived.Test.YtggofhbblidimaaDoorEngG
namespace Go.Proofs.YtggofhbblidimaaDoor
open Go Go.RowKit Eng
abbrev vec (x y z : Int) : Value := .agg #[.int .i64 x, .int .i64 y, .int .i64 z]
abbrev fnv (i : Nat) : Value := .func (.func i) #[] #[]
def fineB (x y z : Int) : Bool := decide (-1000000 ≤ min (min x y) z) && decide (max (max x y) z ≤ 1000000)
/-- The coordinate along an axis, and the two across it. -/
def sel (a : Nat) (x y z : Int) : Int := if a = 0 then x else if a = 1 then y else z
def sel1 (a : Nat) (x y _z : Int) : Int := if a = 0 then y else x
def sel2 (a : Nat) (_x y z : Int) : Int := if a = 2 then y else z
structure Qd where
  d : Int
  x0 : Int
  y0 : Int
  z0 : Int
  x1 : Int
  y1 : Int
  z1 : Int
instance : DecidableEq Qd := fun a b =>
  if h : a.d = b.d ∧ a.x0 = b.x0 ∧ a.y0 = b.y0 ∧ a.z0 = b.z0 ∧ a.x1 = b.x1 ∧ a.y1 = b.y1 ∧ a.z1 = b.z1 then .isTrue (by
    obtain ⟨h1, h2, h3, h4, h5, h6, h7⟩ := h
    cases a
    cases b
    simp only at h1 h2 h3 h4 h5 h6 h7
    subst h1 h2 h3 h4 h5 h6 h7
    rfl)
  else .isFalse (fun e => h (by subst e; simp))
def Qd.row (q : Qd) : List Value := [.int .u8 q.d, .int .i64 q.x0, .int .i64 q.y0, .int .i64 q.z0, .int .i64 q.x1, .int .i64 q.y1, .int .i64 q.z1]
def Qd.ax (q : Qd) : Nat := (q.d / 2).toNat
def okQ (q : Qd) : Bool :=
  decide (q.d ≤ 5) && fineB q.x0 q.y0 q.z0 && fineB q.x1 q.y1 q.z1 && decide (sel q.ax q.x0 q.y0 q.z0 = sel q.ax q.x1 q.y1 q.z1) &&
    decide (sel1 q.ax q.x0 q.y0 q.z0 < sel1 q.ax q.x1 q.y1 q.z1) && decide (sel2 q.ax q.x0 q.y0 q.z0 < sel2 q.ax q.x1 q.y1 q.z1)
theorem okQ_d {q : Qd} (h : 5 < q.d) : okQ q = false := by
  have : decide (q.d ≤ 5) = false := by simpa using h
  simp [okQ, this]
theorem okQ_lo {q : Qd} (h : fineB q.x0 q.y0 q.z0 = false) : okQ q = false := by simp [okQ, h]
theorem okQ_hi {q : Qd} (h : fineB q.x1 q.y1 q.z1 = false) : okQ q = false := by simp [okQ, h]
theorem okQ_al {q : Qd} (h : ¬ sel q.ax q.x0 q.y0 q.z0 = sel q.ax q.x1 q.y1 q.z1) : okQ q = false := by simp [okQ, h]
theorem okQ_x {q : Qd} (h : sel1 q.ax q.x1 q.y1 q.z1 ≤ sel1 q.ax q.x0 q.y0 q.z0) : okQ q = false := by
  have : decide (sel1 q.ax q.x0 q.y0 q.z0 < sel1 q.ax q.x1 q.y1 q.z1) = false := by simpa using h
  simp [okQ, this]
theorem okQ_y {q : Qd} (h : sel2 q.ax q.x1 q.y1 q.z1 ≤ sel2 q.ax q.x0 q.y0 q.z0) : okQ q = false := by
  have : decide (sel2 q.ax q.x0 q.y0 q.z0 < sel2 q.ax q.x1 q.y1 q.z1) = false := by simpa using h
  simp [okQ, this]
theorem okQ_all {q : Qd} (h1 : q.d ≤ 5) (h2 : fineB q.x0 q.y0 q.z0 = true) (h3 : fineB q.x1 q.y1 q.z1 = true) (h4 : sel q.ax q.x0 q.y0 q.z0 = sel q.ax q.x1 q.y1 q.z1)
    (h5 : sel1 q.ax q.x0 q.y0 q.z0 < sel1 q.ax q.x1 q.y1 q.z1) (h6 : sel2 q.ax q.x0 q.y0 q.z0 < sel2 q.ax q.x1 q.y1 q.z1) : okQ q = true := by
  simp [okQ, h1, h2, h3, h4, h5, h6]
def chk (l : List Qd) : Int := if 3000 < l.length then 4 else if l.all okQ then 0 else 8
theorem chk_many {l : List Qd} (h : 3000 < l.length) : chk l = 4 := if_pos h
theorem chk_bad {l : List Qd} {i : Nat} {q : Qd} (hn : ¬ 3000 < l.length) (hq : l[i]? = some q) (h : okQ q = false) : chk l = 8 := by
  have : l.all okQ = false := by
    rw [List.all_eq_false]
    exact ⟨q, List.mem_of_getElem? hq, by simp [h]⟩
  simp [chk, hn, this]
theorem chk_ok {l : List Qd} (hn : ¬ 3000 < l.length) (h : (l.take l.length).all okQ = true) : chk l = 0 := by
  rw [List.take_length] at h
  simp [chk, hn, h]
theorem take_all {α : Type} {p : α → Bool} {l : List α} {i : Nat} {q : α} (hq : l[i]? = some q) (h : (l.take i).all p = true) (hp : p q = true) : (l.take (i + 1)).all p = true := by
  rw [List.take_add_one, hq]
  simp [h, hp]
theorem getQ {α : Type} {l : List α} {i : Nat} (h : i < l.length) : ∃ q, l[i]? = some q := ⟨l[i], List.getElem?_eq_getElem h⟩
theorem rowQ {l : List Qd} {i : Nat} {q : Qd} (h : l[i]? = some q) : (l.map Qd.row)[i]? = some q.row := by simp [h]
theorem map_ne {α β : Type} {f : α → β} {l : List α} {i : Nat} (h : i < l.length) : l.map f ≠ [] := by
  intro e
  have := congrArg List.length e
  simp at this
  subst this
  simp at h
theorem ax_lt {q : Qd} (h : q.d ≤ 5) : q.ax < 3 := by unfold Qd.ax; omega
theorem ax_tdiv {q : Qd} (h : 0 ≤ q.d) : q.d.tdiv 2 = (q.ax : Int) := by
  rw [Int.tdiv_eq_ediv_of_nonneg h]
  unfold Qd.ax
  omega
/-- The reference's words for the same. -/
def inB (m x y z : Int) : Bool := decide (m ≤ x) && (decide (m ≤ y) && (decide (m ≤ z) && (decide (x ≤ 1000000) && (decide (y ≤ 1000000) && decide (z ≤ 1000000)))))
theorem inB_fine (x y z : Int) : inB (-1000000) x y z = fineB x y z := by
  rw [Bool.eq_iff_iff]
  simp only [inB, fineB, Bool.and_eq_true, decide_eq_true_eq]
  omega
def selI (i : Int) (x y z : Int) : Int := if i = 0 then x else if i = 1 then y else z
def oth1 (i : Int) : Int := if i = 0 then 1 else 0
def oth2 (i : Int) : Int := if i = 0 then 2 else if i = 1 then 2 else 1
theorem selI_sel {a : Nat} (h : a < 3) (x y z : Int) : selI a x y z = sel a x y z := by
  have : a = 0 ∨ a = 1 ∨ a = 2 := by omega
  rcases this with rfl | rfl | rfl <;> rfl
theorem selI_sel1 {a : Nat} (h : a < 3) (x y z : Int) : selI (oth1 a) x y z = sel1 a x y z := by
  have : a = 0 ∨ a = 1 ∨ a = 2 := by omega
  rcases this with rfl | rfl | rfl <;> rfl
theorem selI_sel2 {a : Nat} (h : a < 3) (x y z : Int) : selI (oth2 a) x y z = sel2 a x y z := by
  have : a = 0 ∨ a = 1 ∨ a = 2 := by omega
  rcases this with rfl | rfl | rfl <;> rfl
theorem okQ_eq {q : Qd} (h5 : q.d ≤ 5) (h0 : fineB q.x0 q.y0 q.z0 = true) (h1 : fineB q.x1 q.y1 q.z1 = true) :
    okQ q = (decide (selI q.ax q.x0 q.y0 q.z0 = selI q.ax q.x1 q.y1 q.z1) && (decide (selI (oth1 q.ax) q.x0 q.y0 q.z0 < selI (oth1 q.ax) q.x1 q.y1 q.z1) && decide (selI (oth2 q.ax) q.x0 q.y0 q.z0 < selI (oth2 q.ax) q.x1 q.y1 q.z1))) := by
  have h := ax_lt h5
  simp [okQ, h5, h0, h1, selI_sel h, selI_sel1 h, selI_sel2 h, Bool.and_assoc]
theorem same_take {l m : List Qd} (hl : l.length = m.length) (h : l.take l.length = m.take l.length) : l = m := by
  rw [List.take_length, hl, List.take_length] at h
  exact h
theorem take_same {l m : List Qd} {i : Nat} {q : Qd} (h : l.take i = m.take i) (hl : l[i]? = some q) (hm : m[i]? = some q) : l.take (i + 1) = m.take (i + 1) := by
  rw [List.take_add_one, List.take_add_one, hl, hm, h]
end Go.Proofs.YtggofhbblidimaaDoor
