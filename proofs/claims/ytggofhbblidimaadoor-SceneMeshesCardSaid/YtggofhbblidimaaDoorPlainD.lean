/- Plain facts: the reference's way of reading. No program is named here. -/
import Derived.Test.YtggofhbblidimaaDoorPlainC
namespace Go.Proofs.YtggofhbblidimaaDoor
open Go Go.RowKit Eng
open Go.Lib (itoa decDigits nDigits)
/-- Where the digits begin. -/
def frm (w : List UInt8) : Nat := if w.head? = some 45 then 1 else 0
def valN (w : List UInt8) : Int := if frm w = 1 then -(hor (w.drop (frm w)) : Int) else (hor (w.drop (frm w)) : Int)
theorem hor_acc : ∀ (l : List UInt8) (a : Nat), l.all isDig = true → l.foldl (fun a b => 10 * a + (b.toNat - 48)) a < (a + 1) * 10 ^ l.length
  | [], a, _ => by simp
  | b :: l, a, h => by
    simp only [List.all_cons, Bool.and_eq_true, isDig, decide_eq_true_eq] at h
    have ih := hor_acc l (10 * a + (b.toNat - 48)) (by simpa [isDig] using h.2)
    rw [List.foldl_cons, List.length_cons, Nat.pow_succ]
    refine Nat.lt_of_lt_of_le ih ?_
    have : 10 * a + (b.toNat - 48) + 1 ≤ (a + 1) * 10 := by omega
    calc (10 * a + (b.toNat - 48) + 1) * 10 ^ l.length ≤ ((a + 1) * 10) * 10 ^ l.length := Nat.mul_le_mul_right _ this
      _ = (a + 1) * (10 ^ l.length * 10) := by rw [Nat.mul_assoc, Nat.mul_comm 10]
theorem hor_lt (l : List UInt8) (h : l.all isDig = true) : hor l < 10 ^ l.length := by
  have := hor_acc l 0 h
  simpa [hor] using this
theorem hor_lt8 {l : List UInt8} (h : l.all isDig = true) (hl : l.length ≤ 8) : hor l < 100000000 :=
  Nat.lt_of_lt_of_le (hor_lt l h) (by
    have : 10 ^ l.length ≤ 10 ^ 8 := Nat.pow_le_pow_right (by omega) hl
    omega)
theorem itoa_parts (n : Int) : (itoa n).drop (frm (itoa n)) = decDigits n.natAbs ∧ (n < 0 ↔ frm (itoa n) = 1) := by
  by_cases hn : n < 0
  · have e : itoa n = 45 :: decDigits n.natAbs := by unfold itoa; rw [if_pos hn]
    rw [e]
    simp [frm, hn]
  · have e : itoa n = decDigits n.toNat := by unfold itoa; rw [if_neg hn]
    have e2 : n.natAbs = n.toNat := by omega
    obtain ⟨h1, h2, h3⟩ := dec_all n.toNat
    rw [e, e2]
    obtain ⟨c, r, hd⟩ := List.exists_cons_of_ne_nil h3
    rw [hd] at h1
    simp only [List.all_cons, Bool.and_eq_true, isDig, decide_eq_true_eq] at h1
    have hc : c ≠ 45 := fun h => by subst h; simp at h1
    have hf : frm (decDigits n.toNat) = 0 := by
      rw [hd]
      simp [frm, hc]
    rw [hf]
    simp [hn]
theorem itoa_val {n : Int} {w : List UInt8} (h : itoa n = w) : (w.drop (frm w)).all isDig = true ∧ valN w = n ∧ frm w < w.length := by
  subst h
  obtain ⟨h1, h2⟩ := itoa_parts n
  obtain ⟨a1, a2, a3⟩ := dec_all n.natAbs
  refine ⟨by rw [h1]; exact a1, ?_, ?_⟩
  · unfold valN
    rw [h1, a2]
    split
    · rename_i hf
      have := h2.2 hf
      omega
    · rename_i hf
      have : ¬ n < 0 := fun h => hf (h2.1 h)
      omega
  · have hne : (itoa n).drop (frm (itoa n)) ≠ [] := by rw [h1]; exact a3
    rcases Nat.lt_or_ge (frm (itoa n)) (itoa n).length with h | h
    · exact h
    · exact absurd (List.drop_eq_nil_of_le h) hne
theorem num_of_val {w : List UInt8} (hv : itoa (valN w) = w) (hr : -9999999 ≤ valN w ∧ valN w ≤ 9999999) : num w = some (valN w) := num_some.2 ⟨hv, hr⟩
theorem num_val {w : List UInt8} {n : Int} (h : num w = some n) : valN w = n ∧ itoa (valN w) = w ∧ frm w < w.length ∧ (w.drop (frm w)).all isDig = true := by
  obtain ⟨h1, h2⟩ := num_some.1 h
  obtain ⟨a, b, c⟩ := itoa_val h1
  exact ⟨b, by rw [b]; exact h1, c, a⟩
/-- Reading so many numbers. -/
def rdR (ws : List (List UInt8)) (k : Nat) : List Int × Bool := if ws.length = k then match ws.mapM num with
  | none => ([], false)
  | some vs => (vs, true)
  else ([], false)
/-! ### The lines, by the reference's cut -/
theorem lines_cut (s : List UInt8) : (linesL s).2 = true → cutL 10 s = (linesL s).1 ++ [[]] := by
  intro h
  unfold linesL at *
  split
  · rename_i hs
    subst hs
    rfl
  · rename_i hs
    rw [if_neg hs] at h
    simp only [Lib.hasSuffix] at h
    have hsuf : [10] <:+ s := List.isSuffixOf_iff_suffix.1 h
    obtain ⟨r, rfl⟩ := hsuf
    have e : Lib.trimSuffix (r ++ [10]) [10] = r := by
      unfold Lib.trimSuffix
      rw [if_pos (by simp [Lib.hasSuffix])]
      simp
    simp only [e]
    exact cutL_snoc r
theorem lines_last (s : List UInt8) : (cutL 10 s).getLast? = some [] ↔ (linesL s).2 = true := by
  rw [cutL_last]
  unfold linesL
  split
  · rename_i hs
    simp [hs]
  · rename_i hs
    simp only [hs, false_or, Lib.hasSuffix]
    constructor
    · rintro ⟨r, rfl⟩
      simp
    · intro h
      have hsuf : [10] <:+ s := List.isSuffixOf_iff_suffix.1 h
      obtain ⟨r, rfl⟩ := hsuf
      exact ⟨r, rfl⟩
theorem pq_no {x w : List UInt8} {ws : List (List UInt8)} (h : cutL 32 x = w :: ws) (hr : (rdR ws 7).2 = false) : pquad x = none := by
  unfold pquad
  rw [h]
  simp only
  split
  · cases hm : ws.mapM num with
    | none => rfl
    | some l =>
      have hl : l.length = ws.length := by
        have key : ∀ (ws : List (List UInt8)) (l : List Int), ws.mapM num = some l → l.length = ws.length := by
          intro ws
          induction ws with
          | nil => intro l h; simp at h; simp [h]
          | cons a ws ih =>
            intro l h
            simp only [List.mapM_cons, Option.bind_eq_bind, Option.bind_eq_some_iff, Option.pure_def, Option.some.injEq] at h
            obtain ⟨y, _, s, hs, rfl⟩ := h
            simp [ih _ hs]
        exact key ws l hm
      have h7 : ws.length ≠ 7 := by
        intro h7
        simp [rdR, h7, hm] at hr
      split
      · rename_i he
        injection he with he
        subst he
        simp at hl
        omega
      · rfl
  · rfl
theorem rd_some {ws : List (List UInt8)} (hr : (rdR ws 7).2 = true) : ∃ d a b c e f g, ws.mapM num = some [d, a, b, c, e, f, g] ∧ rdR ws 7 = ([d, a, b, c, e, f, g], true) := by
  unfold rdR at *
  split at hr
  · rename_i h7
    rw [if_pos h7]
    cases hm : ws.mapM num with
    | none => rw [hm] at hr; cases hr
    | some l =>
      have key : ∀ (ws : List (List UInt8)) (l : List Int), ws.mapM num = some l → l.length = ws.length := by
        intro ws
        induction ws with
        | nil => intro l h; simp at h; simp [h]
        | cons a ws ih =>
          intro l h
          simp only [List.mapM_cons, Option.bind_eq_bind, Option.bind_eq_some_iff, Option.pure_def, Option.some.injEq] at h
          obtain ⟨y, _, s, hs, rfl⟩ := h
          simp [ih _ hs]
      have hl := key ws l hm
      rw [h7] at hl
      match l, hl with
      | [d, a, b, c, e, f, g], _ => exact ⟨d, a, b, c, e, f, g, rfl, rfl⟩
  · cases hr
theorem pq_seven {x w : List UInt8} {ws : List (List UInt8)} {d a b c a' b' c' : Int} (h : cutL 32 x = w :: ws) (hm : ws.mapM num = some [d, a, b, c, a', b', c']) :
    pquad x = if w = quadS ∧ 0 ≤ d ∧ d ≤ 5 then some ⟨d, a, b, c, a', b', c'⟩ else none := by
  unfold pquad
  rw [h]
  simp only [hm]
  by_cases hw : w = quadS <;> by_cases hd : 0 ≤ d ∧ d ≤ 5 <;> simp [hw, hd]
theorem drop_take_end {α : Type} {l : List α} {f : Nat} : (l.take l.length).drop f = l.drop f := by rw [List.take_length]
theorem piece_hit {s : List UInt8} {i f : Nat} {b : UInt8} (hf : f ≤ i) (hb : s[i]? = some b) : s.drop f = (s.take i).drop f ++ b :: s.drop (i + 1) := by
  have hi : i < s.length := (List.getElem?_eq_some_iff.1 hb).1
  have e : s = s.take i ++ (b :: s.drop (i + 1)) := by
    rw [List.getElem?_eq_getElem hi] at hb
    injection hb with hb
    rw [← hb, ← List.drop_eq_getElem_cons hi, List.take_append_drop]
  conv => lhs; rw [e]
  rw [List.drop_append_of_le_length (by simp; omega)]
theorem piece_more {s : List UInt8} {i f : Nat} {b : UInt8} (hf : f ≤ i) (hb : s[i]? = some b) : (s.take (i + 1)).drop f = (s.take i).drop f ++ [b] := by
  have hi : i < s.length := (List.getElem?_eq_some_iff.1 hb).1
  rw [List.take_add_one, hb]
  exact List.drop_append_of_le_length (by simp; omega)
theorem getD_of {s : List UInt8} {i : Nat} {b : UInt8} (hb : s[i]? = some b) : s.getD i 0 = b := by simp [List.getD, hb]
theorem bad_digit {s : List UInt8} {x : Nat} {b : UInt8} (hx : frm s ≤ x) (hb : s[x]? = some b) (h : isDig b = false) : ∀ n, itoa n ≠ s := by
  intro n hn
  obtain ⟨h1, _, _⟩ := itoa_val hn
  have hm : b ∈ s.drop (frm s) := by
    refine List.mem_of_getElem? (i := x - frm s) ?_
    rw [List.getElem?_drop, show frm s + (x - frm s) = x by omega]
    exact hb
  have := List.all_eq_true.1 h1 b hm
  rw [h] at this
  cases this
theorem isDig_lo {b : UInt8} (h : (b.toNat : Int) < 48) : isDig b = false := by simp [isDig]; omega
theorem isDig_hi {b : UInt8} (h : 57 < (b.toNat : Int)) : isDig b = false := by simp [isDig]; omega
theorem isDig_ok {b : UInt8} (h : ¬ (b.toNat : Int) < 48) (h2 : ¬ 57 < (b.toNat : Int)) : isDig b = true := by simp [isDig]; omega
end Go.Proofs.YtggofhbblidimaaDoor
