/- Plain definitions and facts: cutting a text, and reading numbers and quads. No program is named here. -/
import Derived.Test.YtggofhbblidimaaDoorPlainB
import Derived.Lib.SplitLaws
import Derived.Lib.IndexBytes
import Derived.Lib.AtoiAll
namespace Go.Proofs.YtggofhbblidimaaDoor
open Go Go.RowKit Eng
open Go.Lib (itoa decDigits nDigits)
/-! ### Cutting -/
def cutL (c : UInt8) : List UInt8 → List (List UInt8)
  | [] => [[]]
  | b :: s => if b = c then [] :: cutL c s else match cutL c s with
    | [] => [[b]]
    | h :: t => (b :: h) :: t
theorem cutL_ne (c : UInt8) : ∀ s, cutL c s ≠ []
  | [] => by simp [cutL]
  | b :: s => by
    unfold cutL
    split
    · simp
    · split <;> simp
theorem cutL_none {c : UInt8} : ∀ {s : List UInt8}, (∀ b ∈ s, b ≠ c) → cutL c s = [s]
  | [], _ => rfl
  | b :: s, h => by
    unfold cutL
    rw [if_neg (h b (by simp)), cutL_none (fun x hx => h x (by simp [hx]))]
theorem cutL_hit {c : UInt8} : ∀ {s t : List UInt8}, (∀ b ∈ s, b ≠ c) → cutL c (s ++ c :: t) = s :: cutL c t
  | [], t, _ => by simp [cutL]
  | b :: s, t, h => by
    have ih := cutL_hit (c := c) (s := s) (t := t) (fun x hx => h x (by simp [hx]))
    have hb := h b (by simp)
    show (if b = c then [] :: cutL c (s ++ c :: t) else match cutL c (s ++ c :: t) with
      | [] => [[b]]
      | h :: t => (b :: h) :: t) = _
    rw [if_neg hb, ih]
theorem cutL_snoc {c : UInt8} : ∀ (s : List UInt8), cutL c (s ++ [c]) = cutL c s ++ [[]]
  | [] => by simp [cutL]
  | b :: s => by
    rw [List.cons_append]
    have ih := cutL_snoc (c := c) s
    unfold cutL
    rw [ih]
    split
    · simp
    · have hne := cutL_ne c s
      match h : cutL c s with
      | [] => exact absurd h hne
      | x :: t => simp
theorem cutL_last {c : UInt8} : ∀ (s : List UInt8), (cutL c s).getLast? = some [] ↔ s = [] ∨ ∃ r, s = r ++ [c]
  | [] => by simp [cutL]
  | b :: s => by
    have ih := cutL_last (c := c) s
    have hne := cutL_ne c s
    unfold cutL
    split
    · rename_i hb
      subst hb
      match h : cutL b s with
      | [] => exact absurd h hne
      | x :: t =>
        rw [h] at ih
        rw [List.getLast?_cons_cons, ih]
        constructor
        · rintro (rfl | ⟨r, rfl⟩)
          · exact .inr ⟨[], rfl⟩
          · exact .inr ⟨b :: r, rfl⟩
        · rintro (h2 | ⟨r, hr⟩)
          · cases h2
          · cases r with
            | nil => simp at hr; exact .inl hr
            | cons y r => simp at hr; exact .inr ⟨r, hr.2⟩
    · rename_i hb
      match h : cutL c s with
      | [] => exact absurd h hne
      | [x] =>
        rw [h] at ih
        simp only [List.getLast?_singleton, Option.some.injEq] at ih ⊢
        constructor
        · intro h2; cases h2
        · rintro (h2 | ⟨r, hr⟩)
          · cases h2
          · cases r with
            | nil => simp at hr; exact absurd hr.1 hb
            | cons y r =>
              simp at hr
              have h2 := hr.2
              rw [h2, cutL_snoc] at h
              have := congrArg List.length h
              have h3 := cutL_ne c r
              have h4 : 0 < (cutL c r).length := List.length_pos_iff.2 h3
              rw [List.length_append] at this
              simp only [List.length_cons, List.length_nil] at this
              omega
      | x :: y :: t =>
        rw [h] at ih
        rw [List.getLast?_cons_cons] at ih ⊢
        rw [ih]
        constructor
        · rintro (rfl | ⟨r, rfl⟩)
          · simp [cutL] at h
          · exact .inr ⟨b :: r, rfl⟩
        · rintro (h2 | ⟨r, hr⟩)
          · cases h2
          · cases r with
            | nil => simp at hr; exact absurd hr.1 hb
            | cons y r => simp at hr; exact .inr ⟨r, hr.2⟩
theorem cutL_lt {c : UInt8} : ∀ (s : List UInt8), (cutL c s).length ≤ s.length + 1
  | [] => by simp [cutL]
  | b :: s => by
    have ih := cutL_lt (c := c) s
    unfold cutL
    split
    · simp; omega
    · split <;> rename_i h <;> rw [h] at ih <;> simp only [List.length_cons, List.length_nil] at ih ⊢ <;> omega
theorem cutL_mem {c : UInt8} : ∀ (s w : List UInt8), w ∈ cutL c s → w.length ≤ s.length
  | [], w, h => by simp [cutL] at h; simp [h]
  | b :: s, w, h => by
    have ih := cutL_mem (c := c) s
    unfold cutL at h
    split at h
    · rcases List.mem_cons.1 h with rfl | h
      · simp
      · have := ih w h
        simp; omega
    · have hne := cutL_ne c s
      match h2 : cutL c s with
      | [] => exact absurd h2 hne
      | x :: t =>
        rw [h2] at h
        rcases List.mem_cons.1 h with rfl | h
        · have := ih x (by rw [h2]; simp)
          simp; omega
        · have := ih w (by rw [h2]; simp [h])
          simp; omega
/-! ### The library's words for the same -/
theorem splitK_one (c : UInt8) : ∀ s : List UInt8, Lib.splitK [c] 0 (s.count c) s = cutL c s
  | [] => rfl
  | b :: s => by
    have ih := splitK_one c s
    by_cases hb : b = c
    · subst hb
      rw [List.count_cons_self]
      have hi : Lib.index (b :: s) [b] = 0 := by simp [Lib.index]
      rw [Lib.splitK, hi]
      simp only [cutL]
      simpa using ih
    · rw [List.count_cons_of_ne hb]
      have hi : Lib.index (b :: s) [c] = if Lib.index s [c] == -1 then -1 else Lib.index s [c] + 1 := by
        rw [Lib.index]
        have : [c].isPrefixOf (b :: s) = false := by simp [List.isPrefixOf, Ne.symm hb]
        rw [this]
        rfl
      cases hk : s.count c with
      | zero =>
        rw [hk] at ih
        simp only [Lib.splitK] at ih ⊢
        unfold cutL
        rw [if_neg hb, ← ih]
      | succ k =>
        rw [hk] at ih
        rw [Lib.splitK] at ih ⊢
        rw [hi]
        by_cases hm : Lib.index s [c] = -1
        · simp only [hm, beq_self_eq_true, if_true] at ih ⊢
          unfold cutL
          rw [if_neg hb, ← ih]
        · have hge := Lib.index_ge s [c]
          have h1 : (Lib.index s [c] == -1) = false := by simpa using hm
          have h2 : (Lib.index s [c] + 1 == -1) = false := by simp; omega
          simp only [h1, h2, Bool.false_eq_true, if_false] at ih ⊢
          unfold cutL
          rw [if_neg hb, ← ih]
          obtain ⟨n, hn⟩ : ∃ n : Nat, Lib.index s [c] = n := ⟨(Lib.index s [c]).toNat, by omega⟩
          rw [hn]
          have e : ((n : Int) + 1).toNat = n + 1 := by omega
          simp [e]
theorem split_cut (c : UInt8) (s : ByteArray) : (Lib.splitB ⟨#[c]⟩ 0 (Lib.countB s ⟨#[c]⟩) s).map (·.data.toList) = cutL c s.data.toList := by
  rw [Lib.splitB_data]
  have e : Lib.countB s ⟨#[c]⟩ = s.data.toList.count c := Lib.count_one c _
  rw [e]
  exact splitK_one c _
theorem split_len (c : UInt8) (s : ByteArray) : Lib.countB s ⟨#[c]⟩ + 1 = (cutL c s.data.toList).length := by
  rw [← split_cut, List.length_map]
  exact (Lib.splitB_all ⟨#[c]⟩ (by show 1 ≤ 1; omega) 0 _ s rfl).symm
/-! ### Numbers -/
def isDig (b : UInt8) : Bool := decide (48 ≤ b.toNat) && decide (b.toNat ≤ 57)
def hor (l : List UInt8) : Nat := l.foldl (fun a b => 10 * a + (b.toNat - 48)) 0
theorem hor_snoc (l : List UInt8) (b : UInt8) : hor (l ++ [b]) = 10 * hor l + (b.toNat - 48) := by simp [hor]
theorem dgt_dig (m : Nat) : isDig (dgt m) = true := by
  simp only [isDig, dgt_toNat, Bool.and_eq_true, decide_eq_true_eq]
  omega
theorem dec_all (n : Nat) : (decDigits n).all isDig = true ∧ hor (decDigits n) = n ∧ decDigits n ≠ [] := by
  induction n using Nat.strongRecOn with
  | _ n ih =>
    by_cases h : n / 10 = 0
    · rw [dec_last h]
      refine ⟨by simp [dgt_dig], ?_, by simp⟩
      simp only [hor, List.foldl_cons, List.foldl_nil, dgt_toNat]
      omega
    · rw [dec_more h]
      obtain ⟨h1, h2, h3⟩ := ih (n / 10) (by omega)
      refine ⟨by simp [h1, dgt_dig], ?_, by simp⟩
      rw [hor_snoc, h2, dgt_toNat]
      omega
theorem parse_hor : ∀ (l : List UInt8) (acc : Nat), l.all isDig = true → l.foldl (fun a b => 10 * a + (b.toNat - 48)) acc < 10000000000 → Lib.parseUint10 acc l = .ok (l.foldl (fun a b => 10 * a + (b.toNat - 48)) acc)
  | [], acc, _, _ => rfl
  | b :: l, acc, h, hlt => by
    simp only [List.all_cons, Bool.and_eq_true, isDig, decide_eq_true_eq] at h
    rw [List.foldl_cons] at hlt ⊢
    have hge : ∀ (l : List UInt8) (a : Nat), a ≤ l.foldl (fun a b => 10 * a + (b.toNat - 48)) a := fun l => by
      induction l with
      | nil => intro a; simp
      | cons x l ih => intro a; rw [List.foldl_cons]; exact Nat.le_trans (by omega) (ih _)
    have h1 := hge l (10 * acc + (b.toNat - 48))
    rw [Lib.parseUint10, if_pos h.1, if_neg (by omega), if_neg (by omega), show acc * 10 + (b.toNat - 48) = 10 * acc + (b.toNat - 48) by omega]
    exact parse_hor l _ (by simpa [isDig] using h.2) hlt
/-- What a number reads as; none: it is none. -/
def num (w : List UInt8) : Option Int := match Lib.atoiAll w with
  | .ok n => if itoa n = w ∧ -9999999 ≤ n ∧ n ≤ 9999999 then some n else none
  | _ => none
theorem parseMag_dec {n : Nat} (h : n < 10000000000) : Lib.parseMag (decDigits n) = .ok n := by
  obtain ⟨h1, h2, h3⟩ := dec_all n
  unfold Lib.parseMag
  rw [if_neg h3, parse_hor _ 0 h1 (by show hor (decDigits n) < _; rw [h2]; exact h)]
  show Lib.NumEnd.ok (hor (decDigits n)) = _
  rw [h2]
theorem atoi_itoa {n : Int} (h : -10000000000 < n ∧ n < 10000000000) : Lib.atoiAll (itoa n) = .ok n := by
  by_cases hn : n < 0
  · have e : itoa n = 45 :: decDigits n.natAbs := by unfold itoa; rw [if_pos hn]
    have hp := parseMag_dec (n := n.natAbs) (by omega)
    rw [e]
    have h45 : (45 : UInt8).toNat = 45 := rfl
    simp only [Lib.atoiAll, h45, or_true, if_true, hp]
    rw [if_neg (by simp), if_neg (by omega)]
    congr 1
    omega
  · have e : itoa n = decDigits n.toNat := by unfold itoa; rw [if_neg hn]
    have hp := parseMag_dec (n := n.toNat) (by omega)
    obtain ⟨h1, h2, h3⟩ := dec_all n.toNat
    rw [e]
    obtain ⟨c, r, hd⟩ := List.exists_cons_of_ne_nil h3
    rw [hd] at h1 hp
    rw [hd]
    simp only [List.all_cons, Bool.and_eq_true, isDig, decide_eq_true_eq] at h1
    have hc : ¬ c.toNat = 43 := by omega
    have hc2 : ¬ c.toNat = 45 := by omega
    simp only [Lib.atoiAll, hc, or_self, if_false, hp, hc2, not_false_eq_true, true_and, false_and]
    rw [if_neg (by omega)]
    congr 1
    omega
theorem num_some {w : List UInt8} {n : Int} : num w = some n ↔ itoa n = w ∧ -9999999 ≤ n ∧ n ≤ 9999999 := by
  constructor
  · intro h
    unfold num at h
    split at h
    · split at h
      · rename_i hc
        injection h with h
        subst h
        exact hc
      · cases h
    · cases h
  · rintro ⟨rfl, h1, h2⟩
    unfold num
    rw [atoi_itoa (by omega)]
    simp [h1, h2]
theorem num_range {w : List UInt8} {n : Int} (h : num w = some n) : -9999999 ≤ n ∧ n ≤ 9999999 := (num_some.1 h).2
theorem num_len {w : List UInt8} {n : Int} (h : num w = some n) : w.length ≤ 8 := by
  obtain ⟨rfl, h1, h2⟩ := num_some.1 h
  have h10 : ∀ u : Nat, u < 10000000 → (decDigits u).length ≤ 7 := fun u hu => by
    rw [Lib.decDigits_length]
    exact nDigits_le (k := 6) (by omega)
  unfold itoa
  split
  · have := h10 n.natAbs (by omega)
    simp only [List.length_cons]
    omega
  · have := h10 n.toNat (by omega)
    omega
/-! ### Lines of quads -/
def linesL (s : List UInt8) : List (List UInt8) × Bool := if s = [] then ([], true) else (cutL 10 (Lib.trimSuffix s [10]), Lib.hasSuffix s [10])
/-- The quad of a line. -/
def pquad (x : List UInt8) : Option Qd := match cutL 32 x with
  | w :: ws => if w = quadS then match ws.mapM num with
    | some [d, a, b, c, a', b', c'] => if 0 ≤ d ∧ d ≤ 5 then some ⟨d, a, b, c, a', b', c'⟩ else none
    | _ => none
    else none
  | [] => none
def pm (s : List UInt8) : List Qd × Int :=
  if 60000 < s.length then ([], 4) else if (linesL s).2 = false then ([], 12) else match (linesL s).1.mapM pquad with
    | none => ([], 12)
    | some l => if chk l = 0 then (l, 0) else ([], chk l)
theorem pq_first {x w : List UInt8} {ws : List (List UInt8)} (h : cutL 32 x = w :: ws) (hw : w ≠ quadS) : pquad x = none := by simp [pquad, h, hw]
theorem pq_empty {x : List UInt8} (h : cutL 32 x = [quadS]) : pquad x = none := by simp [pquad, h]
theorem pq_dir {x w : List UInt8} {ws : List (List UInt8)} (h : cutL 32 x = quadS :: w :: ws) (hw : num w = none) : pquad x = none := by simp [pquad, h, hw]
theorem pq_dir2 {x w : List UInt8} {ws : List (List UInt8)} {d : Int} (h : cutL 32 x = quadS :: w :: ws) (hw : num w = some d) (hd : ¬ (0 ≤ d ∧ d ≤ 5)) : pquad x = none := by
  unfold pquad
  rw [h]
  simp only [if_true, List.mapM_cons, hw]
  cases hm : ws.mapM num with
  | none => simp
  | some l =>
    simp only [Option.bind_eq_bind, Option.bind_some, Option.pure_def]
    split
    · rename_i he
      injection he with he
      injection he with he1 he2
      subst he1
      rw [if_neg hd]
    · rfl
theorem pq_rest {x w : List UInt8} {ws : List (List UInt8)} {d : Int} (h : cutL 32 x = quadS :: w :: ws) (hw : num w = some d) (hr : ¬ (ws.length = 6 ∧ (ws.mapM num).isSome = true)) : pquad x = none := by
  unfold pquad
  rw [h]
  simp only [if_true, List.mapM_cons, hw]
  cases hm : ws.mapM num with
  | none => simp
  | some l =>
    have hl : l.length = ws.length := by
      have key : ∀ (ws : List (List UInt8)) (l : List Int), ws.mapM num = some l → l.length = ws.length := by
        intro ws
        induction ws with
        | nil => intro l h; simp at h; simp [h]
        | cons a ws ih =>
          intro l h
          simp only [List.mapM_cons, Option.bind_eq_bind, Option.bind_eq_some_iff, Option.pure_def, Option.some.injEq] at h
          obtain ⟨y, _, s, hs, rfl⟩ := h
          simp [ih _ hs]
      exact key ws l hm
    simp only [Option.bind_eq_bind, Option.bind_some, Option.pure_def]
    split
    · rename_i he
      injection he with he
      injection he with he1 he2
      subst he2
      exfalso
      apply hr
      rw [← hl, hm]
      exact ⟨rfl, rfl⟩
    · rfl
theorem pq_ok {x w : List UInt8} {ws : List (List UInt8)} {d a b c a' b' c' : Int} (h : cutL 32 x = quadS :: w :: ws) (hw : num w = some d) (hd : 0 ≤ d ∧ d ≤ 5) (hr : ws.mapM num = some [a, b, c, a', b', c']) : pquad x = some ⟨d, a, b, c, a', b', c'⟩ := by
  unfold pquad
  rw [h]
  simp [List.mapM_cons, hw, hr, hd]
theorem pq_dir0 {x : List UInt8} {q : Qd} (h : pquad x = some q) : 0 ≤ q.d ∧ q.d ≤ 5 := by
  unfold pquad at h
  split at h
  · split at h
    · split at h
      · split at h
        · rename_i hd
          injection h with h
          subst h
          exact hd
        · cases h
      · cases h
    · cases h
  · cases h
theorem mapM_all {α β : Type} {f : α → Option β} {p : β → Prop} (hp : ∀ a b, f a = some b → p b) : ∀ {l : List α} {r : List β}, l.mapM f = some r → ∀ b ∈ r, p b
  | [], r, h, b, hb => by simp at h; subst h; simp at hb
  | x :: l, r, h, b, hb => by
    simp only [List.mapM_cons, Option.bind_eq_bind, Option.bind_eq_some_iff, Option.pure_def, Option.some.injEq] at h
    obtain ⟨y, hy, s, hs, rfl⟩ := h
    rcases List.mem_cons.1 hb with rfl | hb
    · exact hp _ _ hy
    · exact mapM_all hp hs b hb
theorem pm_many {s : List UInt8} (h : 60000 < s.length) : pm s = ([], 4) := if_pos h
theorem pm_end {s : List UInt8} (h : ¬ 60000 < s.length) (h2 : (linesL s).2 = false) : pm s = ([], 12) := by simp [pm, h, h2]
theorem pm_bad {s : List UInt8} (h : ¬ 60000 < s.length) (h2 : (linesL s).2 = true) (h3 : (linesL s).1.mapM pquad = none) : pm s = ([], 12) := by simp [pm, h, h2, h3]
theorem pm_chk {s : List UInt8} {l : List Qd} (h : ¬ 60000 < s.length) (h2 : (linesL s).2 = true) (h3 : (linesL s).1.mapM pquad = some l) : pm s = if chk l = 0 then (l, 0) else ([], chk l) := by simp [pm, h, h2, h3]
theorem list6 {l : List Int} (h : l.length = 6) : ∃ a b c d e f, l = [a, b, c, d, e, f] := by
  match l, h with
  | [a, b, c, d, e, f], _ => exact ⟨a, b, c, d, e, f, rfl⟩
theorem list1 {l : List Int} (h : l.length = 1) : ∃ a, l = [a] := by
  match l, h with
  | [a], _ => exact ⟨a, rfl⟩
end Go.Proofs.YtggofhbblidimaaDoor
