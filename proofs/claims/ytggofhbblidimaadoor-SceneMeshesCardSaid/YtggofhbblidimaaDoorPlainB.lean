/- Plain definitions and facts: numbers in decimal, and the texts of quads. No program is named here. -/
import Derived.Test.YtggofhbblidimaaDoorPlainA
import Derived.Lib.ItoaNum
namespace Go.Proofs.YtggofhbblidimaaDoor
open Go Go.RowKit Eng
open Go.Lib (itoa decDigits nDigits)
theorem nDigits_le {k u : Nat} (h : u < 10 ^ (k + 1)) : nDigits u ≤ k + 1 := by
  induction k generalizing u with
  | zero => rw [Lib.nDigits_small (by simpa using h)]; omega
  | succ k ih =>
    by_cases hu : u < 10
    · rw [Lib.nDigits_small hu]; omega
    · rw [Lib.nDigits_big hu]
      have := ih (u := u / 10) (by rw [Nat.pow_succ] at h; omega)
      omega
theorem itoa_length {n : Int} (h : -10000000000 < n ∧ n < 10000000000) : (itoa n).length ≤ 11 := by
  have h10 : ∀ u : Nat, u < 10000000000 → (decDigits u).length ≤ 10 := fun u hu => by
    rw [Lib.decDigits_length]
    exact nDigits_le (k := 9) (by omega)
  unfold itoa
  split
  · have := h10 n.natAbs (by omega)
    simp only [List.length_cons]
    omega
  · have := h10 n.toNat (by omega)
    omega
/-- The numbers of a line, each behind a blank. -/
def blanks (l : List Int) : List UInt8 := l.flatMap fun n => 32 :: itoa n
def lineL (first : List UInt8) (l : List Int) : List UInt8 := first ++ (blanks l ++ [10])
def Qd.nums (q : Qd) : List Int := [q.d, q.x0, q.y0, q.z0, q.x1, q.y1, q.z1]
def quadS : List UInt8 := [113, 117, 97, 100]
def qline (q : Qd) : List UInt8 := lineL quadS q.nums
def txt (l : List Qd) : List UInt8 := l.flatMap qline
/-- A text, or too much. -/
def wr (k : List UInt8) : List UInt8 × Int := if 60000 < k.length then ([], 4) else (k, 0)
def mt (l : List Qd) : List UInt8 × Int := if chk l = 0 then wr (txt l) else ([], chk l)
theorem blanks_take {l : List Int} {i : Nat} {n : Int} (h : l[i]? = some n) : blanks (l.take (i + 1)) = blanks (l.take i) ++ (32 :: itoa n) := by
  rw [List.take_add_one, h]
  simp [blanks]
theorem txt_take {l : List Qd} {i : Nat} {q : Qd} (h : l[i]? = some q) : txt (l.take (i + 1)) = txt (l.take i) ++ qline q := by
  rw [List.take_add_one, h]
  simp [txt]
theorem fine_bound {x y z : Int} (h : fineB x y z = true) : (-1000000 ≤ x ∧ x ≤ 1000000) ∧ (-1000000 ≤ y ∧ y ≤ 1000000) ∧ (-1000000 ≤ z ∧ z ≤ 1000000) := by
  simp only [fineB, Bool.and_eq_true, decide_eq_true_eq] at h
  omega
structure Qd.Ok (q : Qd) : Prop where
  d0 : 0 ≤ q.d
  d5 : q.d ≤ 5
  x0 : -1000000 ≤ q.x0 ∧ q.x0 ≤ 1000000
  y0 : -1000000 ≤ q.y0 ∧ q.y0 ≤ 1000000
  z0 : -1000000 ≤ q.z0 ∧ q.z0 ≤ 1000000
  x1 : -1000000 ≤ q.x1 ∧ q.x1 ≤ 1000000
  y1 : -1000000 ≤ q.y1 ∧ q.y1 ≤ 1000000
  z1 : -1000000 ≤ q.z1 ∧ q.z1 ≤ 1000000
theorem okQ_ok {q : Qd} (h0 : 0 ≤ q.d) (h : okQ q = true) : q.Ok := by
  simp only [okQ, Bool.and_eq_true, decide_eq_true_eq] at h
  obtain ⟨⟨⟨⟨⟨h5, ha⟩, hb⟩, _⟩, _⟩, _⟩ := h
  obtain ⟨a1, a2, a3⟩ := fine_bound ha
  obtain ⟨b1, b2, b3⟩ := fine_bound hb
  exact ⟨h0, h5, a1, a2, a3, b1, b2, b3⟩
theorem chk_all {l : List Qd} (h : chk l = 0) : l.length ≤ 3000 ∧ ∀ q ∈ l, okQ q = true := by
  unfold chk at h
  split at h
  · omega
  · split at h
    · rename_i hall
      exact ⟨by omega, fun q hq => List.all_eq_true.1 hall q hq⟩
    · omega
theorem Qd.Ok.nums {q : Qd} (h : q.Ok) : ∀ n ∈ q.nums, -10000000 ≤ n ∧ n ≤ 10000000 := by
  obtain ⟨h1, h2, h3, h4, h5, h6, h7, h8⟩ := h
  intro n hn
  simp only [Qd.nums, List.mem_cons, List.not_mem_nil, or_false] at hn
  omega
theorem blanks_le : ∀ (l : List Int), (∀ n ∈ l, -10000000 ≤ n ∧ n ≤ 10000000) → (blanks l).length ≤ 12 * l.length
  | [], _ => by simp [blanks]
  | n :: l, h => by
    have h1 := itoa_length (n := n) (by have := h n (by simp); omega)
    have h2 := blanks_le l (fun m hm => h m (by simp [hm]))
    simp only [blanks] at h2
    simp only [blanks, List.flatMap_cons, List.length_append, List.length_cons]
    omega
theorem line_le {first : List UInt8} {l : List Int} (h : ∀ n ∈ l, -10000000 ≤ n ∧ n ≤ 10000000) : (lineL first l).length ≤ first.length + 12 * l.length + 1 := by
  have := blanks_le l h
  simp only [lineL, List.length_append, List.length_cons, List.length_nil]
  omega
theorem txt_le : ∀ (l : List Qd), (∀ q ∈ l, q.Ok) → (txt l).length ≤ 100 * l.length
  | [], _ => by simp [txt]
  | q :: l, h => by
    have h1 := line_le (first := quadS) ((h q (by simp)).nums)
    have h2 := txt_le l (fun m hm => h m (by simp [hm]))
    have h3 : q.nums.length = 7 := rfl
    have h4 : quadS.length = 4 := rfl
    simp only [txt] at h2
    simp only [txt, List.flatMap_cons, List.length_append, List.length_cons, qline]
    omega
theorem txt_step {l : List Qd} {i : Nat} {q : Qd} (hq : l[i]? = some q) (h : ∀ q ∈ l, q.Ok) (hn : l.length ≤ 3000) : (txt (l.take i)).length + (qline q).length ≤ 400000 := by
  have h1 := txt_le (l.take (i + 1)) (fun q hq => h q (List.mem_of_mem_take hq))
  rw [txt_take hq, List.length_append] at h1
  have h2 : (l.take (i + 1)).length ≤ l.length := by simp; omega
  omega
/-- One digit more, in front. -/
def dgt (m : Nat) : UInt8 := UInt8.ofNat (48 + m % 10)
theorem dgt_toNat (m : Nat) : (dgt m).toNat = 48 + m % 10 := by
  simp only [dgt, UInt8.toNat_ofNat']
  omega
theorem dec_last {m : Nat} (h : m / 10 = 0) : decDigits m = [dgt m] := by
  rw [Lib.decDigits_one (by omega)]
  unfold dgt
  rw [Nat.mod_eq_of_lt (by omega)]
theorem dec_more {m : Nat} (h : m / 10 ≠ 0) : decDigits m = decDigits (m / 10) ++ [dgt m] := by
  rw [decDigits, dif_neg (by omega)]
  rfl
theorem itoa_nat (m : Nat) : itoa m = decDigits m := by
  unfold itoa
  rw [if_neg (by omega)]
  rfl
theorem itoa_neg {n : Int} (h : n < 0) : itoa n = 45 :: itoa (-n) := by
  have e : itoa (-n) = decDigits (-n).toNat := if_neg (by omega)
  rw [e]
  unfold itoa
  rw [if_pos h]
  congr 2
  omega
end Go.Proofs.YtggofhbblidimaaDoor
