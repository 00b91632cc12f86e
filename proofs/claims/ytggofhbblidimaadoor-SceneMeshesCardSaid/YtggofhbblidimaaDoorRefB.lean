/- Walks: the reference's way of reading. -/
import Derived.Test.YtggofhbblidimaaDoorParseB
import Derived.Test.YtggofhbblidimaaDoorRefA
import Derived.Test.YtggofhbblidimaaDoorPlainD
namespace Go.Proofs.YtggofhbblidimaaDoor
open Go Go.RowKit Eng
open Go.Lib (itoa decDigits nDigits)
set_option maxRecDepth 4000
theorem cut_spec (s : List UInt8) (c : UInt8) (hs : s.length < 1000000) (w : World) :
    Ret Tryd.prog 20 [str s, .int .u8 (c.toNat : Nat)] w No (fun _ : Option (Nat × Nat) => True) (fun o => sv o (cutL c s).length) (fun o => [wordsR o (cutL c s)]) := by
  refine enter (A := St w No []) Tryd.func20 rfl Tryd.ntmps20 (Nat.le_of_ble_eq_true rfl) (St.start w No) ?_
  refine seq ?_
  refine region ?_
  refine vl rfl (asg trivial rfl) ?_
  refine nil ?_
  refine thenN ?_
  refine seq ?_
  refine region ?_
  refine vl rfl (asg trivial rfl) ?_
  refine nil ?_
  refine thenN ?_
  refine seq ?_
  refine region ?_
  refine vl rfl (asg trivial rfl) ?_
  refine nil ?_
  refine thenN ?_
  refine seq ?_
  refine seq ?_
  refine region ?_
  refine vl rfl (asg trivial rfl) ?_
  refine nil ?_
  refine thenN ?_
  refine block ?_
  refine loop (γ := Nat × Nat × Option (Nat × Nat) × List (List UInt8)) (fun x => x.1 ≤ s.length + 1 ∧ x.2.2.2.length ≤ x.1 ∧ (x.1 ≤ s.length → x.2.1 ≤ x.1 ∧ (∀ b ∈ (s.take x.1).drop x.2.1, b ≠ c) ∧ x.2.2.2 ++ cutL c (s.drop x.2.1) = cutL c s) ∧ (x.1 = s.length + 1 → x.2.2.2 = cutL c s)) (fun x => [(0, str s), (1, .int .u8 (c.toNat : Nat)), (5, sv x.2.2.1 x.2.2.2.length), (6, .int .i64 (x.2.1 : Nat)), (7, .int .i64 (x.1 : Nat))]) (fun x => St w No [wordsR x.2.2.1 x.2.2.2]) (fun x => s.length + 1 - x.1) (0, 0, none, []) ⟨by show 0 ≤ s.length + 1; omega, Nat.le_refl _, fun _ => ⟨Nat.le_refl _, by simp, by simp⟩, fun h => by simp at h⟩ ?_ (fun w hw => ?_) (fun x hx => ?_)
  · repeat' (first | exact trivial | (refine And.intro ?_ ?_) | rfl)
  · exact hw.nilOwn _ _
  obtain ⟨i, f, o, D⟩ := x
  obtain ⟨hi1, hDi, hin, hout⟩ := hx
  dsimp only at hi1 hDi hin hout ⊢
  refine seq ?_
  refine seq ?_
  refine region ?_
  refine vl rfl (mv trivial rfl) ?_
  refine vl rfl (mv trivial rfl) ?_
  refine vl rfl (lenS trivial rfl Tryd.runUnderlying9) ?_
  refine vl rfl (leI trivial rfl rfl) ?_
  refine nil ?_
  refine thenN ?_
  refine cond rfl (fun h11 => ?_) (fun h11 => ?_)
  · have hi : i ≤ s.length := by have := of_decide_eq_true h11; omega
    obtain ⟨hfi, hno, hD⟩ := hin hi
    refine skip ?_
    refine thenN ?_
    refine seq ?_
    refine block ?_
    refine seq ?_
    refine region ?_
    refine vl rfl (mv trivial rfl) ?_
    refine vl rfl (mv trivial rfl) ?_
    refine vl rfl (lenS trivial rfl Tryd.runUnderlying9) ?_
    refine vl rfl (eqI trivial rfl rfl) ?_
    refine vl rfl (mv trivial rfl) ?_
    refine splitB 18 rfl (fun h18 => ?_) (fun h18 => ?_)
    · have hil : i = s.length := by have := of_decide_eq_true h18; omega
      refine vl rfl (skF rfl rfl) ?_
      refine vl rfl (skF rfl rfl) ?_
      refine vl rfl (skF rfl rfl) ?_
      refine vl rfl (skF rfl rfl) ?_
      refine vl rfl (skF rfl rfl) ?_
      refine vl rfl (pkT trivial rfl rfl) ?_
      refine nil ?_
      refine thenN ?_
      refine condT rfl ?_
      refine seq ?_
      refine region ?_
      refine vl rfl (mv trivial rfl) ?_
      refine vl rfl (mv trivial rfl) ?_
      refine vl rfl (mv trivial rfl) ?_
      refine vl rfl (mv trivial rfl) ?_
      refine vl rfl (slS trivial Tryd.underlying9 rfl rfl rfl rfl rfl hfi hi) ?_
      refine bsl (size := 1) _ rfl trivial rfl (by intro w; exact bs_L_string_1 ..) rfl (by simp) (by decide) (fun g30 hg30 => ?_)
      refine OpsJ.conv (fun _ => St.b1) ?_
      refine OpsJ.conv (fun _ => St.b1) ?_
      refine app1 rfl trivial sl_L_string rfl rfl (by simp) (by intro u hu; simp at hu; subst hu; rfl) (by show (D.length + 1) * 16 ≤ _; omega) (by show D.length + 1 ≤ maxLen; unfold maxLen; omega) (fun g31 cg31 => ?_)
      refine vl rfl (asg trivial rfl) ?_
      refine respell 5 (sv (some (g31, cg31)) (D ++ [(s.take i).drop f]).length) rfl (by rw [List.length_append]; rfl) ?_
      refine nil ?_
      refine thenN ?_
      refine region ?_
      refine vl rfl (mv trivial rfl) ?_
      refine vl rfl (addI trivial rfl rfl (i64r (by show -9223372036854775808 ≤ (i : Int) + 1 ∧ (i : Int) + 1 ≤ 9223372036854775807; omega))) ?_
      refine vl rfl (asg trivial rfl) ?_
      refine nil ?_
      refine blkN ?_
      refine thenN ?_
      refine region ?_
      refine vl rfl (mv trivial rfl) ?_
      refine vl rfl (addI trivial rfl rfl (i64r (by show -9223372036854775808 ≤ (i : Int) + 1 ∧ (i : Int) + 1 ≤ 9223372036854775807; omega))) ?_
      refine vl rfl (asg trivial rfl) ?_
      refine nil ?_
      refine loopN (i + 1, i + 1, some (g31, cg31), D ++ [(s.take i).drop f]) ⟨by show i + 1 ≤ s.length + 1; omega, by simp; omega, fun h => by (have h' : i + 1 ≤ s.length := h); omega, fun _ => by subst hil; rw [← hD, drop_take_end]; rw [drop_take_end] at hno; rw [cutL_none hno]⟩ (by show s.length + 1 - (i + 1) < s.length + 1 - i; omega) (by repeat' (first | exact trivial | (refine And.intro ?_ ?_) | rfl)) (fun w hw => ?_)
      simp only [wordsR, List.map_append]
      exact hw
    · have hil : i < s.length := by have := of_decide_eq_false h18; omega
      obtain ⟨b, hb⟩ := getQ hil
      refine vl rfl (mv ⟨_, rfl, rfl⟩ rfl) ?_
      refine vl rfl (mv ⟨_, rfl, rfl⟩ rfl) ?_
      refine vl rfl (ixS ⟨_, rfl, rfl⟩ Tryd.runUnderlying9 rfl rfl rfl hil) ?_
      refine respell 21 (.int .u8 (b.toNat : Nat)) rfl (by rw [getD_of hb]) ?_
      refine vl rfl (mv ⟨_, rfl, rfl⟩ rfl) ?_
      refine vl rfl (eqI ⟨_, rfl, rfl⟩ rfl rfl) ?_
      refine vl rfl (pkF trivial rfl rfl) ?_
      refine nil ?_
      refine thenN ?_
      refine cond rfl (fun h24 => ?_) (fun h24 => ?_)
      · have hbc : b = c := by
          have := of_decide_eq_true h24
          exact UInt8.toNat_inj.1 (by omega)
        refine seq ?_
        refine region ?_
        refine vl rfl (mv trivial rfl) ?_
        refine vl rfl (mv trivial rfl) ?_
        refine vl rfl (mv trivial rfl) ?_
        refine vl rfl (mv trivial rfl) ?_
        refine vl rfl (slS trivial Tryd.underlying9 rfl rfl rfl rfl rfl hfi hi) ?_
        refine bsl (size := 1) _ rfl trivial rfl (by intro w; exact bs_L_string_1 ..) rfl (by simp) (by decide) (fun g30 hg30 => ?_)
        refine OpsJ.conv (fun _ => St.b1) ?_
        refine OpsJ.conv (fun _ => St.b1) ?_
        refine app1 rfl trivial sl_L_string rfl rfl (by simp) (by intro u hu; simp at hu; subst hu; rfl) (by show (D.length + 1) * 16 ≤ _; omega) (by show D.length + 1 ≤ maxLen; unfold maxLen; omega) (fun g31 cg31 => ?_)
        refine vl rfl (asg trivial rfl) ?_
        refine respell 5 (sv (some (g31, cg31)) (D ++ [(s.take i).drop f]).length) rfl (by rw [List.length_append]; rfl) ?_
        refine nil ?_
        refine thenN ?_
        refine region ?_
        refine vl rfl (mv trivial rfl) ?_
        refine vl rfl (addI trivial rfl rfl (i64r (by show -9223372036854775808 ≤ (i : Int) + 1 ∧ (i : Int) + 1 ≤ 9223372036854775807; omega))) ?_
        refine vl rfl (asg trivial rfl) ?_
        refine nil ?_
        refine blkN ?_
        refine thenN ?_
        refine region ?_
        refine vl rfl (mv trivial rfl) ?_
        refine vl rfl (addI trivial rfl rfl (i64r (by show -9223372036854775808 ≤ (i : Int) + 1 ∧ (i : Int) + 1 ≤ 9223372036854775807; omega))) ?_
        refine vl rfl (asg trivial rfl) ?_
        refine nil ?_
        refine loopN (i + 1, i + 1, some (g31, cg31), D ++ [(s.take i).drop f]) ⟨by show i + 1 ≤ s.length + 1; omega, by simp; omega, fun h => ⟨Nat.le_refl _, by rw [List.drop_eq_nil_of_le (by simp; omega)]; simp, by rw [← hD, piece_hit hfi hb, hbc, cutL_hit hno]; simp⟩, fun h => by (have h' : i + 1 = s.length + 1 := h); omega⟩ (by show s.length + 1 - (i + 1) < s.length + 1 - i; omega) (by repeat' (first | exact trivial | (refine And.intro ?_ ?_) | rfl)) (fun w hw => ?_)
        simp only [wordsR, List.map_append]
        exact hw
      · have hbc : b ≠ c := by
          intro e
          subst e
          simp at h24
        refine skip ?_
        refine blkN ?_
        refine thenN ?_
        refine region ?_
        refine vl rfl (mv trivial rfl) ?_
        refine vl rfl (addI trivial rfl rfl (i64r (by show -9223372036854775808 ≤ (i : Int) + 1 ∧ (i : Int) + 1 ≤ 9223372036854775807; omega))) ?_
        refine vl rfl (asg trivial rfl) ?_
        refine nil ?_
        refine loopN (i + 1, f, o, D) ⟨by show i + 1 ≤ s.length + 1; omega, by show D.length ≤ i + 1; omega, fun h => ⟨by show f ≤ i + 1; omega, by rw [piece_more hfi hb]; exact fun x hx => (List.mem_append.1 hx).elim (hno x) (fun h1 => by simp at h1; rw [h1]; exact hbc), hD⟩, fun h => by (have h' : i + 1 = s.length + 1 := h); omega⟩ (by show s.length + 1 - (i + 1) < s.length + 1 - i; omega) (by repeat' (first | exact trivial | (refine And.intro ?_ ?_) | rfl)) (fun w hw => ?_)
        exact hw
  · skip
    refine exit ?_
    refine thenX ?_
    refine loopX ?_
    refine blkX ?_
    refine thenN ?_
    refine seq ?_
    refine region ?_
    refine vl rfl (mv trivial rfl) ?_
    refine vl rfl (asg trivial rfl) ?_
    refine nil ?_
    refine thenN ?_
    refine ret ?_
    refine end1 Tryd.results20 rfl (fun w' hw => ?_)
    have hi : i = s.length + 1 := by have := of_decide_eq_false h11; omega
    have hD := hout hi
    subst hD
    exact ⟨o, trivial, rfl, hw⟩
/-- What the reference's Number says. -/
structure NumH (w : List UInt8) (x : Int × Bool) : Prop where
  yes : x.2 = true → x.1 = valN w ∧ itoa (valN w) = w
  no : x.2 = false → ∀ n, itoa n ≠ w
theorem frm_cases (w : List UInt8) : frm w = 0 ∨ frm w = 1 := by unfold frm; split <;> simp
theorem frm_le {w : List UInt8} : frm w ≤ w.length := by
  unfold frm
  split
  · rename_i h
    cases w with
    | nil => simp at h
    | cons a l => simp
  · exact Nat.zero_le _
theorem val_bound {w : List UInt8} (hw : w.length ≤ 8) (h : (w.drop (frm w)).all isDig = true) : -100000000 < valN w ∧ valN w < 100000000 := by
  have := hor_lt8 h (by simp; omega)
  unfold valN
  split <;> omega
theorem number1_spec (s : List UInt8) (hs : s.length ≤ 8) (w : World) :
    Ret Tryd.prog 55 [str s] w No (NumH s) (fun x => .tuple #[.int .i64 x.1, .bool x.2]) (fun _ => []) := by
  refine enter (A := St w No []) Tryd.func55 rfl Tryd.ntmps55 (Nat.le_of_ble_eq_true rfl) (St.start w No) ?_
  refine seq ?_
  refine region ?_
  refine vl rfl (asg trivial rfl) ?_
  refine vl rfl (asg trivial rfl) ?_
  refine nil ?_
  refine thenN ?_
  refine seq ?_
  refine region ?_
  refine vl rfl (asg trivial rfl) ?_
  refine vl rfl (asg trivial rfl) ?_
  refine nil ?_
  refine thenN ?_
  refine seqCut ([(0, str s), (4, .int .i64 (frm s : Nat)), (5, .int .i64 0)]) (St w No []) ?_ ?_
  · skip
    refine seq ?_
    refine region ?_
    refine vl rfl (mv trivial rfl) ?_
    refine vl rfl (lenS trivial rfl Tryd.runUnderlying9) ?_
    refine vl rfl (gtI trivial rfl rfl) ?_
    refine vl rfl (mv trivial rfl) ?_
    refine splitB 10 rfl (fun h10 => ?_) (fun h10 => ?_)
    · have h0 : 0 < s.length := by have := of_decide_eq_true h10; omega
      obtain ⟨b, hb⟩ := getQ h0
      refine vl rfl (mv ⟨_, rfl, rfl⟩ rfl) ?_
      refine vl rfl (ixS ⟨_, rfl, rfl⟩ Tryd.runUnderlying9 rfl rfl rfl h0) ?_
      refine respell 12 (.int .u8 (b.toNat : Nat)) rfl (by rw [getD_of hb]) ?_
      refine vl rfl (eqI ⟨_, rfl, rfl⟩ rfl rfl) ?_
      refine vl rfl (pkT trivial rfl rfl) ?_
      refine nil ?_
      refine thenN ?_
      refine cond rfl (fun h14 => ?_) (fun h14 => ?_)
      · have hf : frm s = 1 := by
          have h1 := of_decide_eq_true h14
          have hb45 : b = 45 := UInt8.toNat_inj.1 (by show b.toNat = 45; omega)
          subst hb45
          unfold frm
          rw [List.head?_eq_getElem?, hb]
          rfl
        rw [hf]
        refine region ?_
        refine vl rfl (asg trivial rfl) ?_
        refine nil ?_
        exact cutQN (by repeat' (first | exact trivial | (refine And.intro ?_ ?_) | rfl)) (fun w hw => hw)
      · have hf : frm s = 0 := by
          have h1 := of_decide_eq_false h14
          unfold frm
          rw [List.head?_eq_getElem?, hb, if_neg (fun e => by injection e with e; subst e; simp at h1)]
        rw [hf]
        refine skip ?_
        exact cutQN (by repeat' (first | exact trivial | (refine And.intro ?_ ?_) | rfl)) (fun w hw => hw)
    · have hf : frm s = 0 := by
        have h1 := of_decide_eq_false h10
        have : s = [] := List.eq_nil_of_length_eq_zero (by omega)
        subst this
        rfl
      rw [hf]
      refine vl rfl (skT rfl rfl) ?_
      refine vl rfl (skT rfl rfl) ?_
      refine vl rfl (skT rfl rfl) ?_
      refine vl rfl (pkF trivial rfl rfl) ?_
      refine nil ?_
      refine thenN ?_
      refine condF rfl ?_
      refine skip ?_
      exact cutQN (by repeat' (first | exact trivial | (refine And.intro ?_ ?_) | rfl)) (fun w hw => hw)
  · skip
    refine seq ?_
    refine seq ?_
    refine region ?_
    refine vl rfl (mv trivial rfl) ?_
    refine vl rfl (asg trivial rfl) ?_
    refine nil ?_
    refine thenN ?_
    refine block ?_
    refine loop (γ := Nat) (fun x => frm s ≤ x ∧ x ≤ s.length ∧ ((s.take x).drop (frm s)).all isDig = true) (fun x => [(0, str s), (4, .int .i64 (frm s : Nat)), (5, .int .i64 (hor ((s.take x).drop (frm s)) : Nat)), (6, .int .i64 (x : Nat))]) (fun x => St w No []) (fun x => s.length - x) (frm s) ⟨Nat.le_refl _, frm_le, by rw [List.drop_eq_nil_of_le (by simp; omega)]; rfl⟩ ?_ (fun w hw => ?_) (fun x hx => ?_)
    · refine ⟨rfl, rfl, ?_, rfl, trivial⟩
      rw [List.drop_eq_nil_of_le (by simp; omega)]
      rfl
    · exact hw
    refine seq ?_
    refine seq ?_
    refine region ?_
    refine vl rfl (mv trivial rfl) ?_
    refine vl rfl (mv trivial rfl) ?_
    refine vl rfl (lenS trivial rfl Tryd.runUnderlying9) ?_
    refine vl rfl (ltI trivial rfl rfl) ?_
    refine nil ?_
    refine thenN ?_
    refine cond rfl (fun h19 => ?_) (fun h19 => ?_)
    · have hi : x < s.length := by have := of_decide_eq_true h19; omega
      obtain ⟨b, hb⟩ := getQ hi
      have hh := hor_lt8 hx.2.2 (by simp; omega)
      have hfc := frm_cases s
      refine skip ?_
      refine thenN ?_
      refine seq ?_
      refine block ?_
      refine seq ?_
      refine seq ?_
      refine region ?_
      refine vl rfl (mv trivial rfl) ?_
      refine vl rfl (mv trivial rfl) ?_
      refine vl rfl (ixS trivial Tryd.runUnderlying9 rfl rfl rfl hi) ?_
      refine respell 24 (.int .u8 (b.toNat : Nat)) rfl (by rw [getD_of hb]) ?_
      refine vl rfl (ltI trivial rfl rfl) ?_
      refine vl rfl (mv trivial rfl) ?_
      refine splitB 26 rfl (fun h26 => ?_) (fun h26 => ?_)
      · skip
        refine vl rfl (skF rfl rfl) ?_
        refine vl rfl (skF rfl rfl) ?_
        refine vl rfl (skF rfl rfl) ?_
        refine vl rfl (skF rfl rfl) ?_
        refine vl rfl (pkT trivial rfl rfl) ?_
        refine vl rfl (mv trivial rfl) ?_
        refine vl rfl (skF rfl rfl) ?_
        refine vl rfl (skF rfl rfl) ?_
        refine vl rfl (skF rfl rfl) ?_
        refine vl rfl (skF rfl rfl) ?_
        refine vl rfl (pkT trivial rfl rfl) ?_
        refine nil ?_
        refine thenN ?_
        refine condT rfl ?_
        refine seq ?_
        refine region ?_
        refine vl rfl (asg trivial rfl) ?_
        refine vl rfl (asg trivial rfl) ?_
        refine nil ?_
        refine thenN ?_
        refine ret ?_
        refine thenR (blkR (thenR (loopR (blkR (thenR ?_)))))
        refine end2 Tryd.results55 rfl rfl (fun w' hw => ?_)
        exact ⟨(0, false), ⟨fun h => (by cases h), fun _ => bad_digit hx.1 hb (isDig_lo (of_decide_eq_true h26))⟩, rfl, hw⟩
      · skip
        refine vl rfl (mv ⟨_, rfl, rfl⟩ rfl) ?_
        refine vl rfl (mv ⟨_, rfl, rfl⟩ rfl) ?_
        refine vl rfl (ixS ⟨_, rfl, rfl⟩ Tryd.runUnderlying9 rfl rfl rfl hi) ?_
        refine respell 29 (.int .u8 (b.toNat : Nat)) rfl (by rw [getD_of hb]) ?_
        refine vl rfl (gtI ⟨_, rfl, rfl⟩ rfl rfl) ?_
        refine vl rfl (pkF trivial rfl rfl) ?_
        refine vl rfl (mv trivial rfl) ?_
        refine splitB 32 rfl (fun h32 => ?_) (fun h32 => ?_)
        · skip
          refine vl rfl (skF rfl rfl) ?_
          refine vl rfl (skF rfl rfl) ?_
          refine vl rfl (skF rfl rfl) ?_
          refine vl rfl (skF rfl rfl) ?_
          refine vl rfl (pkT trivial rfl rfl) ?_
          refine nil ?_
          refine thenN ?_
          refine condT rfl ?_
          refine seq ?_
          refine region ?_
          refine vl rfl (asg trivial rfl) ?_
          refine vl rfl (asg trivial rfl) ?_
          refine nil ?_
          refine thenN ?_
          refine ret ?_
          refine thenR (blkR (thenR (loopR (blkR (thenR ?_)))))
          refine end2 Tryd.results55 rfl rfl (fun w' hw => ?_)
          exact ⟨(0, false), ⟨fun h => (by cases h), fun _ => bad_digit hx.1 hb (isDig_hi (of_decide_eq_true h32))⟩, rfl, hw⟩
        · skip
          refine vl rfl (mv ⟨_, rfl, rfl⟩ rfl) ?_
          refine vl rfl (mv ⟨_, rfl, rfl⟩ rfl) ?_
          refine vl rfl (addI ⟨_, rfl, rfl⟩ rfl rfl (i64r (by omega))) ?_
          refine vl rfl (gtI ⟨_, rfl, rfl⟩ rfl rfl) ?_
          refine vl rfl (pkF trivial rfl rfl) ?_
          refine nil ?_
          refine thenN ?_
          refine cond rfl (fun h37 => ?_) (fun h37 => ?_)
          · exact absurd (of_decide_eq_true h37) (by omega)
          · skip
            refine skip ?_
            refine thenN ?_
            refine region ?_
            refine vl rfl (mv trivial rfl) ?_
            have h48 := of_decide_eq_false h26
            have h57 := of_decide_eq_false h32
            refine vl rfl (mulI trivial rfl rfl (i64r (by omega))) ?_
            refine vl rfl (mv trivial rfl) ?_
            refine vl rfl (mv trivial rfl) ?_
            refine vl rfl (ixS trivial Tryd.runUnderlying9 rfl rfl rfl hi) ?_
            refine respell 42 (.int .u8 (b.toNat : Nat)) rfl (by rw [getD_of hb]) ?_
            refine vl rfl (subI trivial rfl rfl (u8r (by have := of_decide_eq_false h26; have := of_decide_eq_false h32; omega))) ?_
            refine vl rfl (cvI trivial rfl Tryd.runUnderlying5 Tryd.runUnderlying2 (i64r (by have := of_decide_eq_false h26; have := of_decide_eq_false h32; omega))) ?_
            refine vl rfl (addI trivial rfl rfl (i64r (by have := of_decide_eq_false h26; have := of_decide_eq_false h32; omega))) ?_
            refine respell 45 (.int .i64 (hor ((s.take (x + 1)).drop (frm s)) : Nat)) rfl (by rw [piece_more hx.1 hb, hor_snoc]; congr 1; omega) ?_
            refine vl rfl (asg trivial rfl) ?_
            refine nil ?_
            refine blkN ?_
            refine thenN ?_
            refine region ?_
            refine vl rfl (mv trivial rfl) ?_
            refine vl rfl (addI trivial rfl rfl (i64r (by omega))) ?_
            refine vl rfl (asg trivial rfl) ?_
            refine nil ?_
            refine loopN (x + 1) ⟨by omega, hi, by rw [piece_more hx.1 hb, List.all_append, hx.2.2]; simpa using isDig_ok h48 h57⟩ (by omega) (by repeat' (first | exact trivial | (refine And.intro ?_ ?_) | rfl)) (fun w hw => ?_)
            exact hw
    · have hxl : x = s.length := by have := of_decide_eq_false h19; omega
      have hall := hx.2.2
      rw [hxl, List.take_length] at hall
      rw [hxl, List.take_length]
      have hh := hor_lt8 hall (by simp; omega)
      refine exit ?_
      refine thenX ?_
      refine loopX ?_
      refine blkX ?_
      refine thenN ?_
      refine seqCut ([(0, str s), (4, .int .i64 (frm s : Nat)), (5, .int .i64 (valN s))]) (St w No []) ?_ ?_
      · skip
        refine seq ?_
        refine region ?_
        refine vl rfl (mv trivial rfl) ?_
        refine vl rfl (eqI trivial rfl rfl) ?_
        refine nil ?_
        refine thenN ?_
        refine cond rfl (fun h47 => ?_) (fun h47 => ?_)
        · have hf : frm s = 1 := by have := of_decide_eq_true h47; omega
          refine region ?_
          refine vl rfl (mv trivial rfl) ?_
          refine vl rfl (negI trivial rfl (i64r (by omega))) ?_
          refine respell 49 (.int .i64 (valN s)) rfl (by rw [show valN s = -(hor (s.drop (frm s)) : Int) from if_pos hf]) ?_
          refine vl rfl (asg trivial rfl) ?_
          refine nil ?_
          exact cutQN (by repeat' (first | exact trivial | (refine And.intro ?_ ?_) | rfl)) (fun w hw => hw)
        · have hf : ¬ frm s = 1 := by have := of_decide_eq_false h47; omega
          have he : (hor (s.drop (frm s)) : Int) = valN s := (if_neg hf).symm
          rw [he]
          refine skip ?_
          exact cutQN (by repeat' (first | exact trivial | (refine And.intro ?_ ?_) | rfl)) (fun w hw => hw)
      · skip
        refine seq ?_
        refine region ?_
        refine vl rfl (mv trivial rfl) ?_
        refine vl rfl (mv trivial rfl) ?_
        refine vl rfl (lenS trivial rfl Tryd.runUnderlying9) ?_
        refine vl rfl (mv trivial rfl) ?_
        refine vl rfl (gtI trivial rfl rfl) ?_
        refine vl rfl (mv trivial rfl) ?_
        refine splitB 55 rfl (fun h55 => ?_) (fun h55 => ?_)
        · skip
          refine vl rfl (mv ⟨_, rfl, rfl⟩ rfl) ?_
          refine callG rfl ⟨_, rfl, rfl⟩ rfl rfl Tryd.call13 rfl (fun w hw => decimal_spec (valN s) (by have := val_bound hs hall; omega) w) ?_
          refine vl rfl (mv ⟨_, rfl, rfl⟩ rfl) ?_
          refine vl rfl (eqS ⟨_, rfl, rfl⟩ rfl rfl) ?_
          refine vl rfl (pkT trivial rfl rfl) ?_
          refine vl rfl (asg trivial rfl) ?_
          refine vl rfl (asg trivial rfl) ?_
          refine nil ?_
          refine thenN ?_
          refine ret ?_
          refine end2 Tryd.results55 rfl rfl (fun w' hw => ?_)
          exact ⟨(valN s, decide (itoa (valN s) = s)), ⟨fun h => ⟨rfl, by simpa using h⟩, fun h n hn => by obtain ⟨_, h2, _⟩ := itoa_val hn; rw [h2] at h; simp [hn] at h⟩, rfl, hw⟩
        · skip
          refine vl rfl (skT rfl rfl) ?_
          refine vl rfl (skT rfl rfl) ?_
          refine vl rfl (skT rfl rfl) ?_
          refine vl rfl (skT rfl rfl) ?_
          refine vl rfl (pkF trivial rfl rfl) ?_
          refine vl rfl (asg trivial rfl) ?_
          refine vl rfl (asg trivial rfl) ?_
          refine nil ?_
          refine thenN ?_
          refine ret ?_
          refine end2 Tryd.results55 rfl rfl (fun w' hw => ?_)
          exact ⟨(valN s, false), ⟨fun h => (by cases h), fun _ n hn => by obtain ⟨_, _, h3⟩ := itoa_val hn; have := of_decide_eq_false h55; omega⟩, rfl, hw⟩
structure NumberH (w : List UInt8) (x : Int × Bool) : Prop where
  is : x.2 = (num w).isSome
  val : ∀ n, num w = some n → x.1 = n
theorem number_spec (s : List UInt8) (w : World) : Ret Tryd.prog 34 [str s] w No (NumberH s) (fun x => .tuple #[.int .i64 x.1, .bool x.2]) (fun _ => []) := by
  refine enter (A := St w No []) Tryd.func34 rfl Tryd.ntmps34 (Nat.le_of_ble_eq_true rfl) (St.start w No) ?_
  refine seq ?_
  refine region ?_
  refine vl rfl (asg trivial rfl) ?_
  refine vl rfl (asg trivial rfl) ?_
  refine nil ?_
  refine thenN ?_
  refine seq ?_
  refine seq ?_
  refine region ?_
  refine vl rfl (mv trivial rfl) ?_
  refine vl rfl (lenS trivial rfl Tryd.runUnderlying9) ?_
  refine vl rfl (gtI trivial rfl rfl) ?_
  refine nil ?_
  refine thenN ?_
  refine cond rfl (fun h8 => ?_) (fun h8 => ?_)
  · skip
    refine seq ?_
    refine region ?_
    refine vl rfl (asg trivial rfl) ?_
    refine vl rfl (asg trivial rfl) ?_
    refine nil ?_
    refine thenN ?_
    refine ret ?_
    refine thenR ?_
    refine end2 Tryd.results34 rfl rfl (fun w' hw => ?_)
    have hno : num s = none := by
      cases hn : num s with
      | none => rfl
      | some n =>
        have := num_len hn
        have := of_decide_eq_true h8
        omega
    exact ⟨(0, false), ⟨by rw [hno]; rfl, fun n hn => by rw [hno] at hn; cases hn⟩, rfl, hw⟩
  · have h8' : s.length ≤ 8 := by have := of_decide_eq_false h8; omega
    refine skip ?_
    refine thenN ?_
    refine seq ?_
    refine region ?_
    refine vl rfl (mv trivial rfl) ?_
    refine callR0 rfl trivial rfl rfl Tryd.call55 rfl (fun w hw => number1_spec s h8' w) (fun g11 h11 => ?_)
    refine vl rfl (mv trivial rfl) ?_
    refine vl rfl (extr trivial rfl rfl) ?_
    refine vl rfl (extr trivial rfl rfl) ?_
    refine vl rfl (asg trivial rfl) ?_
    refine vl rfl (asg trivial rfl) ?_
    refine nil ?_
    refine thenN ?_
    refine seq ?_
    refine region ?_
    refine vl rfl (mv trivial rfl) ?_
    refine vl rfl (mv trivial rfl) ?_
    refine vl rfl (mv trivial rfl) ?_
    refine splitB 16 rfl (fun h16 => ?_) (fun h16 => ?_)
    · obtain ⟨he, hv⟩ := h11.yes h16
      refine vl rfl (mv ⟨_, rfl, rfl⟩ rfl) ?_
      refine vl rfl (geI ⟨_, rfl, rfl⟩ rfl rfl) ?_
      refine vl rfl (pkT trivial rfl rfl) ?_
      refine vl rfl (mv trivial rfl) ?_
      refine splitB 20 rfl (fun h20 => ?_) (fun h20 => ?_)
      · skip
        refine vl rfl (mv ⟨_, rfl, rfl⟩ rfl) ?_
        refine vl rfl (leI ⟨_, rfl, rfl⟩ rfl rfl) ?_
        refine vl rfl (pkT trivial rfl rfl) ?_
        refine vl rfl (asg trivial rfl) ?_
        refine vl rfl (asg trivial rfl) ?_
        refine nil ?_
        refine thenN ?_
        refine ret ?_
        refine end2 Tryd.results34 rfl rfl (fun w' hw => ?_)
        have hlo := of_decide_eq_true h20
        rw [he] at hlo
        refine ⟨(valN s, decide (valN s ≤ 9999999)), ⟨?_, fun n hn => (num_val hn).1⟩, by rw [he]; rfl, hw⟩
        by_cases hhi : valN s ≤ 9999999
        · simp [hhi, num_of_val hv ⟨hlo, hhi⟩]
        · cases hn : num s with
          | none => simp [hhi]
          | some n =>
            obtain ⟨h1, _⟩ := num_val hn
            have := num_range hn
            omega
      · skip
        refine vl rfl (skT rfl rfl) ?_
        refine vl rfl (skT rfl rfl) ?_
        refine vl rfl (pkF trivial rfl rfl) ?_
        refine vl rfl (asg trivial rfl) ?_
        refine vl rfl (asg trivial rfl) ?_
        refine nil ?_
        refine thenN ?_
        refine ret ?_
        refine end2 Tryd.results34 rfl rfl (fun w' hw => ?_)
        have hlo := of_decide_eq_false h20
        rw [he] at hlo
        refine ⟨(valN s, false), ⟨?_, fun n hn => (num_val hn).1⟩, by rw [he]; rfl, hw⟩
        cases hn : num s with
        | none => rfl
        | some n =>
          obtain ⟨h1, _⟩ := num_val hn
          have := num_range hn
          omega
    · have hno : num s = none := by
        cases hn : num s with
        | none => rfl
        | some n => exact absurd (num_some.1 hn).1 (h11.no h16 n)
      refine vl rfl (skT rfl rfl) ?_
      refine vl rfl (skT rfl rfl) ?_
      refine vl rfl (pkF trivial rfl rfl) ?_
      refine vl rfl (mv trivial rfl) ?_
      refine vl rfl (skT rfl rfl) ?_
      refine vl rfl (skT rfl rfl) ?_
      refine vl rfl (pkF trivial rfl rfl) ?_
      refine vl rfl (asg trivial rfl) ?_
      refine vl rfl (asg trivial rfl) ?_
      refine nil ?_
      refine thenN ?_
      refine ret ?_
      refine end2 Tryd.results34 rfl rfl (fun w' hw => ?_)
      exact ⟨(g11.1, false), ⟨by rw [hno]; rfl, fun n hn => by rw [hno] at hn; cases hn⟩, rfl, hw⟩
abbrev intsO (o : Option (Nat × Nat)) (l : List Int) : Res := own o 3 1 (l.map fun n => [.int .i64 n])
theorem rread_spec (ws : List (List UInt8)) (k : Nat) (hk : k ≤ 1000) (a : Option Addr) (c : Nat) (w : World) (hs : SlAtM w No 1 a (ws.map strRow)) :
    Ret Tryd.prog 21 [.slice a ws.length c, .int .i64 (k : Nat)] w No (fun _ : Option (Nat × Nat) => True) (fun o => .tuple #[sv o (rdR ws k).1.length, .bool (rdR ws k).2]) (fun o => [intsO o (rdR ws k).1]) := by
  obtain ⟨bw, ow, ha, hrow⟩ := hs
  refine enter (A := St w No []) Tryd.func21 rfl Tryd.ntmps21 (Nat.le_of_ble_eq_true rfl) (St.start w No) ?_
  refine seq ?_
  refine region ?_
  refine vl rfl (asg trivial rfl) ?_
  refine vl rfl (asg trivial rfl) ?_
  refine nil ?_
  refine thenN ?_
  refine seq ?_
  refine seq ?_
  refine region ?_
  refine vl rfl (mv trivial rfl) ?_
  refine vl rfl (lenL trivial rfl Tryd.runUnderlying50) ?_
  refine vl rfl (mv trivial rfl) ?_
  refine vl rfl (neI trivial rfl rfl) ?_
  refine nil ?_
  refine thenN ?_
  refine cond rfl (fun h13 => ?_) (fun h13 => ?_)
  · skip
    refine seq ?_
    refine region ?_
    refine vl rfl (asg trivial rfl) ?_
    refine vl rfl (asg trivial rfl) ?_
    refine nil ?_
    refine thenN ?_
    refine ret ?_
    refine thenR ?_
    refine end2 Tryd.results21 rfl rfl (fun w' hw => ?_)
    have hne : ¬ ws.length = k := by have := of_decide_eq_false (by simpa using h13 : decide ((ws.length : Int) = (k : Int)) = false); omega
    have e : rdR ws k = ([], false) := if_neg hne
    rw [e]
    exact ⟨none, trivial, rfl, hw.nilOwn _ _⟩
  · have hk2 : ws.length = k := by have := of_decide_eq_true (by simpa using h13 : decide ((ws.length : Int) = (k : Int)) = true); omega
    refine skip ?_
    refine thenN ?_
    refine seq ?_
    refine region ?_
    refine vl rfl (asg trivial rfl) ?_
    refine nil ?_
    refine thenN ?_
    refine seq ?_
    refine seq ?_
    refine region ?_
    refine vl rfl (asg trivial rfl) ?_
    refine nil ?_
    refine thenN ?_
    refine block ?_
    refine loop (γ := Nat × Option (Nat × Nat) × List Int) (fun x => x.1 ≤ ws.length ∧ (ws.take x.1).mapM num = some x.2.2) (fun x => [(0, .slice a ws.length c), (6, sv x.2.1 x.2.2.length), (7, .int .i64 (x.1 : Nat))]) (fun x => St w No [intsO x.2.1 x.2.2]) (fun x => ws.length - x.1) (0, none, []) ⟨Nat.zero_le _, by simp⟩ ?_ (fun w hw => ?_) (fun x hx => ?_)
    · repeat' (first | exact trivial | (refine And.intro ?_ ?_) | rfl)
    · exact hw.nilOwn _ _
    obtain ⟨i, o, vs⟩ := x
    obtain ⟨hik, hm⟩ := hx
    dsimp only at hik hm ⊢
    have hvl : vs.length = i := by have := mapM_len hm; simp at this; omega
    refine seq ?_
    refine seq ?_
    refine region ?_
    refine vl rfl (mv trivial rfl) ?_
    refine vl rfl (mv trivial rfl) ?_
    refine vl rfl (lenL trivial rfl Tryd.runUnderlying50) ?_
    refine vl rfl (ltI trivial rfl rfl) ?_
    refine nil ?_
    refine thenN ?_
    refine cond rfl (fun h17 => ?_) (fun h17 => ?_)
    · have hi : i < ws.length := by have := of_decide_eq_true h17; omega
      obtain ⟨wd, hwd⟩ := getQ hi
      have hab := ha (map_ne hi)
      refine skip ?_
      refine thenN ?_
      refine seq ?_
      refine block ?_
      refine seq ?_
      refine region ?_
      refine vl rfl (mv trivial rfl) ?_
      refine vl rfl (mv trivial rfl) ?_
      refine vl rfl (ixA trivial sl_L_string rfl rfl rfl hi hab.1) ?_
      refine vl rfl (ld1 0 trivial Tryd.isAgg9 rfl (hasArg (hrow i _ (rowS hwd)) hab.2) rfl rfl) ?_
      refine callR0 rfl trivial rfl rfl Tryd.call34 rfl (fun w hw => number_spec wd w) (fun g25 h25 => ?_)
      refine vl rfl (mv trivial rfl) ?_
      refine vl rfl (extr trivial rfl rfl) ?_
      refine vl rfl (extr trivial rfl rfl) ?_
      refine vl rfl (asg trivial rfl) ?_
      refine vl rfl (asg trivial rfl) ?_
      refine nil ?_
      refine thenN ?_
      refine seq ?_
      refine seq ?_
      refine region ?_
      refine vl rfl (mv trivial rfl) ?_
      refine vl rfl (notB trivial rfl) ?_
      refine nil ?_
      refine thenN ?_
      refine cond rfl (fun h29 => ?_) (fun h29 => ?_)
      · skip
        refine seq ?_
        refine region ?_
        refine vl rfl (asg trivial rfl) ?_
        refine vl rfl (asg trivial rfl) ?_
        refine nil ?_
        refine thenN ?_
        refine ret ?_
        refine thenR (blkR (thenR (loopR (blkR (thenR ?_)))))
        refine end2 Tryd.results21 rfl rfl (fun w' hw => ?_)
        have hno : num wd = none := by
          have h1 : g25.2 = false := by simpa using h29
          have h2 := h25.is
          rw [h1] at h2
          cases hn : num wd with
          | none => rfl
          | some n => rw [hn] at h2; cases h2
        have e : rdR ws k = ([], false) := by simp [rdR, hk2, mapM_none hwd hno]
        rw [e]
        exact ⟨none, trivial, rfl, (hw.subl (List.nil_sublist _)).nilOwn _ _⟩
      · obtain ⟨n, hn⟩ : ∃ n, num wd = some n := by
          have h1 : g25.2 = true := by simpa using h29
          have h2 := h25.is
          rw [h1] at h2
          exact Option.isSome_iff_exists.1 h2.symm
        have hval := h25.val n hn
        rw [hval]
        refine skip ?_
        refine thenN ?_
        refine region ?_
        refine vl rfl (mv trivial rfl) ?_
        refine vl rfl (mv trivial rfl) ?_
        refine bsl (size := 1) _ rfl trivial rfl (by intro w; exact bs_L_int_1 ..) rfl (by simp) (by decide) (fun g32 hg32 => ?_)
        refine OpsJ.conv (fun _ => St.b1) ?_
        refine OpsJ.conv (fun _ => St.b1) ?_
        refine app1 rfl trivial sl_L_int rfl rfl (by simp) (by intro u hu; simp at hu; subst hu; rfl) (by omega) (by unfold maxLen; omega) (fun g33 cg33 => ?_)
        refine vl rfl (asg trivial rfl) ?_
        refine respell 6 (sv (some (g33, cg33)) (vs ++ [n]).length) rfl (by rw [List.length_append]; rfl) ?_
        refine nil ?_
        refine blkN ?_
        refine thenN ?_
        refine region ?_
        refine vl rfl (mv trivial rfl) ?_
        refine vl rfl (addI trivial rfl rfl (i64r (by omega))) ?_
        refine vl rfl (asg trivial rfl) ?_
        refine nil ?_
        refine loopN (i + 1, some (g33, cg33), vs ++ [n]) ⟨hi, mapM_take hwd hm hn⟩ (by show ws.length - (i + 1) < ws.length - i; omega) (by repeat' (first | exact trivial | (refine And.intro ?_ ?_) | rfl)) (fun w hw => ?_)
        simp only [intsO, List.map_append]
        exact hw
    · skip
      refine exit ?_
      refine thenX ?_
      refine loopX ?_
      refine blkX ?_
      refine thenN ?_
      refine seq ?_
      refine region ?_
      refine vl rfl (mv trivial rfl) ?_
      refine vl rfl (asg trivial rfl) ?_
      refine vl rfl (asg trivial rfl) ?_
      refine nil ?_
      refine thenN ?_
      refine ret ?_
      refine end2 Tryd.results21 rfl rfl (fun w' hw => ?_)
      have hil : i = ws.length := by have := of_decide_eq_false h17; omega
      have e : rdR ws k = (vs, true) := by
        rw [hil, List.take_length] at hm
        simp [rdR, hk2, hm]
      rw [e]
      exact ⟨o, trivial, rfl, hw⟩
end Go.Proofs.YtggofhbblidimaaDoor
