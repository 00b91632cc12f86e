/- Walks: the reference's texts of quads. -/
import Derived.Test.YtggofhbblidimaaDoorMeshC
import Derived.Test.YtggofhbblidimaaDoorTextB
namespace Go.Proofs.YtggofhbblidimaaDoor
open Go Go.RowKit Eng
open Go.Lib (itoa decDigits nDigits)
set_option maxRecDepth 4000
theorem tmod_nat (m : Nat) : (m : Int).tmod 10 = ((m % 10 : Nat) : Int) := by rw [Int.tmod_eq_emod_of_nonneg (by omega)]; omega
theorem tdiv_nat (m : Nat) : (m : Int).tdiv 10 = ((m / 10 : Nat) : Int) := by rw [Int.tdiv_eq_ediv_of_nonneg (by omega)]; omega
theorem decDigits_le {n : Nat} (h : n < 10000000000) : (decDigits n).length ≤ 10 := by
  rw [Lib.decDigits_length]
  exact nDigits_le (k := 9) (by omega)
theorem decNat_spec (n : Nat) (hn : n < 10000000000) (w : World) : Gives Tryd.prog 13 [.int .i64 (n : Nat)] w (str (itoa (n : Nat))) := by
  have hlen := decDigits_le hn
  refine enter (A := St w No []) Tryd.func13 rfl Tryd.ntmps13 (Nat.le_of_ble_eq_true rfl) (St.start w No) ?_
  refine seq ?_
  refine region ?_
  refine vl rfl (asg trivial rfl) ?_
  refine nil ?_
  refine thenN ?_
  refine seq ?_
  refine seq ?_
  refine region ?_
  refine vl rfl (mv trivial rfl) ?_
  refine vl rfl (ltI trivial rfl rfl) ?_
  refine nil ?_
  refine thenN ?_
  refine cond rfl (fun h5 => ?_) (fun h5 => ?_)
  · exact absurd (of_decide_eq_true h5) (by omega)
  · skip
    refine skip ?_
    refine thenN ?_
    refine seq ?_
    refine region ?_
    refine vl rfl (asg trivial rfl) ?_
    refine nil ?_
    refine thenN ?_
    refine block ?_
    refine loop (γ := Nat × List UInt8) (fun x => decDigits x.1 ++ x.2 = decDigits n ∧ x.1 < 10000000000) (fun x => [(0, .int .i64 (x.1 : Nat)), (3, str x.2)]) (fun x => St w No []) (fun x => x.1) (n, []) ⟨by simp, hn⟩ ?_ (fun w hw => ?_) (fun x hx => ?_)
    · repeat' (first | exact trivial | (refine And.intro ?_ ?_) | rfl)
    · exact hw
    obtain ⟨m, s⟩ := x
    obtain ⟨hx, hm⟩ := hx
    simp only at hx hm
    have hsl : s.length ≤ 10 := by have := congrArg List.length hx; simp only [List.length_append] at this; omega
    refine block ?_
    refine seq ?_
    refine region ?_
    refine vl rfl (mv trivial rfl) ?_
    refine vl rfl (remI trivial rfl rfl (by decide)) ?_
    refine respell 11 (.int .i64 ((m % 10 : Nat) : Int)) rfl (by rw [tmod_nat]) ?_
    refine vl rfl (addI trivial rfl rfl (i64r (by omega))) ?_
    refine vl rfl (cvI trivial rfl Tryd.runUnderlying2 Tryd.runUnderlying5 (u8r (by omega))) ?_
    refine respell 13 (.int .u8 ((dgt m).toNat : Nat)) rfl (by rw [dgt_toNat]; rfl) ?_
    refine bsl (size := 1) _ rfl trivial rfl (by intro w; exact bs_L_uint8_1 ..) rfl (by simp) (by decide) (fun g14 hg14 => ?_)
    refine vl rfl (cvB (l := [dgt m]) trivial rfl rfl Tryd.underlying36 Tryd.underlying5 Tryd.underlying9 m0) ?_
    refine vl rfl (mv trivial rfl) ?_
    refine vl rfl (addS trivial rfl rfl (by simp only [List.length_cons, List.length_nil]; omega)) ?_
    refine vl rfl (asg trivial rfl) ?_
    refine nil ?_
    refine thenN ?_
    refine seq ?_
    refine region ?_
    refine vl rfl (mv trivial rfl) ?_
    refine vl rfl (quoI trivial rfl rfl (by decide) (by rw [tdiv_nat]; exact i64r (by omega))) ?_
    refine respell 19 (.int .i64 ((m / 10 : Nat) : Int)) rfl (by rw [tdiv_nat]) ?_
    refine vl rfl (asg trivial rfl) ?_
    refine nil ?_
    refine thenN ?_
    refine seq ?_
    refine region ?_
    refine vl rfl (mv trivial rfl) ?_
    refine vl rfl (eqI trivial rfl rfl) ?_
    refine nil ?_
    refine thenN ?_
    refine cond rfl (fun h21 => ?_) (fun h21 => ?_)
    · skip
      refine seq ?_
      refine region ?_
      refine vl rfl (mv trivial rfl) ?_
      refine vl rfl (asg trivial rfl) ?_
      refine nil ?_
      refine thenN ?_
      refine ret ?_
      refine blkR (loopR (blkR ?_))
      refine end1 Tryd.results13 rfl (fun w' hw => ?_)
      have h0 : m / 10 = 0 := by have := of_decide_eq_true h21; omega
      rw [dec_last h0] at hx
      exact ⟨by rw [itoa_nat, ← hx], hw.drop1⟩
    · skip
      refine skip ?_
      refine blkN ?_
      refine loopN (m / 10, [dgt m] ++ s) ⟨by have h0 : m / 10 ≠ 0 := (by have := of_decide_eq_false h21; omega); rw [dec_more h0, List.append_assoc] at hx; exact hx, by show m / 10 < 10000000000; omega⟩ (by show m / 10 < m; have := of_decide_eq_false h21; omega) (by repeat' (first | exact trivial | (refine And.intro ?_ ?_) | rfl)) (fun w hw => ?_)
      exact hw.drop1
theorem decimal_spec (n : Int) (hn : -10000000000 < n ∧ n < 10000000000) (w : World) : Gives Tryd.prog 13 [.int .i64 n] w (str (itoa n)) := by
  by_cases h : n < 0
  · have e : -n = ((-n).toNat : Int) := by omega
    have hl := itoa_length (n := -n) (by omega)
    refine enter (A := St w No []) Tryd.func13 rfl Tryd.ntmps13 (Nat.le_of_ble_eq_true rfl) (St.start w No) ?_
    refine seq ?_
    refine region ?_
    refine vl rfl (asg trivial rfl) ?_
    refine nil ?_
    refine thenN ?_
    refine seq ?_
    refine seq ?_
    refine region ?_
    refine vl rfl (mv trivial rfl) ?_
    refine vl rfl (ltI trivial rfl rfl) ?_
    refine nil ?_
    refine thenN ?_
    refine cond rfl (fun h5 => ?_) (fun h5 => ?_)
    · skip
      refine seq ?_
      refine region ?_
      refine vl rfl (mv trivial rfl) ?_
      refine vl rfl (negI trivial rfl (i64r (by omega))) ?_
      refine respell 7 (.int .i64 ((-n).toNat : Nat)) rfl (by rw [← e]) ?_
      refine callG rfl trivial rfl rfl Tryd.call13 rfl (fun w hw => decNat_spec _ (by omega) w) ?_
      refine vl rfl (addS trivial rfl rfl (by rw [← e]; simp only [List.length_cons, List.length_nil]; omega)) ?_
      refine vl rfl (asg trivial rfl) ?_
      refine nil ?_
      refine thenN ?_
      refine ret ?_
      refine thenR ?_
      refine end1 Tryd.results13 rfl (fun w' hw => ?_)
      exact ⟨by rw [itoa_neg h, ← e]; rfl, hw⟩
    · exact absurd h (of_decide_eq_false h5)
  · have e : n = (n.toNat : Int) := by omega
    rw [e]
    exact decNat_spec n.toNat (by omega) w
theorem six_spec (x y z x' y' z' : Int) (w : World) : Ret Tryd.prog 15 [vec x y z, vec x' y' z'] w No (fun _ : Nat => True) (fun g => sv (some (g, 6)) 6) (fun g => [intsR g 6 [x, y, z, x', y', z']]) := by
  refine enter (A := St w No []) Tryd.func15 rfl Tryd.ntmps15 (Nat.le_of_ble_eq_true rfl) (St.start w No) ?_
  refine seq ?_
  refine region ?_
  refine bx _ rfl trivial rfl rfl (fun b2 hb2 => ?_)
  refine bx _ rfl trivial rfl rfl (fun b3 hb3 => ?_)
  refine vl rfl (asg trivial rfl) ?_
  refine nil ?_
  refine thenN ?_
  refine seq ?_
  refine region ?_
  refine vl rfl (fad trivial fa_api_Vec_0 rfl) ?_
  refine vl rfl (ld1 0 trivial Tryd.isAgg3 rfl (hasBlk m1) rfl rfl) ?_
  refine vl rfl (fad trivial fa_api_Vec_1 rfl) ?_
  refine vl rfl (ld1 1 trivial Tryd.isAgg3 rfl (hasBlk m1) rfl rfl) ?_
  refine vl rfl (fad trivial fa_api_Vec_2 rfl) ?_
  refine vl rfl (ld1 2 trivial Tryd.isAgg3 rfl (hasBlk m1) rfl rfl) ?_
  refine vl rfl (fad trivial fa_api_Vec_0 rfl) ?_
  refine vl rfl (ld1 0 trivial Tryd.isAgg3 rfl (hasBlk m0) rfl rfl) ?_
  refine vl rfl (fad trivial fa_api_Vec_1 rfl) ?_
  refine vl rfl (ld1 1 trivial Tryd.isAgg3 rfl (hasBlk m0) rfl rfl) ?_
  refine vl rfl (fad trivial fa_api_Vec_2 rfl) ?_
  refine vl rfl (ld1 2 trivial Tryd.isAgg3 rfl (hasBlk m0) rfl rfl) ?_
  refine bsl (size := 1) _ rfl trivial rfl (by intro w; exact bs_L_int_6 ..) rfl (by simp) (by decide) (fun g17 hg17 => ?_)
  refine vl rfl (asg trivial rfl) ?_
  refine nil ?_
  refine thenN ?_
  refine ret ?_
  refine end1 Tryd.results15 rfl (fun w' hw => ?_)
  exact ⟨g17, trivial, rfl, hw.subl (.cons_cons _ (List.nil_sublist _))⟩
theorem numbers_spec (l : List Int) (hl : ∀ n ∈ l, -10000000 ≤ n ∧ n ≤ 10000000) (hn : l.length ≤ 1000) (g c : Nat) (w : World) (h : Own w [intsR g c l]) :
    Ret Tryd.prog 14 [sv (some (g, c)) l.length] w (fpOf [intsR g c l]) (fun _ : Unit => True) (fun _ => str (blanks l ++ [10])) (fun _ => []) := by
  refine enter (A := St w (fpOf [intsR g c l]) [intsR g c l]) Tryd.func14 rfl Tryd.ntmps14 (Nat.le_of_ble_eq_true rfl) h ?_
  refine seq ?_
  refine region ?_
  refine vl rfl (asg trivial rfl) ?_
  refine nil ?_
  refine thenN ?_
  refine seq ?_
  refine region ?_
  refine vl rfl (asg trivial rfl) ?_
  refine nil ?_
  refine thenN ?_
  refine seq ?_
  refine seq ?_
  refine region ?_
  refine vl rfl (asg trivial rfl) ?_
  refine nil ?_
  refine thenN ?_
  refine block ?_
  refine loop (γ := Nat) (fun x => x ≤ l.length) (fun x => [(0, sv (some (g, c)) l.length), (4, .int .i64 (x : Nat)), (3, str (blanks (l.take x)))]) (fun x => St w (fpOf [intsR g c l]) [intsR g c l]) (fun x => l.length - x) 0 (Nat.zero_le _) ?_ (fun w hw => ?_) (fun x hx => ?_)
  · repeat' (first | exact trivial | (refine And.intro ?_ ?_) | rfl)
  · exact hw
  refine seq ?_
  refine seq ?_
  refine region ?_
  refine vl rfl (mv trivial rfl) ?_
  refine vl rfl (mv trivial rfl) ?_
  refine vl rfl (lenO trivial rfl (by simp) m0 Tryd.runUnderlying48) ?_
  refine vl rfl (ltI trivial rfl rfl) ?_
  refine nil ?_
  refine thenN ?_
  refine cond rfl (fun h8 => ?_) (fun h8 => ?_)
  · have hi : x < l.length := by simpa using h8
    obtain ⟨n, hn1⟩ := getQ hi
    have hnb := hl n (List.mem_of_getElem? hn1)
    have hb1 := blanks_le (l.take x) (fun m hm => hl m (List.mem_of_mem_take hm))
    have hb2 : (l.take x).length = x := by simp; omega
    have hb3 := itoa_length (n := n) (by omega)
    refine skip ?_
    refine thenN ?_
    refine seq ?_
    refine block ?_
    refine region ?_
    refine vl rfl (mv trivial rfl) ?_
    refine vl rfl (addS trivial rfl rfl (by simp only [List.length_cons, List.length_nil]; omega)) ?_
    refine vl rfl (mv trivial rfl) ?_
    refine vl rfl (mv trivial rfl) ?_
    refine vl rfl (ixO trivial sl_L_int rfl rfl rfl hi) ?_
    refine vl rfl (ld1 0 trivial Tryd.isAgg3 rfl (hasOwn m0 (rowI hn1)) rfl rfl) ?_
    refine callG rfl trivial rfl rfl Tryd.call13 rfl (fun w hw => decimal_spec n (by omega) w) ?_
    refine vl rfl (addS trivial rfl rfl (by simp only [List.length_append, List.length_cons, List.length_nil]; omega)) ?_
    refine respell 18 (str (blanks (l.take (x + 1)))) rfl (by rw [blanks_take hn1]; simp) ?_
    refine vl rfl (asg trivial rfl) ?_
    refine nil ?_
    refine blkN ?_
    refine thenN ?_
    refine region ?_
    refine vl rfl (mv trivial rfl) ?_
    refine vl rfl (addI trivial rfl rfl (i64r (by omega))) ?_
    refine vl rfl (asg trivial rfl) ?_
    refine nil ?_
    refine loopN (x + 1) hi (by omega) (by repeat' (first | exact trivial | (refine And.intro ?_ ?_) | rfl)) (fun w hw => ?_)
    exact hw
  · have hx1 : x = l.length := by have := of_decide_eq_false h8; omega
    have hb1 := blanks_le (l.take x) (fun m hm => hl m (List.mem_of_mem_take hm))
    have hb2 : (l.take x).length = x := by simp; omega
    refine exit ?_
    refine thenX ?_
    refine loopX ?_
    refine blkX ?_
    refine thenN ?_
    refine seq ?_
    refine region ?_
    refine vl rfl (mv trivial rfl) ?_
    refine vl rfl (addS trivial rfl rfl (by simp only [List.length_cons, List.length_nil]; omega)) ?_
    refine vl rfl (asg trivial rfl) ?_
    refine nil ?_
    refine thenN ?_
    refine ret ?_
    refine end1 Tryd.results14 rfl (fun w' hw => ?_)
    rw [hx1, List.take_length]
    exact ⟨(), trivial, rfl, hw.drop1⟩
theorem rqline (q : Qd) : qline q = ([113, 117, 97, 100, 32] ++ itoa q.d) ++ (blanks [q.x0, q.y0, q.z0, q.x1, q.y1, q.z1] ++ [10]) := by
  simp [qline, lineL, quadS, Qd.nums, blanks]
theorem rmeshText_spec (l : List Qd) (h0 : ∀ q ∈ l, 0 ≤ q.d) (a : Option Addr) (c : Nat) (w : World) (hs : SlAt w 7 a (l.map Qd.row)) :
    Gives Tryd.prog 5 [.slice a l.length c] w (.tuple #[str (mt l).1, .int .i64 (mt l).2]) := by
  have hs2 := hs
  obtain ⟨b, o, ha, hrow⟩ := hs
  refine enter (A := St w No []) Tryd.func5 rfl Tryd.ntmps5 (Nat.le_of_ble_eq_true rfl) (St.start w No) ?_
  refine seq ?_
  refine region ?_
  refine vl rfl (asg trivial rfl) ?_
  refine vl rfl (asg trivial rfl) ?_
  refine nil ?_
  refine thenN ?_
  refine seq ?_
  refine seq ?_
  refine region ?_
  refine vl rfl (mv trivial rfl) ?_
  refine callG rfl trivial rfl rfl Tryd.call12 rfl (fun w hw => rcheck_spec l h0 a c w (hs2.st hw)) ?_
  refine vl rfl (neI trivial rfl rfl) ?_
  refine nil ?_
  refine thenN ?_
  refine cond rfl (fun h8 => ?_) (fun h8 => ?_)
  · skip
    refine seq ?_
    refine region ?_
    refine vl rfl (mv trivial rfl) ?_
    refine callG rfl trivial rfl rfl Tryd.call12 rfl (fun w hw => rcheck_spec l h0 a c w (hs2.st hw)) ?_
    refine vl rfl (asg trivial rfl) ?_
    refine vl rfl (asg trivial rfl) ?_
    refine nil ?_
    refine thenN ?_
    refine ret ?_
    refine thenR ?_
    refine end2 Tryd.results5 rfl rfl (fun w' hw => ?_)
    have hc : ¬ chk l = 0 := by simpa using h8
    exact ⟨by simp [mt, hc], hw⟩
  · have hc : chk l = 0 := by simpa using h8
    obtain ⟨hn3, hok⟩ := chk_all hc
    have hq : ∀ q ∈ l, q.Ok := fun q hq => okQ_ok (h0 q hq) (hok q hq)
    refine skip ?_
    refine thenN ?_
    refine seq ?_
    refine region ?_
    refine vl rfl (asg trivial rfl) ?_
    refine nil ?_
    refine thenN ?_
    refine seq ?_
    refine seq ?_
    refine region ?_
    refine vl rfl (asg trivial rfl) ?_
    refine nil ?_
    refine thenN ?_
    refine block ?_
    refine loop (γ := Nat) (fun x => x ≤ l.length) (fun x => [(0, .slice a l.length c), (5, .int .i64 (x : Nat)), (4, str (txt (l.take x)))]) (fun x => St w No []) (fun x => l.length - x) 0 (Nat.zero_le _) ?_ (fun w hw => ?_) (fun x hx => ?_)
    · repeat' (first | exact trivial | (refine And.intro ?_ ?_) | rfl)
    · exact hw
    refine seq ?_
    refine seq ?_
    refine region ?_
    refine vl rfl (mv trivial rfl) ?_
    refine vl rfl (mv trivial rfl) ?_
    refine vl rfl (lenL trivial rfl Tryd.runUnderlying22) ?_
    refine vl rfl (ltI trivial rfl rfl) ?_
    refine nil ?_
    refine thenN ?_
    refine cond rfl (fun h14 => ?_) (fun h14 => ?_)
    · have hi : x < l.length := by simpa using h14
      obtain ⟨q, hq1⟩ := getQ hi
      have hqo := hq q (List.mem_of_getElem? hq1)
      have hst := txt_step hq1 hq hn3
      have hqd := hqo.d0
      have hqd5 := hqo.d5
      have hrw := hasArg (L := []) (hrow x _ (rowQ hq1)) (fun h : No b => h)
      refine skip ?_
      refine thenN ?_
      refine seq ?_
      refine block ?_
      refine regionE (li := #[false, false, false, false, false, false, false, false, false, false, false, false, false, false, false, false, false, false, false, false, false, false, false, false]) mixed rfl rfl ?_
      refine takeV (li' := #[true, false, false, false, false, false, false, false, false, false, false, false, false, false, false, false, false, false, false, false, false, false, false, false]) 0 rfl (by kernel_rfl) (by kernel_rfl) (fun _ h => h) rfl (mv trivial rfl) ?_
      refine takeV (li' := #[true, true, false, false, false, false, false, false, false, false, false, false, false, false, false, false, false, false, false, false, false, false, false, false]) 1 rfl (by kernel_rfl) (by kernel_rfl) (fun _ h => h) rfl (addS trivial rfl rfl (by simp only [List.length_cons, List.length_nil]; omega)) ?_
      refine takeV (li' := #[true, true, true, false, false, false, false, false, false, false, false, false, false, false, false, false, false, false, false, false, false, false, false, false]) 2 rfl (by kernel_rfl) (by kernel_rfl) (fun _ h => h) rfl (mv trivial rfl) ?_
      refine takeV (li' := #[true, true, true, true, false, false, false, false, false, false, false, false, false, false, false, false, false, false, false, false, false, false, false, false]) 3 rfl (by kernel_rfl) (by kernel_rfl) (fun _ h => h) rfl (mv trivial rfl) ?_
      refine takeV (li' := #[true, true, true, true, true, false, false, false, false, false, false, false, false, false, false, false, false, false, false, false, false, false, false, false]) 4 rfl (by kernel_rfl) (by kernel_rfl) (fun _ h => h) rfl (ixA trivial sl_L_api_Quad rfl rfl rfl hi (ha (map_ne hi))) ?_
      refine takeV (li' := #[true, true, true, true, true, true, false, false, false, false, false, false, false, false, false, false, false, false, false, false, false, false, false, false]) 5 rfl (by kernel_rfl) (by kernel_rfl) (fun _ h => h) rfl (fad trivial fa_api_Quad_0 rfl) ?_
      refine takeV (li' := #[true, true, true, true, true, true, true, false, false, false, false, false, false, false, false, false, false, false, false, false, false, false, false, false]) 6 rfl (by kernel_rfl) (by kernel_rfl) (fun _ h => h) rfl (ld1 0 trivial Tryd.isAgg5 rfl hrw rfl rfl) ?_
      refine takeV (li' := #[true, true, true, true, true, true, true, true, false, false, false, false, false, false, false, false, false, false, false, false, false, false, false, false]) 7 rfl (by kernel_rfl) (by kernel_rfl) (fun _ h => h) rfl (cvI trivial rfl Tryd.runUnderlying5 Tryd.runUnderlying2 (i64r (by omega))) ?_
      refine takeV (li' := #[true, true, true, true, true, true, true, true, false, false, true, false, false, false, false, false, false, false, false, false, false, false, false, false]) 10 rfl (by kernel_rfl) (by kernel_rfl) (fun _ h => h) rfl (mv trivial rfl) ?_
      refine takeV (li' := #[true, true, true, true, true, true, true, true, false, false, true, true, false, false, false, false, false, false, false, false, false, false, false, false]) 11 rfl (by kernel_rfl) (by kernel_rfl) (fun _ h => h) rfl (mv trivial rfl) ?_
      refine takeV (li' := #[true, true, true, true, true, true, true, true, false, false, true, true, true, false, false, false, false, false, false, false, false, false, false, false]) 12 rfl (by kernel_rfl) (by kernel_rfl) (fun _ h => h) rfl (ixA trivial sl_L_api_Quad rfl rfl rfl hi (ha (map_ne hi))) ?_
      refine takeV (li' := #[true, true, true, true, true, true, true, true, false, false, true, true, true, true, false, false, false, false, false, false, false, false, false, false]) 13 rfl (by kernel_rfl) (by kernel_rfl) (fun _ h => h) rfl (fad trivial fa_api_Quad_1 rfl) ?_
      refine takeV (li' := #[true, true, true, true, true, true, true, true, false, false, true, true, true, true, true, false, false, false, false, false, false, false, false, false]) 14 rfl (by kernel_rfl) (by kernel_rfl) (fun _ h => h) rfl (ld3 1 trivial Tryd.isAgg40 Tryd.sizeOf40 rfl hrw rfl rfl) ?_
      refine takeV (li' := #[true, true, true, true, true, true, true, true, false, false, true, true, true, true, true, true, false, false, false, false, false, false, false, false]) 15 rfl (by kernel_rfl) (by kernel_rfl) (fun _ h => h) rfl (mv trivial rfl) ?_
      refine takeV (li' := #[true, true, true, true, true, true, true, true, false, false, true, true, true, true, true, true, true, false, false, false, false, false, false, false]) 16 rfl (by kernel_rfl) (by kernel_rfl) (fun _ h => h) rfl (mv trivial rfl) ?_
      refine takeV (li' := #[true, true, true, true, true, true, true, true, false, false, true, true, true, true, true, true, true, true, false, false, false, false, false, false]) 17 rfl (by kernel_rfl) (by kernel_rfl) (fun _ h => h) rfl (ixA trivial sl_L_api_Quad rfl rfl rfl hi (ha (map_ne hi))) ?_
      refine takeV (li' := #[true, true, true, true, true, true, true, true, false, false, true, true, true, true, true, true, true, true, true, false, false, false, false, false]) 18 rfl (by kernel_rfl) (by kernel_rfl) (fun _ h => h) rfl (fad trivial fa_api_Quad_2 rfl) ?_
      refine takeV (li' := #[true, true, true, true, true, true, true, true, false, false, true, true, true, true, true, true, true, true, true, true, false, false, false, false]) 19 rfl (by kernel_rfl) (by kernel_rfl) (fun _ h => h) rfl (ld3 4 trivial Tryd.isAgg40 Tryd.sizeOf40 rfl hrw rfl rfl) ?_
      refine stepD (i := 8) (li' := #[true, true, true, true, true, true, true, true, true, false, true, true, true, true, true, true, true, true, true, true, false, false, false, false]) (by kernel_rfl) rfl (by kernel_rfl) ?_
      refine callG rfl trivial rfl rfl Tryd.call13 rfl (fun w hw => decimal_spec q.d (by omega) w) ?_
      refine nil ?_
      refine nxD (fun _ h => h) ?_
      have hd11 := itoa_length (n := q.d) (by omega)
      refine takeV (li' := #[true, true, true, true, true, true, true, true, true, true, true, true, true, true, true, true, true, true, true, true, false, false, false, false]) 9 rfl (by kernel_rfl) (by kernel_rfl) (fun _ h => h) rfl (addS trivial rfl rfl (by simp only [List.length_append, List.length_cons, List.length_nil]; omega)) ?_
      refine stepD (i := 20) (li' := #[true, true, true, true, true, true, true, true, true, true, true, true, true, true, true, true, true, true, true, true, true, false, false, false]) (by kernel_rfl) rfl (by kernel_rfl) ?_
      refine callR1 rfl trivial rfl rfl Tryd.call15 rfl (fun w hw => six_spec _ _ _ _ _ _ w) (fun g37 h37 => ?_)
      refine nil ?_
      refine nxD (fun _ h => h.drop1) ?_
      refine stepD (i := 21) (li' := #[true, true, true, true, true, true, true, true, true, true, true, true, true, true, true, true, true, true, true, true, true, true, false, false]) (by kernel_rfl) rfl (by kernel_rfl) ?_
      refine callM0 rfl trivial rfl rfl Tryd.call14 rfl (fun w hw => numbers_spec [q.x0, q.y0, q.z0, q.x1, q.y1, q.z1] (fun n hn => hqo.nums n (List.mem_cons_of_mem _ hn)) (by simp) g37 6 w hw.own1) (fun g38 h38 => ?_)
      refine nil ?_
      refine nxD (fun _ h => h) ?_
      refine takeV (li' := #[true, true, true, true, true, true, true, true, true, true, true, true, true, true, true, true, true, true, true, true, true, true, true, false]) 22 rfl (by kernel_rfl) (by kernel_rfl) (fun _ h => h) rfl (addS trivial rfl rfl (by have hb := blanks_le [q.x0, q.y0, q.z0, q.x1, q.y1, q.z1] (fun n hn => hqo.nums n (List.mem_cons_of_mem _ hn)); simp only [List.length_append, List.length_cons, List.length_nil] at hb ⊢; omega)) ?_
      refine respellD 39 (str (txt (l.take (x + 1)))) rfl (by rw [txt_take hq1, rqline]; simp) ?_
      refine takeV (li' := #[true, true, true, true, true, true, true, true, true, true, true, true, true, true, true, true, true, true, true, true, true, true, true, true]) 23 rfl (by kernel_rfl) (by kernel_rfl) (fun _ h => h) rfl (asg trivial rfl) ?_
      refine doneD (by kernel_rfl) ?_
      refine blkN ?_
      refine thenN ?_
      refine region ?_
      refine vl rfl (mv trivial rfl) ?_
      refine vl rfl (addI trivial rfl rfl (i64r (by omega))) ?_
      refine vl rfl (asg trivial rfl) ?_
      refine nil ?_
      refine loopN (x + 1) hi (by omega) (by repeat' (first | exact trivial | (refine And.intro ?_ ?_) | rfl)) (fun w hw => ?_)
      exact hw
    · have hx : x = l.length := by have := of_decide_eq_false h14; omega
      refine exit ?_
      refine thenX ?_
      refine loopX ?_
      refine blkX ?_
      refine thenN ?_
      refine seq ?_
      refine seq ?_
      refine region ?_
      refine vl rfl (mv trivial rfl) ?_
      refine vl rfl (lenS trivial rfl Tryd.runUnderlying9) ?_
      refine vl rfl (gtI trivial rfl rfl) ?_
      refine nil ?_
      refine thenN ?_
      refine cond rfl (fun h42 => ?_) (fun h42 => ?_)
      · skip
        refine seq ?_
        refine region ?_
        refine vl rfl (asg trivial rfl) ?_
        refine vl rfl (asg trivial rfl) ?_
        refine nil ?_
        refine thenN ?_
        refine ret ?_
        refine thenR ?_
        rw [hx, List.take_length] at h42
        refine end2 Tryd.results5 rfl rfl (fun w' hw => ?_)
        have h6 : 60000 < (txt l).length := by have := of_decide_eq_true h42; omega
        exact ⟨by simp [mt, hc, wr, h6], hw⟩
      · skip
        refine skip ?_
        refine thenN ?_
        refine seq ?_
        refine region ?_
        refine vl rfl (mv trivial rfl) ?_
        refine vl rfl (asg trivial rfl) ?_
        refine vl rfl (asg trivial rfl) ?_
        refine nil ?_
        refine thenN ?_
        refine ret ?_
        rw [hx, List.take_length] at h42
        rw [hx, List.take_length]
        refine end2 Tryd.results5 rfl rfl (fun w' hw => ?_)
        have h6 : ¬ 60000 < (txt l).length := by have := of_decide_eq_false h42; omega
        exact ⟨by simp [mt, hc, wr, h6], hw⟩
end Go.Proofs.YtggofhbblidimaaDoor
