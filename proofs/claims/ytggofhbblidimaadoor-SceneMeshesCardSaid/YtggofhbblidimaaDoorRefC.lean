/- Walks: the reference's ParseMesh. -/
import Derived.Test.YtggofhbblidimaaDoorRefB
namespace Go.Proofs.YtggofhbblidimaaDoor
open Go Go.RowKit Eng
open Go.Lib (itoa decDigits nDigits)
set_option maxRecDepth 4000
theorem rcheck_own {w0 w : World} {M : Nat → Prop} {L : List Res} {o : Option (Nat × Nat)} {l : List Qd} (h0 : ∀ q ∈ l, 0 ≤ q.d) (hw : St w0 M L w) (hm : own o 42 7 (l.map Qd.row) ∈ L) :
    Gives Tryd.prog 12 [sv o l.length] w (.int .i64 (chk l)) := by
  obtain ⟨a, c, h1, h2⟩ := own_slAt (n := l.length) hw hm (by simp)
  rw [h1]
  exact rcheck_spec l h0 a c w h2
theorem part3 {w0 w : World} {M : Nat → Prop} {L : List Res} {g c : Nat} {w0' : List UInt8} {wr : List (List UInt8)} (hw : St w0 M L w) (hm : wordsR (some (g, c)) (w0' :: wr) ∈ L) :
    SlAtM w No 1 (if c = 1 then some ⟨g, 0, none⟩ else (some ⟨g, 0, none⟩ : Option Addr).map (·.add (1 * 1))) (wr.map strRow) := by
  obtain ⟨a, c', h1, h2, h3⟩ := own_slAtM (L0 := []) hw hm rfl
  simp only [sv, Value.slice.injEq] at h1
  obtain ⟨rfl, _, rfl⟩ := h1
  have := h3.rest (lo := 1) (c := c) (by simp) (by simpa using h2)
  obtain ⟨b, o, ha, hr⟩ := this
  exact ⟨b, o, fun hne => ⟨(ha hne).1, fun h => h⟩, by simpa using hr⟩
theorem rparseMesh_spec (s : List UInt8) (hs : s.length < 1000000) (v : World) :
    Ret Tryd.prog 7 [str s] v No (fun _ : Option (Nat × Nat) => True) (fun o => .tuple #[sv o (pm s).1.length, .int .i64 (pm s).2]) (fun o => [own o 42 7 ((pm s).1.map Qd.row)]) := by
  have hcl := cutL_lt (c := 10) s
  have hcp : 0 < (cutL 10 s).length := List.length_pos_iff.2 (cutL_ne 10 s)
  refine enter (A := St v No []) Tryd.func7 rfl Tryd.ntmps7 (Nat.le_of_ble_eq_true rfl) (St.start v No) ?_
  refine seq ?_
  refine region ?_
  refine vl rfl (asg trivial rfl) ?_
  refine vl rfl (asg trivial rfl) ?_
  refine nil ?_
  refine thenN ?_
  refine seq ?_
  refine seq ?_
  refine region ?_
  refine vl rfl (mv trivial rfl) ?_
  refine vl rfl (lenS trivial rfl Tryd.runUnderlying9) ?_
  refine vl rfl (gtI trivial rfl rfl) ?_
  refine nil ?_
  refine thenN ?_
  refine cond rfl (fun h12 => ?_) (fun h12 => ?_)
  · skip
    refine seq ?_
    refine region ?_
    refine vl rfl (asg trivial rfl) ?_
    refine vl rfl (asg trivial rfl) ?_
    refine nil ?_
    refine thenN ?_
    refine ret ?_
    refine thenR ?_
    refine end2 Tryd.results7 rfl rfl (fun w' hw => ?_)
    have h : pm s = ([], 4) := pm_many (by have := of_decide_eq_true h12; omega)
    rw [h]
    exact ⟨none, trivial, rfl, hw.nilOwn _ _⟩
  · have h60 : ¬ 60000 < s.length := by have := of_decide_eq_false h12; omega
    refine skip ?_
    refine thenN ?_
    refine seq ?_
    refine region ?_
    refine vl rfl (mv trivial rfl) ?_
    refine callR1 rfl trivial rfl rfl Tryd.call20 rfl (fun w hw => cut_spec s 10 hs w) (fun g14 h14 => ?_)
    refine OpsJ.lies (n := (cutL 10 s).length) m0 (by simp) hcp (fun gl cl hgl => ?_)
    subst hgl
    obtain ⟨z, hz⟩ := getQ (i := (cutL 10 s).length - 1) (by omega : (cutL 10 s).length - 1 < (cutL 10 s).length)
    refine vl rfl (asg trivial rfl) ?_
    refine nil ?_
    refine thenN ?_
    refine seq ?_
    refine seq ?_
    refine region ?_
    refine vl rfl (mv trivial rfl) ?_
    refine vl rfl (mv trivial rfl) ?_
    refine vl rfl (lenO trivial rfl (by simp) m0 Tryd.runUnderlying50) ?_
    refine vl rfl (subI trivial rfl rfl (i64r (by omega))) ?_
    refine vl rfl (ixO trivial sl_L_string rfl rfl (i := (cutL 10 s).length - 1) (by omega) (by omega)) ?_
    refine vl rfl (ld1 0 trivial Tryd.isAgg9 rfl (hasOwn m0 (rowS hz)) rfl rfl) ?_
    refine vl rfl (neS trivial rfl rfl) ?_
    refine nil ?_
    refine thenN ?_
    refine cond rfl (fun h21 => ?_) (fun h21 => ?_)
    · skip
      refine seq ?_
      refine region ?_
      refine vl rfl (asg trivial rfl) ?_
      refine vl rfl (asg trivial rfl) ?_
      refine nil ?_
      refine thenN ?_
      refine ret ?_
      refine thenR ?_
      refine end2 Tryd.results7 rfl rfl (fun w' hw => ?_)
      have h2 : (linesL s).2 = false := by
        have hz2 : z ≠ [] := by simpa using h21
        cases hl : (linesL s).2 with
        | false => rfl
        | true =>
          have := (lines_last s).2 hl
          rw [List.getLast?_eq_getElem?, hz] at this
          injection this with this
          exact absurd this hz2
      rw [pm_end h60 h2]
      exact ⟨none, trivial, rfl, hw.drop1.nilOwn _ _⟩
    · have h2 : (linesL s).2 = true := by
        have hz2 : z = [] := by simpa using h21
        refine (lines_last s).1 ?_
        rw [List.getLast?_eq_getElem?, hz, hz2]
      have hcut := lines_cut s h2
      have hlen : (cutL 10 s).length = (linesL s).1.length + 1 := by rw [hcut]; simp
      refine skip ?_
      refine thenN ?_
      refine seq ?_
      refine region ?_
      refine vl rfl (asg trivial rfl) ?_
      refine nil ?_
      refine thenN ?_
      refine seq ?_
      refine seq ?_
      refine region ?_
      refine vl rfl (asg trivial rfl) ?_
      refine nil ?_
      refine thenN ?_
      refine block ?_
      refine loop (γ := Nat × Option (Nat × Nat) × List Qd) (fun x => x.1 ≤ (linesL s).1.length ∧ ((linesL s).1.take x.1).mapM pquad = some x.2.2) (fun x => [(4, sv (some (gl, cl)) (cutL 10 s).length), (5, sv x.2.1 x.2.2.length), (6, .int .i64 (x.1 : Nat))]) (fun x => St v No [own x.2.1 42 7 (x.2.2.map Qd.row), wordsR (some (gl, cl)) (cutL 10 s)]) (fun x => (linesL s).1.length - x.1) (0, none, []) ⟨Nat.zero_le _, by simp⟩ ?_ (fun w hw => ?_) (fun x hx => ?_)
      · repeat' (first | exact trivial | (refine And.intro ?_ ?_) | rfl)
      · exact hw.nilOwn _ _
      obtain ⟨i, o, l⟩ := x
      obtain ⟨hik, hm⟩ := hx
      dsimp only at hik hm ⊢
      have hll : l.length = i := by have := mapM_len hm; simp at this; omega
      refine seq ?_
      refine seq ?_
      refine region ?_
      refine vl rfl (mv trivial rfl) ?_
      refine vl rfl (addI trivial rfl rfl (i64r (by omega))) ?_
      refine vl rfl (mv trivial rfl) ?_
      refine vl rfl (lenO trivial rfl (by simp) m1 Tryd.runUnderlying50) ?_
      refine vl rfl (ltI trivial rfl rfl) ?_
      refine nil ?_
      refine thenN ?_
      refine cond rfl (fun h26 => ?_) (fun h26 => ?_)
      · have hi : i < (linesL s).1.length := by have := of_decide_eq_true h26; omega
        obtain ⟨x, hx⟩ := getQ hi
        have hx2 : (cutL 10 s)[i]? = some x := by rw [hcut, List.getElem?_append_left hi]; exact hx
        have hxl : x.length ≤ s.length := cutL_mem _ _ (List.mem_of_getElem? hx2)
        obtain ⟨w0, wt, hcut2⟩ := List.exists_cons_of_ne_nil (cutL_ne 32 x)
        refine skip ?_
        refine thenN ?_
        refine seq ?_
        refine block ?_
        refine seq ?_
        refine region ?_
        refine vl rfl (mv trivial rfl) ?_
        refine vl rfl (mv trivial rfl) ?_
        refine vl rfl (ixO trivial sl_L_string rfl rfl rfl (by omega)) ?_
        refine vl rfl (ld1 0 trivial Tryd.isAgg9 rfl (hasOwn m1 (rowS hx2)) rfl rfl) ?_
        refine callR1 rfl trivial rfl rfl Tryd.call20 rfl (fun w hw => cut_spec x 32 (by omega) w) (fun g33 h33 => ?_)
        refine OpsJ.lies (n := (cutL 32 x).length) m0 (by simp) (List.length_pos_iff.2 (cutL_ne 32 x)) (fun gw cw hgw => ?_)
        subst hgw
        rw [hcut2]
        refine vl rfl (asg trivial rfl) ?_
        refine nil ?_
        refine thenN ?_
        refine seq ?_
        refine region ?_
        refine vl rfl (mv trivial rfl) ?_
        refine vl rfl (sl1 (lo := 1) trivial sl_L_string rfl rfl rfl (by simp)) ?_
        refine callR1 rfl trivial rfl rfl Tryd.call21 rfl (fun w hw => rread_spec wt 7 (by omega) _ _ w (part3 hw m0)) (fun g37 h37 => ?_)
        refine vl rfl (mv trivial rfl) ?_
        refine vl rfl (extr trivial rfl rfl) ?_
        refine vl rfl (extr trivial rfl rfl) ?_
        refine vl rfl (asg trivial rfl) ?_
        refine vl rfl (asg trivial rfl) ?_
        refine nil ?_
        refine thenN ?_
        refine seq ?_
        refine seq ?_
        refine region ?_
        refine vl rfl (mv trivial rfl) ?_
        refine vl rfl (ixO (i := 0) trivial sl_L_string rfl rfl rfl (by simp)) ?_
        refine vl rfl (ld1 0 trivial Tryd.isAgg9 rfl (hasOwn m1 (rowS (i := 0) (w := w0) rfl)) rfl rfl) ?_
        refine vl rfl (neS trivial rfl rfl) ?_
        refine vl rfl (mv trivial rfl) ?_
        refine splitB 44 rfl (fun h44 => ?_) (fun h44 => ?_)
        · have hbad : pquad x = none := pq_first hcut2 (by simpa [quadS] using h44)
          refine vl rfl (skF rfl rfl) ?_
          refine vl rfl (skF rfl rfl) ?_
          refine vl rfl (pkT trivial rfl rfl) ?_
          refine vl rfl (mv trivial rfl) ?_
          refine vl rfl (skF rfl rfl) ?_
          refine vl rfl (skF rfl rfl) ?_
          refine vl rfl (skF rfl rfl) ?_
          refine vl rfl (skF rfl rfl) ?_
          refine vl rfl (pkT trivial rfl rfl) ?_
          refine vl rfl (mv trivial rfl) ?_
          refine vl rfl (skF rfl rfl) ?_
          refine vl rfl (skF rfl rfl) ?_
          refine vl rfl (skF rfl rfl) ?_
          refine vl rfl (skF rfl rfl) ?_
          refine vl rfl (pkT trivial rfl rfl) ?_
          refine nil ?_
          refine thenN ?_
          refine condT rfl ?_
          refine seq ?_
          refine region ?_
          refine vl rfl (asg trivial rfl) ?_
          refine vl rfl (asg trivial rfl) ?_
          refine nil ?_
          refine thenN ?_
          refine ret ?_
          refine thenR (blkR (thenR (loopR (blkR (thenR ?_)))))
          refine end2 Tryd.results7 rfl rfl (fun w' hw => ?_)
          rw [pm_bad h60 h2 (mapM_none hx hbad)]
          exact ⟨none, trivial, rfl, (hw.subl (List.nil_sublist _)).nilOwn _ _⟩
        · have hw0 : w0 = quadS := by simpa [quadS] using h44
          subst hw0
          refine vl rfl (mv ⟨_, rfl, rfl⟩ rfl) ?_
          refine vl rfl (notB ⟨_, rfl, rfl⟩ rfl) ?_
          refine vl rfl (pkF trivial rfl rfl) ?_
          refine vl rfl (mv trivial rfl) ?_
          refine splitB 48 rfl (fun h48 => ?_) (fun h48 => ?_)
          · have hbad : pquad x = none := pq_no hcut2 (by simpa using h48)
            refine vl rfl (skF rfl rfl) ?_
            refine vl rfl (skF rfl rfl) ?_
            refine vl rfl (skF rfl rfl) ?_
            refine vl rfl (skF rfl rfl) ?_
            refine vl rfl (pkT trivial rfl rfl) ?_
            refine vl rfl (mv trivial rfl) ?_
            refine vl rfl (skF rfl rfl) ?_
            refine vl rfl (skF rfl rfl) ?_
            refine vl rfl (skF rfl rfl) ?_
            refine vl rfl (skF rfl rfl) ?_
            refine vl rfl (pkT trivial rfl rfl) ?_
            refine nil ?_
            refine thenN ?_
            refine condT rfl ?_
            refine seq ?_
            refine region ?_
            refine vl rfl (asg trivial rfl) ?_
            refine vl rfl (asg trivial rfl) ?_
            refine nil ?_
            refine thenN ?_
            refine ret ?_
            refine thenR (blkR (thenR (loopR (blkR (thenR ?_)))))
            refine end2 Tryd.results7 rfl rfl (fun w' hw => ?_)
            rw [pm_bad h60 h2 (mapM_none hx hbad)]
            exact ⟨none, trivial, rfl, (hw.subl (List.nil_sublist _)).nilOwn _ _⟩
          · have hr : (rdR wt 7).2 = true := by simpa using h48
            obtain ⟨d, x0, y0, z0, x1, y1, z1, hmm, he⟩ := rd_some hr
            have hps := pq_seven hcut2 hmm
            rw [he]
            refine OpsJ.lies (n := 7) m0 (by simp) (by omega) (fun gi ci hgi => ?_)
            subst hgi
            refine vl rfl (mv ⟨_, rfl, rfl⟩ rfl) ?_
            refine vl rfl (ixO (i := 0) ⟨_, rfl, rfl⟩ sl_L_int rfl rfl rfl (by show 0 < 7; omega)) ?_
            refine vl rfl (ld1 0 ⟨_, rfl, rfl⟩ Tryd.isAgg3 rfl (hasOwn m0 (rowI (i := 0) (n := d) rfl)) rfl rfl) ?_
            refine vl rfl (ltI ⟨_, rfl, rfl⟩ rfl rfl) ?_
            refine vl rfl (pkF trivial rfl rfl) ?_
            refine vl rfl (mv trivial rfl) ?_
            refine splitB 54 rfl (fun h54 => ?_) (fun h54 => ?_)
            · have hbad : pquad x = none := by rw [hps, if_neg (by have := of_decide_eq_true h54; omega)]
              refine vl rfl (skF rfl rfl) ?_
              refine vl rfl (skF rfl rfl) ?_
              refine vl rfl (skF rfl rfl) ?_
              refine vl rfl (skF rfl rfl) ?_
              refine vl rfl (pkT trivial rfl rfl) ?_
              refine nil ?_
              refine thenN ?_
              refine condT rfl ?_
              refine seq ?_
              refine region ?_
              refine vl rfl (asg trivial rfl) ?_
              refine vl rfl (asg trivial rfl) ?_
              refine nil ?_
              refine thenN ?_
              refine ret ?_
              refine thenR (blkR (thenR (loopR (blkR (thenR ?_)))))
              refine end2 Tryd.results7 rfl rfl (fun w' hw => ?_)
              rw [pm_bad h60 h2 (mapM_none hx hbad)]
              exact ⟨none, trivial, rfl, (hw.subl (List.nil_sublist _)).nilOwn _ _⟩
            · skip
              refine vl rfl (mv ⟨_, rfl, rfl⟩ rfl) ?_
              refine vl rfl (ixO (i := 0) ⟨_, rfl, rfl⟩ sl_L_int rfl rfl rfl (by show 0 < 7; omega)) ?_
              refine vl rfl (ld1 0 ⟨_, rfl, rfl⟩ Tryd.isAgg3 rfl (hasOwn m0 (rowI (i := 0) (n := d) rfl)) rfl rfl) ?_
              refine vl rfl (gtI ⟨_, rfl, rfl⟩ rfl rfl) ?_
              refine vl rfl (pkF trivial rfl rfl) ?_
              refine nil ?_
              refine thenN ?_
              refine cond rfl (fun h59 => ?_) (fun h59 => ?_)
              · have hbad : pquad x = none := by rw [hps, if_neg (by have := of_decide_eq_true h59; omega)]
                refine seq ?_
                refine region ?_
                refine vl rfl (asg trivial rfl) ?_
                refine vl rfl (asg trivial rfl) ?_
                refine nil ?_
                refine thenN ?_
                refine ret ?_
                refine thenR (blkR (thenR (loopR (blkR (thenR ?_)))))
                refine end2 Tryd.results7 rfl rfl (fun w' hw => ?_)
                rw [pm_bad h60 h2 (mapM_none hx hbad)]
                exact ⟨none, trivial, rfl, (hw.subl (List.nil_sublist _)).nilOwn _ _⟩
              · have hd0 : 0 ≤ d ∧ d ≤ 5 := ⟨by have := of_decide_eq_false h54; omega, by have := of_decide_eq_false h59; omega⟩
                have hgood : pquad x = some ⟨d, x0, y0, z0, x1, y1, z1⟩ := by rw [hps, if_pos ⟨rfl, hd0⟩]
                refine skip ?_
                refine thenN ?_
                refine CodeJ.conv (fun _ => St.b2) ?_
                refine regionD (li := #[false, false, false, false, false, false, false, false, false, false, false, false, false, false, false, false, false, false, false, false, false, false, false, false, false, false, false, false, false]) (St v No [intsO (some (gi, ci)) [d, x0, y0, z0, x1, y1, z1], wordsR (some (gw, cw)) (quadS :: wt), wordsR (some (gl, cl)) (cutL 10 s)]) mixed rfl rfl ?_
                refine takeV (li' := #[true, false, false, false, false, false, false, false, false, false, false, false, false, false, false, false, false, false, false, false, false, false, false, false, false, false, false, false, false]) 0 rfl (by kernel_rfl) (by kernel_rfl) (fun _ h => h.drop1) rfl (mv trivial rfl) ?_
                refine takeV (li' := #[true, true, false, false, false, false, false, false, false, false, false, false, false, false, false, false, false, false, false, false, false, false, false, false, false, false, false, false, false]) 1 rfl (by kernel_rfl) (by kernel_rfl) (fun _ h => h.drop1) rfl (mv trivial rfl) ?_
                refine takeV (li' := #[true, true, true, false, false, false, false, false, false, false, false, false, false, false, false, false, false, false, false, false, false, false, false, false, false, false, false, false, false]) 2 rfl (by kernel_rfl) (by kernel_rfl) (fun _ h => h.drop1) rfl (ixO (i := 0) trivial sl_L_int rfl rfl rfl (by show 0 < 7; omega)) ?_
                refine takeV (li' := #[true, true, true, true, false, false, false, false, false, false, false, false, false, false, false, false, false, false, false, false, false, false, false, false, false, false, false, false, false]) 3 rfl (by kernel_rfl) (by kernel_rfl) (fun _ h => h.drop1) rfl (ld1 0 trivial Tryd.isAgg3 rfl (hasOwn m0 (rowI (i := 0) (n := d) rfl)) rfl rfl) ?_
                refine takeV (li' := #[true, true, true, true, true, false, false, false, false, false, false, false, false, false, false, false, false, false, false, false, false, false, false, false, false, false, false, false, false]) 4 rfl (by kernel_rfl) (by kernel_rfl) (fun _ h => h.drop1) rfl (cvI trivial rfl Tryd.runUnderlying3 Tryd.runUnderlying5 (u8r (by omega))) ?_
                refine takeV (li' := #[true, true, true, true, true, true, false, false, false, false, false, false, false, false, false, false, false, false, false, false, false, false, false, false, false, false, false, false, false]) 5 rfl (by kernel_rfl) (by kernel_rfl) (fun _ h => h.drop1) rfl (mv trivial rfl) ?_
                refine takeV (li' := #[true, true, true, true, true, true, true, false, false, false, false, false, false, false, false, false, false, false, false, false, false, false, false, false, false, false, false, false, false]) 6 rfl (by kernel_rfl) (by kernel_rfl) (fun _ h => h.drop1) rfl (ixO (i := 1) trivial sl_L_int rfl rfl rfl (by show 1 < 7; omega)) ?_
                refine takeV (li' := #[true, true, true, true, true, true, true, true, false, false, false, false, false, false, false, false, false, false, false, false, false, false, false, false, false, false, false, false, false]) 7 rfl (by kernel_rfl) (by kernel_rfl) (fun _ h => h.drop1) rfl (ld1 0 trivial Tryd.isAgg3 rfl (hasOwn m0 (rowI (i := 1) (n := x0) rfl)) rfl rfl) ?_
                refine takeV (li' := #[true, true, true, true, true, true, true, true, true, false, false, false, false, false, false, false, false, false, false, false, false, false, false, false, false, false, false, false, false]) 8 rfl (by kernel_rfl) (by kernel_rfl) (fun _ h => h.drop1) rfl (mv trivial rfl) ?_
                refine takeV (li' := #[true, true, true, true, true, true, true, true, true, true, false, false, false, false, false, false, false, false, false, false, false, false, false, false, false, false, false, false, false]) 9 rfl (by kernel_rfl) (by kernel_rfl) (fun _ h => h.drop1) rfl (ixO (i := 2) trivial sl_L_int rfl rfl rfl (by show 2 < 7; omega)) ?_
                refine takeV (li' := #[true, true, true, true, true, true, true, true, true, true, true, false, false, false, false, false, false, false, false, false, false, false, false, false, false, false, false, false, false]) 10 rfl (by kernel_rfl) (by kernel_rfl) (fun _ h => h.drop1) rfl (ld1 0 trivial Tryd.isAgg3 rfl (hasOwn m0 (rowI (i := 2) (n := y0) rfl)) rfl rfl) ?_
                refine takeV (li' := #[true, true, true, true, true, true, true, true, true, true, true, true, false, false, false, false, false, false, false, false, false, false, false, false, false, false, false, false, false]) 11 rfl (by kernel_rfl) (by kernel_rfl) (fun _ h => h.drop1) rfl (mv trivial rfl) ?_
                refine takeV (li' := #[true, true, true, true, true, true, true, true, true, true, true, true, true, false, false, false, false, false, false, false, false, false, false, false, false, false, false, false, false]) 12 rfl (by kernel_rfl) (by kernel_rfl) (fun _ h => h.drop1) rfl (ixO (i := 3) trivial sl_L_int rfl rfl rfl (by show 3 < 7; omega)) ?_
                refine takeV (li' := #[true, true, true, true, true, true, true, true, true, true, true, true, true, true, false, false, false, false, false, false, false, false, false, false, false, false, false, false, false]) 13 rfl (by kernel_rfl) (by kernel_rfl) (fun _ h => h.drop1) rfl (ld1 0 trivial Tryd.isAgg3 rfl (hasOwn m0 (rowI (i := 3) (n := z0) rfl)) rfl rfl) ?_
                refine takeV (li' := #[true, true, true, true, true, true, true, true, true, true, true, true, true, true, true, false, false, false, false, false, false, false, false, false, false, false, false, false, false]) 14 rfl (by kernel_rfl) (by kernel_rfl) (fun _ h => h.drop1) rfl (bld trivial rfl (by intro w; exact bd_api_Vec_0_1_2 ..)) ?_
                refine takeV (li' := #[true, true, true, true, true, true, true, true, true, true, true, true, true, true, true, true, false, false, false, false, false, false, false, false, false, false, false, false, false]) 15 rfl (by kernel_rfl) (by kernel_rfl) (fun _ h => h.drop1) rfl (mv trivial rfl) ?_
                refine takeV (li' := #[true, true, true, true, true, true, true, true, true, true, true, true, true, true, true, true, true, false, false, false, false, false, false, false, false, false, false, false, false]) 16 rfl (by kernel_rfl) (by kernel_rfl) (fun _ h => h.drop1) rfl (ixO (i := 4) trivial sl_L_int rfl rfl rfl (by show 4 < 7; omega)) ?_
                refine takeV (li' := #[true, true, true, true, true, true, true, true, true, true, true, true, true, true, true, true, true, true, false, false, false, false, false, false, false, false, false, false, false]) 17 rfl (by kernel_rfl) (by kernel_rfl) (fun _ h => h.drop1) rfl (ld1 0 trivial Tryd.isAgg3 rfl (hasOwn m0 (rowI (i := 4) (n := x1) rfl)) rfl rfl) ?_
                refine takeV (li' := #[true, true, true, true, true, true, true, true, true, true, true, true, true, true, true, true, true, true, true, false, false, false, false, false, false, false, false, false, false]) 18 rfl (by kernel_rfl) (by kernel_rfl) (fun _ h => h.drop1) rfl (mv trivial rfl) ?_
                refine takeV (li' := #[true, true, true, true, true, true, true, true, true, true, true, true, true, true, true, true, true, true, true, true, false, false, false, false, false, false, false, false, false]) 19 rfl (by kernel_rfl) (by kernel_rfl) (fun _ h => h.drop1) rfl (ixO (i := 5) trivial sl_L_int rfl rfl rfl (by show 5 < 7; omega)) ?_
                refine takeV (li' := #[true, true, true, true, true, true, true, true, true, true, true, true, true, true, true, true, true, true, true, true, true, false, false, false, false, false, false, false, false]) 20 rfl (by kernel_rfl) (by kernel_rfl) (fun _ h => h.drop1) rfl (ld1 0 trivial Tryd.isAgg3 rfl (hasOwn m0 (rowI (i := 5) (n := y1) rfl)) rfl rfl) ?_
                refine takeV (li' := #[true, true, true, true, true, true, true, true, true, true, true, true, true, true, true, true, true, true, true, true, true, true, false, false, false, false, false, false, false]) 21 rfl (by kernel_rfl) (by kernel_rfl) (fun _ h => h.drop1) rfl (mv trivial rfl) ?_
                refine takeV (li' := #[true, true, true, true, true, true, true, true, true, true, true, true, true, true, true, true, true, true, true, true, true, true, true, false, false, false, false, false, false]) 22 rfl (by kernel_rfl) (by kernel_rfl) (fun _ h => h.drop1) rfl (ixO (i := 6) trivial sl_L_int rfl rfl rfl (by show 6 < 7; omega)) ?_
                refine takeV (li' := #[true, true, true, true, true, true, true, true, true, true, true, true, true, true, true, true, true, true, true, true, true, true, true, true, false, false, false, false, false]) 23 rfl (by kernel_rfl) (by kernel_rfl) (fun _ h => h.drop1) rfl (ld1 0 trivial Tryd.isAgg3 rfl (hasOwn m0 (rowI (i := 6) (n := z1) rfl)) rfl rfl) ?_
                refine takeV (li' := #[true, true, true, true, true, true, true, true, true, true, true, true, true, true, true, true, true, true, true, true, true, true, true, true, true, false, false, false, false]) 24 rfl (by kernel_rfl) (by kernel_rfl) (fun _ h => h.drop1) rfl (bld trivial rfl (by intro w; exact bd_api_Vec_0_1_2 ..)) ?_
                refine takeV (li' := #[true, true, true, true, true, true, true, true, true, true, true, true, true, true, true, true, true, true, true, true, true, true, true, true, true, true, false, false, false]) 25 rfl (by kernel_rfl) (by kernel_rfl) (fun _ h => h.drop1) rfl (bld trivial rfl (by intro w; exact bd_api_Quad_0_1_2 ..)) ?_
                refine stepD (i := 26) (li' := #[true, true, true, true, true, true, true, true, true, true, true, true, true, true, true, true, true, true, true, true, true, true, true, true, true, true, true, false, false]) (by kernel_rfl) rfl (by kernel_rfl) ?_
                refine bsl (size := 7) _ rfl trivial rfl (by intro w; exact bs_L_api_Quad_1 ..) rfl (by simp) (by decide) (fun g86 hg86 => ?_)
                refine nil ?_
                refine nxD (fun _ h => h.drop1.drop1) ?_
                refine stepD (i := 27) (li' := #[true, true, true, true, true, true, true, true, true, true, true, true, true, true, true, true, true, true, true, true, true, true, true, true, true, true, true, true, false]) (by kernel_rfl) rfl (by kernel_rfl) ?_
                refine OpsJ.conv (fun _ => St.b1) ?_
                refine OpsJ.conv (fun _ => St.b1) ?_
                refine app1 rfl trivial sl_L_api_Quad rfl rfl (by simp) (by intro u hu; simp at hu; rcases hu with rfl | rfl | rfl | rfl | rfl | rfl | rfl <;> rfl) (by omega) (by unfold maxLen; omega) (fun g87 cg87 => ?_)
                refine nil ?_
                refine nxD (fun _ h => h.drop1) ?_
                refine respellD 87 (sv (some (g87, cg87)) (l ++ [Qd.mk d x0 y0 z0 x1 y1 z1]).length) rfl (by rw [List.length_append]; rfl) ?_
                refine takeV (li' := #[true, true, true, true, true, true, true, true, true, true, true, true, true, true, true, true, true, true, true, true, true, true, true, true, true, true, true, true, true]) 28 rfl (by kernel_rfl) (by kernel_rfl) (fun _ h => h.drop1) rfl (asg trivial rfl) ?_
                refine doneD (by kernel_rfl) ?_
                refine blkN ?_
                refine thenN ?_
                refine region ?_
                refine vl rfl (mv trivial rfl) ?_
                refine vl rfl (addI trivial rfl rfl (i64r (by omega))) ?_
                refine vl rfl (asg trivial rfl) ?_
                refine nil ?_
                refine loopN (i + 1, some (g87, cg87), l ++ [Qd.mk d x0 y0 z0 x1 y1 z1]) ⟨hi, mapM_take hx hm hgood⟩ (by show (linesL s).1.length - (i + 1) < (linesL s).1.length - i; omega) (by repeat' (first | exact trivial | (refine And.intro ?_ ?_) | rfl)) (fun w hw => ?_)
                rw [List.map_append]
                exact hw.subl (.cons_cons _ (.cons _ (.cons _ (.cons_cons _ .slnil))))
      · have hi : i = (linesL s).1.length := by have := of_decide_eq_false h26; omega
        have hm2 : (linesL s).1.mapM pquad = some l := by rw [hi, List.take_length] at hm; exact hm
        refine exit ?_
        refine thenX ?_
        refine loopX ?_
        refine blkX ?_
        refine thenN ?_
        refine seq ?_
        refine seq ?_
        refine region ?_
        refine vl rfl (mv trivial rfl) ?_
        refine callG rfl trivial rfl rfl Tryd.call12 rfl (fun w hw => rcheck_own (mapM_all (fun a b hab => (pq_dir0 hab).1) hm2) hw m0) ?_
        refine vl rfl (neI trivial rfl rfl) ?_
        refine nil ?_
        refine thenN ?_
        refine cond rfl (fun h90 => ?_) (fun h90 => ?_)
        · skip
          refine seq ?_
          refine region ?_
          refine vl rfl (mv trivial rfl) ?_
          refine callG rfl trivial rfl rfl Tryd.call12 rfl (fun w hw => rcheck_own (mapM_all (fun a b hab => (pq_dir0 hab).1) hm2) hw m0) ?_
          refine vl rfl (asg trivial rfl) ?_
          refine vl rfl (asg trivial rfl) ?_
          refine nil ?_
          refine thenN ?_
          refine ret ?_
          refine thenR ?_
          refine end2 Tryd.results7 rfl rfl (fun w' hw => ?_)
          have hc : ¬ chk l = 0 := by simpa using h90
          rw [pm_chk h60 h2 hm2, if_neg hc]
          exact ⟨none, trivial, rfl, (hw.subl (List.nil_sublist _)).nilOwn _ _⟩
        · skip
          refine skip ?_
          refine thenN ?_
          refine seq ?_
          refine region ?_
          refine vl rfl (mv trivial rfl) ?_
          refine vl rfl (asg trivial rfl) ?_
          refine vl rfl (asg trivial rfl) ?_
          refine nil ?_
          refine thenN ?_
          refine ret ?_
          refine end2 Tryd.results7 rfl rfl (fun w' hw => ?_)
          have hc : chk l = 0 := by simpa using h90
          rw [pm_chk h60 h2 hm2, if_pos hc]
          exact ⟨o, trivial, rfl, hw.subl (.cons_cons _ (List.nil_sublist _))⟩
end Go.Proofs.YtggofhbblidimaaDoor
