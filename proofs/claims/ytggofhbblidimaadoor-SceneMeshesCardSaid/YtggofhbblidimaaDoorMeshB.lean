/- Walks: mesh.Check. -/
import Derived.Test.YtggofhbblidimaaDoorMeshA
namespace Go.Proofs.YtggofhbblidimaaDoor
open Go Go.RowKit Eng
set_option maxRecDepth 4000
theorem check_spec (l : List Qd) (h0 : ∀ q ∈ l, 0 ≤ q.d) (a : Option Addr) (c : Nat) (w : World) (hs : SlAt w 7 a (l.map Qd.row)) : Gives Tryd.prog 9 [.slice a l.length c] w (.int .i64 (chk l)) := by
  obtain ⟨b, o, ha, hrow⟩ := hs
  refine enter (A := St w No []) Tryd.func9 rfl Tryd.ntmps9 (Nat.le_of_ble_eq_true rfl) (St.start w No) ?_
  refine seq ?_
  refine region ?_
  refine vl rfl (asg trivial rfl) ?_
  refine nil ?_
  refine thenN ?_
  refine seq ?_
  refine seq ?_
  refine region ?_
  refine vl rfl (mv trivial rfl) ?_
  refine vl rfl (lenL trivial rfl Tryd.runUnderlying22) ?_
  refine vl rfl (gtI trivial rfl rfl) ?_
  refine nil ?_
  refine thenN ?_
  refine cond rfl (fun h10 => ?_) (fun h10 => ?_)
  · skip
    refine seq ?_
    refine region ?_
    refine vl rfl (asg trivial rfl) ?_
    refine nil ?_
    refine thenN ?_
    refine ret ?_
    refine thenR ?_
    refine end1 Tryd.results9 rfl (fun w' hw => ?_)
    exact ⟨by rw [chk_many (by have := of_decide_eq_true h10; omega)], hw⟩
  · skip
    refine skip ?_
    refine thenN ?_
    refine seq ?_
    refine region ?_
    refine callG rfl trivial rfl rfl Tryd.call22 rfl (fun w hw => views_spec w) ?_
    refine alo _ rfl trivial Tryd.zeroValue68 rfl (fun b3 hb3 => ?_)
    refine stW _ trivial rfl rfl rfl Tryd.sizeOf68 rfl rfl (by first | exact all1 rfl | simp [Value.oneCell', sv_one]) ?_
    refine nil ?_
    refine thenN ?_
    refine seq ?_
    refine seq ?_
    refine region ?_
    refine vl rfl (mv trivial rfl) ?_
    refine vl rfl (lenL trivial rfl Tryd.runUnderlying22) ?_
    refine vl rfl (mv trivial rfl) ?_
    refine nil ?_
    refine thenN ?_
    refine block ?_
    refine loop (γ := Nat) (fun g => (l.take g).all okQ = true ∧ g ≤ l.length) (fun g => [(3, .pointer (some ⟨b3, 0, none⟩)), (12, .slice a l.length c), (13, .int .i64 (l.length : Nat)), (14, .int .i64 (g : Nat))]) (fun g => St w No [blk b3 viewsL 68]) (fun g => l.length - g) 0 ⟨by simp, by omega⟩ ?_ (fun w hw => ?_) (fun g hg => ?_)
    · repeat' (first | exact trivial | (refine And.intro ?_ ?_) | rfl)
    · exact hw
    refine seq ?_
    refine region ?_
    refine vl rfl (ltI trivial rfl rfl) ?_
    refine nil ?_
    refine thenN ?_
    refine seq ?_
    refine cond rfl (fun h15 => ?_) (fun h15 => ?_)
    · have hi : g < l.length := by simpa using h15
      obtain ⟨q, hq⟩ := getQ hi
      have hd0 := h0 q (List.mem_of_getElem? hq)
      refine skip ?_
      refine thenN ?_
      refine seq ?_
      refine block ?_
      refine seq ?_
      refine region ?_
      refine vl rfl (ixA trivial sl_L_api_Quad rfl rfl rfl hi (ha (map_ne hi))) ?_
      refine vl rfl (ld7 0 trivial Tryd.isAgg42 Tryd.sizeOf42 rfl (hasArg (hrow g _ (rowQ hq)) (fun h => h)) rfl rfl) ?_
      refine alo _ rfl trivial Tryd.zeroValue42 rfl (fun b5 hb5 => ?_)
      refine stW _ trivial rfl rfl rfl Tryd.sizeOf42 rfl rfl (by first | exact all1 rfl | simp [Value.oneCell', sv_one]) ?_
      refine nil ?_
      refine thenN ?_
      refine seq ?_
      refine seq ?_
      refine region ?_
      refine vl rfl (fad trivial fa_api_Quad_0 rfl) ?_
      refine vl rfl (ld1 0 trivial Tryd.isAgg5 rfl (hasBlk m0) rfl rfl) ?_
      refine vl rfl (gtI trivial rfl rfl) ?_
      refine vl rfl (mv trivial rfl) ?_
      refine splitB 21 rfl (fun h21 => ?_) (fun h21 => ?_)
      · skip
        refine vl rfl (skF rfl rfl) ?_
        refine vl rfl (skF rfl rfl) ?_
        refine vl rfl (skF rfl rfl) ?_
        refine vl rfl (skF rfl rfl) ?_
        refine vl rfl (pkT trivial rfl rfl) ?_
        refine vl rfl (mv trivial rfl) ?_
        refine vl rfl (skF rfl rfl) ?_
        refine vl rfl (skF rfl rfl) ?_
        refine vl rfl (skF rfl rfl) ?_
        refine vl rfl (skF rfl rfl) ?_
        refine vl rfl (pkT trivial rfl rfl) ?_
        refine nil ?_
        refine thenN ?_
        refine condT rfl ?_
        refine seq ?_
        refine region ?_
        refine vl rfl (asg trivial rfl) ?_
        refine nil ?_
        refine thenN ?_
        refine ret ?_
        refine thenR (blkR (thenR (loopR (blkR (thenR ?_)))))
        refine end1 Tryd.results9 rfl (fun w' hw => ?_)
        exact ⟨by rw [chk_bad (by have := of_decide_eq_false h10; omega) hq (okQ_d (by simpa using h21))], hw.drop1.drop1⟩
      · have h5 : q.d ≤ 5 := by simpa using h21
        refine vl rfl (fad ⟨_, rfl, rfl⟩ fa_api_Quad_1 rfl) ?_
        refine vl rfl (ld3 1 ⟨_, rfl, rfl⟩ Tryd.isAgg40 Tryd.sizeOf40 rfl (hasBlk m0) rfl rfl) ?_
        refine callG rfl ⟨_, rfl, rfl⟩ rfl rfl Tryd.call23 rfl (fun w hw => fine_spec _ _ _ w) ?_
        refine vl rfl (notB ⟨_, rfl, rfl⟩ rfl) ?_
        refine vl rfl (pkF trivial rfl rfl) ?_
        refine vl rfl (mv trivial rfl) ?_
        refine splitB 27 rfl (fun h27 => ?_) (fun h27 => ?_)
        · skip
          refine vl rfl (skF rfl rfl) ?_
          refine vl rfl (skF rfl rfl) ?_
          refine vl rfl (skF rfl rfl) ?_
          refine vl rfl (skF rfl rfl) ?_
          refine vl rfl (pkT trivial rfl rfl) ?_
          refine nil ?_
          refine thenN ?_
          refine condT rfl ?_
          refine seq ?_
          refine region ?_
          refine vl rfl (asg trivial rfl) ?_
          refine nil ?_
          refine thenN ?_
          refine ret ?_
          refine thenR (blkR (thenR (loopR (blkR (thenR ?_)))))
          refine end1 Tryd.results9 rfl (fun w' hw => ?_)
          exact ⟨by rw [chk_bad (by have := of_decide_eq_false h10; omega) hq (okQ_lo (by simpa using h27))], hw.drop1.drop1⟩
        · have hf0 : fineB q.x0 q.y0 q.z0 = true := by simpa using h27
          refine vl rfl (fad ⟨_, rfl, rfl⟩ fa_api_Quad_2 rfl) ?_
          refine vl rfl (ld3 4 ⟨_, rfl, rfl⟩ Tryd.isAgg40 Tryd.sizeOf40 rfl (hasBlk m0) rfl rfl) ?_
          refine callG rfl ⟨_, rfl, rfl⟩ rfl rfl Tryd.call23 rfl (fun w hw => fine_spec _ _ _ w) ?_
          refine vl rfl (notB ⟨_, rfl, rfl⟩ rfl) ?_
          refine vl rfl (pkF trivial rfl rfl) ?_
          refine nil ?_
          refine thenN ?_
          refine cond rfl (fun h32 => ?_) (fun h32 => ?_)
          · skip
            refine seq ?_
            refine region ?_
            refine vl rfl (asg trivial rfl) ?_
            refine nil ?_
            refine thenN ?_
            refine ret ?_
            refine thenR (blkR (thenR (loopR (blkR (thenR ?_)))))
            refine end1 Tryd.results9 rfl (fun w' hw => ?_)
            exact ⟨by rw [chk_bad (by have := of_decide_eq_false h10; omega) hq (okQ_hi (by simpa using h32))], hw.drop1.drop1⟩
          · have hf1 : fineB q.x1 q.y1 q.z1 = true := by simpa using h32
            refine skip ?_
            refine thenN ?_
            refine seq ?_
            refine region ?_
            refine vl rfl (fad trivial fa_api_Quad_0 rfl) ?_
            refine vl rfl (ld1 0 trivial Tryd.isAgg5 rfl (hasBlk m0) rfl rfl) ?_
            refine vl rfl (quoI trivial rfl rfl (by decide) (by rw [ax_tdiv hd0]; have := ax_lt h5; exact u8r (by omega))) ?_
            refine vl rfl (ixV trivial ar_3_mesh_view rfl rfl (ax_tdiv hd0) (ax_lt h5)) ?_
            refine vl rfl (ld3 (q.ax * 3) trivial Tryd.isAgg67 Tryd.sizeOf67 rfl (hasBlk m1) (by omega) (views_drop (ax_lt h5))) ?_
            refine alo _ rfl trivial Tryd.zeroValue67 rfl (fun b6 hb6 => ?_)
            refine stW _ trivial rfl rfl rfl Tryd.sizeOf67 rfl rfl (by first | exact all1 rfl | simp [Value.oneCell', sv_one]) ?_
            refine nil ?_
            refine thenN ?_
            refine seq ?_
            refine region ?_
            refine vl rfl (ld3 0 trivial Tryd.isAgg67 Tryd.sizeOf67 rfl (hasBlk m0) rfl rfl) ?_
            refine vl rfl (fad trivial fa_api_Quad_1 rfl) ?_
            refine vl rfl (ld3 1 trivial Tryd.isAgg40 Tryd.sizeOf40 rfl (hasBlk m1) rfl rfl) ?_
            refine vl rfl (fad trivial fa_api_Quad_2 rfl) ?_
            refine vl rfl (ld3 4 trivial Tryd.isAgg40 Tryd.sizeOf40 rfl (hasBlk m1) rfl rfl) ?_
            refine callG rfl trivial rfl rfl Tryd.call24 rfl (fun w hw => rect_spec (ax_lt h5) _ _ _ _ _ _ w) ?_
            refine alo _ rfl trivial Tryd.zeroValue72 rfl (fun b7 hb7 => ?_)
            refine stW _ trivial rfl rfl rfl Tryd.sizeOf72 rfl rfl (by first | exact all1 rfl | simp [Value.oneCell', sv_one]) ?_
            refine nil ?_
            refine thenN ?_
            refine seq ?_
            refine regionE (li := #[false, false, false, false, false, false, false, false, false, false, false, false, false, false, false, false, false, false, false, false, false, false, false, false, false]) mixed rfl rfl ?_
            refine takeV (li' := #[true, false, false, false, false, false, false, false, false, false, false, false, false, false, false, false, false, false, false, false, false, false, false, false, false]) 0 rfl (by kernel_rfl) (by kernel_rfl) (fun _ h => h) rfl (fad trivial fa_mesh_view_0 rfl) ?_
            refine takeV (li' := #[true, true, false, false, false, false, false, false, false, false, false, false, false, false, false, false, false, false, false, false, false, false, false, false, false]) 1 rfl (by kernel_rfl) (by kernel_rfl) (fun _ h => h) rfl (ld1 0 trivial Tryd.isAgg63 rfl (hasBlk m1) rfl rfl) ?_
            refine takeV (li' := #[true, true, true, false, false, false, false, false, false, false, false, false, false, false, false, false, false, false, false, false, false, false, false, false, false]) 2 rfl (by kernel_rfl) (by kernel_rfl) (fun _ h => h) rfl (fad trivial fa_api_Quad_1 rfl) ?_
            refine takeV (li' := #[true, true, true, true, false, false, false, false, false, false, false, false, false, false, false, false, false, false, false, false, false, false, false, false, false]) 3 rfl (by kernel_rfl) (by kernel_rfl) (fun _ h => h) rfl (ld3 1 trivial Tryd.isAgg40 Tryd.sizeOf40 rfl (hasBlk m2) rfl rfl) ?_
            refine takeV (li' := #[true, true, true, true, false, true, false, false, false, false, false, false, false, false, false, false, false, false, false, false, false, false, false, false, false]) 5 rfl (by kernel_rfl) (by kernel_rfl) (fun _ h => h) rfl (fad trivial fa_mesh_view_0 rfl) ?_
            refine takeV (li' := #[true, true, true, true, false, true, true, false, false, false, false, false, false, false, false, false, false, false, false, false, false, false, false, false, false]) 6 rfl (by kernel_rfl) (by kernel_rfl) (fun _ h => h) rfl (ld1 0 trivial Tryd.isAgg63 rfl (hasBlk m1) rfl rfl) ?_
            refine takeV (li' := #[true, true, true, true, false, true, true, true, false, false, false, false, false, false, false, false, false, false, false, false, false, false, false, false, false]) 7 rfl (by kernel_rfl) (by kernel_rfl) (fun _ h => h) rfl (fad trivial fa_api_Quad_2 rfl) ?_
            refine takeV (li' := #[true, true, true, true, false, true, true, true, true, false, false, false, false, false, false, false, false, false, false, false, false, false, false, false, false]) 8 rfl (by kernel_rfl) (by kernel_rfl) (fun _ h => h) rfl (ld3 4 trivial Tryd.isAgg40 Tryd.sizeOf40 rfl (hasBlk m2) rfl rfl) ?_
            refine stepD (i := 4) (li' := #[true, true, true, true, true, true, true, true, true, false, false, false, false, false, false, false, false, false, false, false, false, false, false, false, false]) (by kernel_rfl) rfl (by kernel_rfl) ?_
            refine callG rfl trivial rfl rfl (call_al (ax_lt h5)) rfl (fun w hw => al_spec (ax_lt h5) _ _ _ w) ?_
            refine nil ?_
            refine nxD (fun _ h => h) ?_
            refine stepD (i := 9) (li' := #[true, true, true, true, true, true, true, true, true, true, false, false, false, false, false, false, false, false, false, false, false, false, false, false, false]) (by kernel_rfl) rfl (by kernel_rfl) ?_
            refine callG rfl trivial rfl rfl (call_al (ax_lt h5)) rfl (fun w hw => al_spec (ax_lt h5) _ _ _ w) ?_
            refine nil ?_
            refine nxD (fun _ h => h) ?_
            refine takeV (li' := #[true, true, true, true, true, true, true, true, true, true, true, false, false, false, false, false, false, false, false, false, false, false, false, false, false]) 10 rfl (by kernel_rfl) (by kernel_rfl) (fun _ h => h) rfl (neI trivial rfl rfl) ?_
            refine takeV (li' := #[true, true, true, true, true, true, true, true, true, true, true, true, false, false, false, false, false, false, false, false, false, false, false, false, false]) 11 rfl (by kernel_rfl) (by kernel_rfl) (fun _ h => h) rfl (mv trivial rfl) ?_
            refine splitD 55 rfl (fun h55 => ?_) (fun h55 => ?_)
            · skip
              refine takeV (li' := #[true, true, true, true, true, true, true, true, true, true, true, true, true, false, false, false, false, false, false, false, false, false, false, false, false]) 12 rfl (by kernel_rfl) (by kernel_rfl) (fun _ h => h) rfl (skF rfl rfl) ?_
              refine takeV (li' := #[true, true, true, true, true, true, true, true, true, true, true, true, true, true, false, false, false, false, false, false, false, false, false, false, false]) 13 rfl (by kernel_rfl) (by kernel_rfl) (fun _ h => h) rfl (skF rfl rfl) ?_
              refine takeV (li' := #[true, true, true, true, true, true, true, true, true, true, true, true, true, true, true, false, false, false, false, false, false, false, false, false, false]) 14 rfl (by kernel_rfl) (by kernel_rfl) (fun _ h => h) rfl (skF rfl rfl) ?_
              refine takeV (li' := #[true, true, true, true, true, true, true, true, true, true, true, true, true, true, true, true, false, false, false, false, false, false, false, false, false]) 15 rfl (by kernel_rfl) (by kernel_rfl) (fun _ h => h) rfl (skF rfl rfl) ?_
              refine takeV (li' := #[true, true, true, true, true, true, true, true, true, true, true, true, true, true, true, true, true, false, false, false, false, false, false, false, false]) 16 rfl (by kernel_rfl) (by kernel_rfl) (fun _ h => h) rfl (skF rfl rfl) ?_
              refine takeV (li' := #[true, true, true, true, true, true, true, true, true, true, true, true, true, true, true, true, true, true, false, false, false, false, false, false, false]) 17 rfl (by kernel_rfl) (by kernel_rfl) (fun _ h => h) rfl (pkT trivial rfl rfl) ?_
              refine takeV (li' := #[true, true, true, true, true, true, true, true, true, true, true, true, true, true, true, true, true, true, true, false, false, false, false, false, false]) 18 rfl (by kernel_rfl) (by kernel_rfl) (fun _ h => h) rfl (mv trivial rfl) ?_
              refine takeV (li' := #[true, true, true, true, true, true, true, true, true, true, true, true, true, true, true, true, true, true, true, true, false, false, false, false, false]) 19 rfl (by kernel_rfl) (by kernel_rfl) (fun _ h => h) rfl (skF rfl rfl) ?_
              refine takeV (li' := #[true, true, true, true, true, true, true, true, true, true, true, true, true, true, true, true, true, true, true, true, true, false, false, false, false]) 20 rfl (by kernel_rfl) (by kernel_rfl) (fun _ h => h) rfl (skF rfl rfl) ?_
              refine takeV (li' := #[true, true, true, true, true, true, true, true, true, true, true, true, true, true, true, true, true, true, true, true, true, true, false, false, false]) 21 rfl (by kernel_rfl) (by kernel_rfl) (fun _ h => h) rfl (skF rfl rfl) ?_
              refine takeV (li' := #[true, true, true, true, true, true, true, true, true, true, true, true, true, true, true, true, true, true, true, true, true, true, true, false, false]) 22 rfl (by kernel_rfl) (by kernel_rfl) (fun _ h => h) rfl (skF rfl rfl) ?_
              refine takeV (li' := #[true, true, true, true, true, true, true, true, true, true, true, true, true, true, true, true, true, true, true, true, true, true, true, true, false]) 23 rfl (by kernel_rfl) (by kernel_rfl) (fun _ h => h) rfl (skF rfl rfl) ?_
              refine takeV (li' := #[true, true, true, true, true, true, true, true, true, true, true, true, true, true, true, true, true, true, true, true, true, true, true, true, true]) 24 rfl (by kernel_rfl) (by kernel_rfl) (fun _ h => h) rfl (pkT trivial rfl rfl) ?_
              refine doneD (by kernel_rfl) ?_
              refine thenN ?_
              refine condT rfl ?_
              refine seq ?_
              refine region ?_
              refine vl rfl (asg trivial rfl) ?_
              refine nil ?_
              refine thenN ?_
              refine ret ?_
              refine blkR (thenR (loopR (blkR (thenR ?_))))
              refine end1 Tryd.results9 rfl (fun w' hw => ?_)
              exact ⟨by rw [chk_bad (by have := of_decide_eq_false h10; omega) hq (okQ_al (by simpa using h55))], hw.drop1.drop1.drop1.drop1⟩
            · skip
              refine takeV (li' := #[true, true, true, true, true, true, true, true, true, true, true, true, true, false, false, false, false, false, false, false, false, false, false, false, false]) 12 rfl (by kernel_rfl) (by kernel_rfl) (fun _ h => h) rfl (fad ⟨_, rfl, rfl⟩ fa_api_Rect_0 rfl) ?_
              refine takeV (li' := #[true, true, true, true, true, true, true, true, true, true, true, true, true, true, false, false, false, false, false, false, false, false, false, false, false]) 13 rfl (by kernel_rfl) (by kernel_rfl) (fun _ h => h) rfl (ld1 0 ⟨_, rfl, rfl⟩ Tryd.isAgg3 rfl (hasBlk m0) rfl rfl) ?_
              refine takeV (li' := #[true, true, true, true, true, true, true, true, true, true, true, true, true, true, true, false, false, false, false, false, false, false, false, false, false]) 14 rfl (by kernel_rfl) (by kernel_rfl) (fun _ h => h) rfl (fad ⟨_, rfl, rfl⟩ fa_api_Rect_2 rfl) ?_
              refine takeV (li' := #[true, true, true, true, true, true, true, true, true, true, true, true, true, true, true, true, false, false, false, false, false, false, false, false, false]) 15 rfl (by kernel_rfl) (by kernel_rfl) (fun _ h => h) rfl (ld1 2 ⟨_, rfl, rfl⟩ Tryd.isAgg3 rfl (hasBlk m0) rfl rfl) ?_
              refine takeV (li' := #[true, true, true, true, true, true, true, true, true, true, true, true, true, true, true, true, true, false, false, false, false, false, false, false, false]) 16 rfl (by kernel_rfl) (by kernel_rfl) (fun _ h => h) rfl (geI ⟨_, rfl, rfl⟩ rfl rfl) ?_
              refine takeV (li' := #[true, true, true, true, true, true, true, true, true, true, true, true, true, true, true, true, true, true, false, false, false, false, false, false, false]) 17 rfl (by kernel_rfl) (by kernel_rfl) (fun _ h => h) rfl (pkF trivial rfl rfl) ?_
              refine takeV (li' := #[true, true, true, true, true, true, true, true, true, true, true, true, true, true, true, true, true, true, true, false, false, false, false, false, false]) 18 rfl (by kernel_rfl) (by kernel_rfl) (fun _ h => h) rfl (mv trivial rfl) ?_
              refine splitD 62 rfl (fun h62 => ?_) (fun h62 => ?_)
              · skip
                refine takeV (li' := #[true, true, true, true, true, true, true, true, true, true, true, true, true, true, true, true, true, true, true, true, false, false, false, false, false]) 19 rfl (by kernel_rfl) (by kernel_rfl) (fun _ h => h) rfl (skF rfl rfl) ?_
                refine takeV (li' := #[true, true, true, true, true, true, true, true, true, true, true, true, true, true, true, true, true, true, true, true, true, false, false, false, false]) 20 rfl (by kernel_rfl) (by kernel_rfl) (fun _ h => h) rfl (skF rfl rfl) ?_
                refine takeV (li' := #[true, true, true, true, true, true, true, true, true, true, true, true, true, true, true, true, true, true, true, true, true, true, false, false, false]) 21 rfl (by kernel_rfl) (by kernel_rfl) (fun _ h => h) rfl (skF rfl rfl) ?_
                refine takeV (li' := #[true, true, true, true, true, true, true, true, true, true, true, true, true, true, true, true, true, true, true, true, true, true, true, false, false]) 22 rfl (by kernel_rfl) (by kernel_rfl) (fun _ h => h) rfl (skF rfl rfl) ?_
                refine takeV (li' := #[true, true, true, true, true, true, true, true, true, true, true, true, true, true, true, true, true, true, true, true, true, true, true, true, false]) 23 rfl (by kernel_rfl) (by kernel_rfl) (fun _ h => h) rfl (skF rfl rfl) ?_
                refine takeV (li' := #[true, true, true, true, true, true, true, true, true, true, true, true, true, true, true, true, true, true, true, true, true, true, true, true, true]) 24 rfl (by kernel_rfl) (by kernel_rfl) (fun _ h => h) rfl (pkT trivial rfl rfl) ?_
                refine doneD (by kernel_rfl) ?_
                refine thenN ?_
                refine condT rfl ?_
                refine seq ?_
                refine region ?_
                refine vl rfl (asg trivial rfl) ?_
                refine nil ?_
                refine thenN ?_
                refine ret ?_
                refine blkR (thenR (loopR (blkR (thenR ?_))))
                refine end1 Tryd.results9 rfl (fun w' hw => ?_)
                exact ⟨by rw [chk_bad (by have := of_decide_eq_false h10; omega) hq (okQ_x (by simpa using h62))], hw.drop1.drop1.drop1.drop1⟩
              · skip
                refine takeV (li' := #[true, true, true, true, true, true, true, true, true, true, true, true, true, true, true, true, true, true, true, true, false, false, false, false, false]) 19 rfl (by kernel_rfl) (by kernel_rfl) (fun _ h => h) rfl (fad ⟨_, rfl, rfl⟩ fa_api_Rect_1 rfl) ?_
                refine takeV (li' := #[true, true, true, true, true, true, true, true, true, true, true, true, true, true, true, true, true, true, true, true, true, false, false, false, false]) 20 rfl (by kernel_rfl) (by kernel_rfl) (fun _ h => h) rfl (ld1 1 ⟨_, rfl, rfl⟩ Tryd.isAgg3 rfl (hasBlk m0) rfl rfl) ?_
                refine takeV (li' := #[true, true, true, true, true, true, true, true, true, true, true, true, true, true, true, true, true, true, true, true, true, true, false, false, false]) 21 rfl (by kernel_rfl) (by kernel_rfl) (fun _ h => h) rfl (fad ⟨_, rfl, rfl⟩ fa_api_Rect_3 rfl) ?_
                refine takeV (li' := #[true, true, true, true, true, true, true, true, true, true, true, true, true, true, true, true, true, true, true, true, true, true, true, false, false]) 22 rfl (by kernel_rfl) (by kernel_rfl) (fun _ h => h) rfl (ld1 3 ⟨_, rfl, rfl⟩ Tryd.isAgg3 rfl (hasBlk m0) rfl rfl) ?_
                refine takeV (li' := #[true, true, true, true, true, true, true, true, true, true, true, true, true, true, true, true, true, true, true, true, true, true, true, true, false]) 23 rfl (by kernel_rfl) (by kernel_rfl) (fun _ h => h) rfl (geI ⟨_, rfl, rfl⟩ rfl rfl) ?_
                refine takeV (li' := #[true, true, true, true, true, true, true, true, true, true, true, true, true, true, true, true, true, true, true, true, true, true, true, true, true]) 24 rfl (by kernel_rfl) (by kernel_rfl) (fun _ h => h) rfl (pkF trivial rfl rfl) ?_
                refine doneD (by kernel_rfl) ?_
                refine thenN ?_
                refine cond rfl (fun h68 => ?_) (fun h68 => ?_)
                · skip
                  refine seq ?_
                  refine region ?_
                  refine vl rfl (asg trivial rfl) ?_
                  refine nil ?_
                  refine thenN ?_
                  refine ret ?_
                  refine blkR (thenR (loopR (blkR (thenR ?_))))
                  refine end1 Tryd.results9 rfl (fun w' hw => ?_)
                  exact ⟨by rw [chk_bad (by have := of_decide_eq_false h10; omega) hq (okQ_y (by simpa using h68))], hw.drop1.drop1.drop1.drop1⟩
                · skip
                  refine skip ?_
                  refine blkN ?_
                  refine thenN ?_
                  refine region ?_
                  have hn3 := of_decide_eq_false h10
                  refine vl rfl (addI trivial rfl rfl (i64r (by omega))) ?_
                  refine vl rfl (mv trivial rfl) ?_
                  refine nil ?_
                  refine loopN (g + 1) ⟨take_all hq hg.1 (okQ_all h5 hf0 hf1 (by simpa using h55) (by simpa using h62) (by simpa using h68)), by omega⟩ (by omega) (by repeat' (first | exact trivial | (refine And.intro ?_ ?_) | rfl)) (fun w hw => ?_)
                  exact hw.drop1.drop1.drop1
    · skip
      refine exit ?_
      refine thenX ?_
      refine loopX ?_
      refine blkX ?_
      refine thenN ?_
      refine seq ?_
      refine region ?_
      refine vl rfl (asg trivial rfl) ?_
      refine nil ?_
      refine thenN ?_
      refine ret ?_
      refine end1 Tryd.results9 rfl (fun w' hw => ?_)
      have h1 : g = l.length := by have := of_decide_eq_false h15; omega
      exact ⟨by rw [chk_ok (by have := of_decide_eq_false h10; omega) (by rw [← h1]; exact hg.1)], hw.drop1⟩
end Go.Proofs.YtggofhbblidimaaDoor
