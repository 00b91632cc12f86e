/- Walks: the reference's functions of quads. -/
import Derived.Test.YtggofhbblidimaaDoorMeshB
import Derived.Laws.StructEq
namespace Go.Proofs.YtggofhbblidimaaDoor
open Go Go.RowKit Eng
set_option maxRecDepth 4000
theorem in_spec (x y z m : Int) (w : World) : Gives Tryd.prog 46 [vec x y z, .int .i64 m] w (.bool (inB m x y z)) := by
  refine enter (A := St w No []) Tryd.func46 rfl Tryd.ntmps46 (Nat.le_of_ble_eq_true rfl) (St.start w No) ?_
  refine seq ?_
  refine region ?_
  refine bx _ rfl trivial rfl rfl (fun b2 hb2 => ?_)
  refine vl rfl (asg trivial rfl) ?_
  refine nil ?_
  refine thenN ?_
  refine seq ?_
  refine region ?_
  refine vl rfl (fad trivial fa_api_Vec_0 rfl) ?_
  refine vl rfl (ld1 0 trivial Tryd.isAgg3 rfl (hasBlk m0) rfl rfl) ?_
  refine vl rfl (mv trivial rfl) ?_
  refine vl rfl (geI trivial rfl rfl) ?_
  refine vl rfl (mv trivial rfl) ?_
  refine splitB 9 rfl (fun h9 => ?_) (fun h9 => ?_)
  · skip
    refine vl rfl (fad ⟨_, rfl, rfl⟩ fa_api_Vec_1 rfl) ?_
    refine vl rfl (ld1 1 ⟨_, rfl, rfl⟩ Tryd.isAgg3 rfl (hasBlk m0) rfl rfl) ?_
    refine vl rfl (mv ⟨_, rfl, rfl⟩ rfl) ?_
    refine vl rfl (geI ⟨_, rfl, rfl⟩ rfl rfl) ?_
    refine vl rfl (pkT trivial rfl rfl) ?_
    refine vl rfl (mv trivial rfl) ?_
    refine splitB 15 rfl (fun h15 => ?_) (fun h15 => ?_)
    · skip
      refine vl rfl (fad ⟨_, rfl, rfl⟩ fa_api_Vec_2 rfl) ?_
      refine vl rfl (ld1 2 ⟨_, rfl, rfl⟩ Tryd.isAgg3 rfl (hasBlk m0) rfl rfl) ?_
      refine vl rfl (mv ⟨_, rfl, rfl⟩ rfl) ?_
      refine vl rfl (geI ⟨_, rfl, rfl⟩ rfl rfl) ?_
      refine vl rfl (pkT trivial rfl rfl) ?_
      refine vl rfl (mv trivial rfl) ?_
      refine splitB 21 rfl (fun h21 => ?_) (fun h21 => ?_)
      · skip
        refine vl rfl (fad ⟨_, rfl, rfl⟩ fa_api_Vec_0 rfl) ?_
        refine vl rfl (ld1 0 ⟨_, rfl, rfl⟩ Tryd.isAgg3 rfl (hasBlk m0) rfl rfl) ?_
        refine vl rfl (leI ⟨_, rfl, rfl⟩ rfl rfl) ?_
        refine vl rfl (pkT trivial rfl rfl) ?_
        refine vl rfl (mv trivial rfl) ?_
        refine splitB 26 rfl (fun h26 => ?_) (fun h26 => ?_)
        · skip
          refine vl rfl (fad ⟨_, rfl, rfl⟩ fa_api_Vec_1 rfl) ?_
          refine vl rfl (ld1 1 ⟨_, rfl, rfl⟩ Tryd.isAgg3 rfl (hasBlk m0) rfl rfl) ?_
          refine vl rfl (leI ⟨_, rfl, rfl⟩ rfl rfl) ?_
          refine vl rfl (pkT trivial rfl rfl) ?_
          refine vl rfl (mv trivial rfl) ?_
          refine splitB 31 rfl (fun h31 => ?_) (fun h31 => ?_)
          · skip
            refine vl rfl (fad ⟨_, rfl, rfl⟩ fa_api_Vec_2 rfl) ?_
            refine vl rfl (ld1 2 ⟨_, rfl, rfl⟩ Tryd.isAgg3 rfl (hasBlk m0) rfl rfl) ?_
            refine vl rfl (leI ⟨_, rfl, rfl⟩ rfl rfl) ?_
            refine vl rfl (pkT trivial rfl rfl) ?_
            refine vl rfl (asg trivial rfl) ?_
            refine nil ?_
            refine thenN ?_
            refine ret ?_
            refine end1 Tryd.results46 rfl (fun w' hw => ?_)
            exact ⟨by simp only [inB, h9, h15, h21, h26, h31, Bool.true_and], hw.drop1⟩
          · skip
            refine vl rfl (skT rfl rfl) ?_
            refine vl rfl (skT rfl rfl) ?_
            refine vl rfl (skT rfl rfl) ?_
            refine vl rfl (pkF trivial rfl rfl) ?_
            refine vl rfl (asg trivial rfl) ?_
            refine nil ?_
            refine thenN ?_
            refine ret ?_
            refine end1 Tryd.results46 rfl (fun w' hw => ?_)
            exact ⟨by simp only [inB, h9, h15, h21, h26, h31, Bool.true_and, Bool.false_and], hw.drop1⟩
        · skip
          refine vl rfl (skT rfl rfl) ?_
          refine vl rfl (skT rfl rfl) ?_
          refine vl rfl (skT rfl rfl) ?_
          refine vl rfl (pkF trivial rfl rfl) ?_
          refine vl rfl (mv trivial rfl) ?_
          refine vl rfl (skT rfl rfl) ?_
          refine vl rfl (skT rfl rfl) ?_
          refine vl rfl (skT rfl rfl) ?_
          refine vl rfl (pkF trivial rfl rfl) ?_
          refine vl rfl (asg trivial rfl) ?_
          refine nil ?_
          refine thenN ?_
          refine ret ?_
          refine end1 Tryd.results46 rfl (fun w' hw => ?_)
          exact ⟨by simp only [inB, h9, h15, h21, h26, Bool.true_and, Bool.false_and], hw.drop1⟩
      · skip
        refine vl rfl (skT rfl rfl) ?_
        refine vl rfl (skT rfl rfl) ?_
        refine vl rfl (skT rfl rfl) ?_
        refine vl rfl (pkF trivial rfl rfl) ?_
        refine vl rfl (mv trivial rfl) ?_
        refine vl rfl (skT rfl rfl) ?_
        refine vl rfl (skT rfl rfl) ?_
        refine vl rfl (skT rfl rfl) ?_
        refine vl rfl (pkF trivial rfl rfl) ?_
        refine vl rfl (mv trivial rfl) ?_
        refine vl rfl (skT rfl rfl) ?_
        refine vl rfl (skT rfl rfl) ?_
        refine vl rfl (skT rfl rfl) ?_
        refine vl rfl (pkF trivial rfl rfl) ?_
        refine vl rfl (asg trivial rfl) ?_
        refine nil ?_
        refine thenN ?_
        refine ret ?_
        refine end1 Tryd.results46 rfl (fun w' hw => ?_)
        exact ⟨by simp only [inB, h9, h15, h21, Bool.true_and, Bool.false_and], hw.drop1⟩
    · skip
      refine vl rfl (skT rfl rfl) ?_
      refine vl rfl (skT rfl rfl) ?_
      refine vl rfl (skT rfl rfl) ?_
      refine vl rfl (skT rfl rfl) ?_
      refine vl rfl (pkF trivial rfl rfl) ?_
      refine vl rfl (mv trivial rfl) ?_
      refine vl rfl (skT rfl rfl) ?_
      refine vl rfl (skT rfl rfl) ?_
      refine vl rfl (skT rfl rfl) ?_
      refine vl rfl (pkF trivial rfl rfl) ?_
      refine vl rfl (mv trivial rfl) ?_
      refine vl rfl (skT rfl rfl) ?_
      refine vl rfl (skT rfl rfl) ?_
      refine vl rfl (skT rfl rfl) ?_
      refine vl rfl (pkF trivial rfl rfl) ?_
      refine vl rfl (mv trivial rfl) ?_
      refine vl rfl (skT rfl rfl) ?_
      refine vl rfl (skT rfl rfl) ?_
      refine vl rfl (skT rfl rfl) ?_
      refine vl rfl (pkF trivial rfl rfl) ?_
      refine vl rfl (asg trivial rfl) ?_
      refine nil ?_
      refine thenN ?_
      refine ret ?_
      refine end1 Tryd.results46 rfl (fun w' hw => ?_)
      exact ⟨by simp only [inB, h9, h15, Bool.true_and, Bool.false_and], hw.drop1⟩
  · skip
    refine vl rfl (skT rfl rfl) ?_
    refine vl rfl (skT rfl rfl) ?_
    refine vl rfl (skT rfl rfl) ?_
    refine vl rfl (skT rfl rfl) ?_
    refine vl rfl (pkF trivial rfl rfl) ?_
    refine vl rfl (mv trivial rfl) ?_
    refine vl rfl (skT rfl rfl) ?_
    refine vl rfl (skT rfl rfl) ?_
    refine vl rfl (skT rfl rfl) ?_
    refine vl rfl (skT rfl rfl) ?_
    refine vl rfl (pkF trivial rfl rfl) ?_
    refine vl rfl (mv trivial rfl) ?_
    refine vl rfl (skT rfl rfl) ?_
    refine vl rfl (skT rfl rfl) ?_
    refine vl rfl (skT rfl rfl) ?_
    refine vl rfl (pkF trivial rfl rfl) ?_
    refine vl rfl (mv trivial rfl) ?_
    refine vl rfl (skT rfl rfl) ?_
    refine vl rfl (skT rfl rfl) ?_
    refine vl rfl (skT rfl rfl) ?_
    refine vl rfl (pkF trivial rfl rfl) ?_
    refine vl rfl (mv trivial rfl) ?_
    refine vl rfl (skT rfl rfl) ?_
    refine vl rfl (skT rfl rfl) ?_
    refine vl rfl (skT rfl rfl) ?_
    refine vl rfl (pkF trivial rfl rfl) ?_
    refine vl rfl (asg trivial rfl) ?_
    refine nil ?_
    refine thenN ?_
    refine ret ?_
    refine end1 Tryd.results46 rfl (fun w' hw => ?_)
    exact ⟨by simp only [inB, h9, Bool.false_and], hw.drop1⟩
theorem oth_spec (i : Int) (w : World) : Gives Tryd.prog 47 [.int .i64 i] w (.tuple #[.int .i64 (oth1 i), .int .i64 (oth2 i)]) := by
  refine enter (A := St w No []) Tryd.func47 rfl Tryd.ntmps47 (Nat.le_of_ble_eq_true rfl) (St.start w No) ?_
  refine seq ?_
  refine region ?_
  refine vl rfl (asg trivial rfl) ?_
  refine vl rfl (asg trivial rfl) ?_
  refine nil ?_
  refine thenN ?_
  refine seq ?_
  refine seq ?_
  refine region ?_
  refine vl rfl (mv trivial rfl) ?_
  refine vl rfl (eqI trivial rfl rfl) ?_
  refine nil ?_
  refine thenN ?_
  refine cond rfl (fun h5 => ?_) (fun h5 => ?_)
  · skip
    refine seq ?_
    refine region ?_
    refine vl rfl (asg trivial rfl) ?_
    refine vl rfl (asg trivial rfl) ?_
    refine nil ?_
    refine thenN ?_
    refine ret ?_
    refine thenR ?_
    refine end2 Tryd.results47 rfl rfl (fun w' hw => ?_)
    have h := of_decide_eq_true h5
    subst h
    exact ⟨rfl, hw⟩
  · skip
    refine skip ?_
    refine thenN ?_
    refine seq ?_
    refine seq ?_
    refine region ?_
    refine vl rfl (mv trivial rfl) ?_
    refine vl rfl (eqI trivial rfl rfl) ?_
    refine nil ?_
    refine thenN ?_
    refine cond rfl (fun h7 => ?_) (fun h7 => ?_)
    · skip
      refine seq ?_
      refine region ?_
      refine vl rfl (asg trivial rfl) ?_
      refine vl rfl (asg trivial rfl) ?_
      refine nil ?_
      refine thenN ?_
      refine ret ?_
      refine thenR ?_
      refine end2 Tryd.results47 rfl rfl (fun w' hw => ?_)
      have h := of_decide_eq_true h7
      subst h
      exact ⟨rfl, hw⟩
    · skip
      refine skip ?_
      refine thenN ?_
      refine seq ?_
      refine region ?_
      refine vl rfl (asg trivial rfl) ?_
      refine vl rfl (asg trivial rfl) ?_
      refine nil ?_
      refine thenN ?_
      refine ret ?_
      refine end2 Tryd.results47 rfl rfl (fun w' hw => ?_)
      have h5' := of_decide_eq_false h5
      have h7' := of_decide_eq_false h7
      exact ⟨by simp [oth1, oth2, h5', h7'], hw⟩
theorem coord_spec (x y z i : Int) (w : World) : Gives Tryd.prog 48 [vec x y z, .int .i64 i] w (.int .i64 (selI i x y z)) := by
  refine enter (A := St w No []) Tryd.func48 rfl Tryd.ntmps48 (Nat.le_of_ble_eq_true rfl) (St.start w No) ?_
  refine seq ?_
  refine region ?_
  refine bx _ rfl trivial rfl rfl (fun b2 hb2 => ?_)
  refine vl rfl (asg trivial rfl) ?_
  refine nil ?_
  refine thenN ?_
  refine seq ?_
  refine seq ?_
  refine region ?_
  refine vl rfl (mv trivial rfl) ?_
  refine vl rfl (eqI trivial rfl rfl) ?_
  refine nil ?_
  refine thenN ?_
  refine cond rfl (fun h6 => ?_) (fun h6 => ?_)
  · skip
    refine seq ?_
    refine region ?_
    refine vl rfl (fad trivial fa_api_Vec_0 rfl) ?_
    refine vl rfl (ld1 0 trivial Tryd.isAgg3 rfl (hasBlk m0) rfl rfl) ?_
    refine vl rfl (asg trivial rfl) ?_
    refine nil ?_
    refine thenN ?_
    refine ret ?_
    refine thenR ?_
    refine end1 Tryd.results48 rfl (fun w' hw => ?_)
    have h := of_decide_eq_true h6
    subst h
    exact ⟨rfl, hw.drop1⟩
  · skip
    refine skip ?_
    refine thenN ?_
    refine seq ?_
    refine seq ?_
    refine region ?_
    refine vl rfl (mv trivial rfl) ?_
    refine vl rfl (eqI trivial rfl rfl) ?_
    refine nil ?_
    refine thenN ?_
    refine cond rfl (fun h10 => ?_) (fun h10 => ?_)
    · skip
      refine seq ?_
      refine region ?_
      refine vl rfl (fad trivial fa_api_Vec_1 rfl) ?_
      refine vl rfl (ld1 1 trivial Tryd.isAgg3 rfl (hasBlk m0) rfl rfl) ?_
      refine vl rfl (asg trivial rfl) ?_
      refine nil ?_
      refine thenN ?_
      refine ret ?_
      refine thenR ?_
      refine end1 Tryd.results48 rfl (fun w' hw => ?_)
      have h := of_decide_eq_true h10
      subst h
      exact ⟨rfl, hw.drop1⟩
    · skip
      refine skip ?_
      refine thenN ?_
      refine seq ?_
      refine region ?_
      refine vl rfl (fad trivial fa_api_Vec_2 rfl) ?_
      refine vl rfl (ld1 2 trivial Tryd.isAgg3 rfl (hasBlk m0) rfl rfl) ?_
      refine vl rfl (asg trivial rfl) ?_
      refine nil ?_
      refine thenN ?_
      refine ret ?_
      refine end1 Tryd.results48 rfl (fun w' hw => ?_)
      have h6' := of_decide_eq_false h6
      have h10' := of_decide_eq_false h10
      exact ⟨by simp [selI, h6', h10'], hw.drop1⟩
theorem valid_spec (q : Qd) (h0 : 0 ≤ q.d) (w : World) : Gives Tryd.prog 30 [.agg q.row.toArray] w (.bool (okQ q)) := by
  refine enter (A := St w No []) Tryd.func30 rfl Tryd.ntmps30 (Nat.le_of_ble_eq_true rfl) (St.start w No) ?_
  refine seq ?_
  refine region ?_
  refine bx _ rfl trivial rfl rfl (fun b1 hb1 => ?_)
  refine vl rfl (asg trivial rfl) ?_
  refine nil ?_
  refine thenN ?_
  refine seq ?_
  refine seq ?_
  refine region ?_
  refine vl rfl (fad trivial fa_api_Quad_0 rfl) ?_
  refine vl rfl (ld1 0 trivial Tryd.isAgg5 rfl (hasBlk m0) rfl rfl) ?_
  refine vl rfl (gtI trivial rfl rfl) ?_
  refine vl rfl (mv trivial rfl) ?_
  refine splitB 10 rfl (fun h10 => ?_) (fun h10 => ?_)
  · skip
    refine vl rfl (skF rfl rfl) ?_
    refine vl rfl (skF rfl rfl) ?_
    refine vl rfl (skF rfl rfl) ?_
    refine vl rfl (skF rfl rfl) ?_
    refine vl rfl (pkT trivial rfl rfl) ?_
    refine vl rfl (mv trivial rfl) ?_
    refine vl rfl (skF rfl rfl) ?_
    refine vl rfl (skF rfl rfl) ?_
    refine vl rfl (skF rfl rfl) ?_
    refine vl rfl (skF rfl rfl) ?_
    refine vl rfl (pkT trivial rfl rfl) ?_
    refine nil ?_
    refine thenN ?_
    refine condT rfl ?_
    refine seq ?_
    refine region ?_
    refine vl rfl (asg trivial rfl) ?_
    refine nil ?_
    refine thenN ?_
    refine ret ?_
    refine thenR ?_
    refine end1 Tryd.results30 rfl (fun w' hw => ?_)
    exact ⟨by rw [okQ_d (by simpa using h10)], hw.drop1⟩
  · have h5 : q.d ≤ 5 := by simpa using h10
    refine vl rfl (fad ⟨_, rfl, rfl⟩ fa_api_Quad_1 rfl) ?_
    refine vl rfl (ld3 1 ⟨_, rfl, rfl⟩ Tryd.isAgg40 Tryd.sizeOf40 rfl (hasBlk m0) rfl rfl) ?_
    refine callG rfl ⟨_, rfl, rfl⟩ rfl rfl Tryd.call46 rfl (fun w hw => in_spec _ _ _ _ w) ?_
    refine vl rfl (notB ⟨_, rfl, rfl⟩ rfl) ?_
    refine vl rfl (pkF trivial rfl rfl) ?_
    refine vl rfl (mv trivial rfl) ?_
    refine splitB 16 rfl (fun h16 => ?_) (fun h16 => ?_)
    · skip
      refine vl rfl (skF rfl rfl) ?_
      refine vl rfl (skF rfl rfl) ?_
      refine vl rfl (skF rfl rfl) ?_
      refine vl rfl (skF rfl rfl) ?_
      refine vl rfl (pkT trivial rfl rfl) ?_
      refine nil ?_
      refine thenN ?_
      refine condT rfl ?_
      refine seq ?_
      refine region ?_
      refine vl rfl (asg trivial rfl) ?_
      refine nil ?_
      refine thenN ?_
      refine ret ?_
      refine thenR ?_
      refine end1 Tryd.results30 rfl (fun w' hw => ?_)
      rw [inB_fine] at h16
      exact ⟨by rw [okQ_lo (by simpa using h16)], hw.drop1⟩
    · rw [inB_fine] at h16
      refine vl rfl (fad ⟨_, rfl, rfl⟩ fa_api_Quad_2 rfl) ?_
      refine vl rfl (ld3 4 ⟨_, rfl, rfl⟩ Tryd.isAgg40 Tryd.sizeOf40 rfl (hasBlk m0) rfl rfl) ?_
      refine callG rfl ⟨_, rfl, rfl⟩ rfl rfl Tryd.call46 rfl (fun w hw => in_spec _ _ _ _ w) ?_
      refine vl rfl (notB ⟨_, rfl, rfl⟩ rfl) ?_
      refine vl rfl (pkF trivial rfl rfl) ?_
      refine nil ?_
      refine thenN ?_
      refine cond rfl (fun h21 => ?_) (fun h21 => ?_)
      · rw [inB_fine] at h21
        refine seq ?_
        refine region ?_
        refine vl rfl (asg trivial rfl) ?_
        refine nil ?_
        refine thenN ?_
        refine ret ?_
        refine thenR ?_
        refine end1 Tryd.results30 rfl (fun w' hw => ?_)
        exact ⟨by rw [okQ_hi (by simpa using h21)], hw.drop1⟩
      · rw [inB_fine] at h21
        refine skip ?_
        refine thenN ?_
        refine seq ?_
        refine region ?_
        refine vl rfl (fad trivial fa_api_Quad_0 rfl) ?_
        refine vl rfl (ld1 0 trivial Tryd.isAgg5 rfl (hasBlk m0) rfl rfl) ?_
        refine vl rfl (cvI trivial rfl Tryd.runUnderlying5 Tryd.runUnderlying3 (i64r (by omega))) ?_
        refine vl rfl (quoI trivial rfl rfl (by decide) (by rw [ax_tdiv h0]; have := ax_lt h5; exact i64r (by omega))) ?_
        refine respell 25 (.int .i64 (q.ax : Int)) rfl (by rw [ax_tdiv h0]) ?_
        refine vl rfl (asg trivial rfl) ?_
        refine nil ?_
        refine thenN ?_
        refine seq ?_
        refine region ?_
        refine vl rfl (mv trivial rfl) ?_
        refine callG rfl trivial rfl rfl Tryd.call47 rfl (fun w hw => oth_spec _ w) ?_
        refine vl rfl (mv trivial rfl) ?_
        refine vl rfl (extr trivial rfl rfl) ?_
        refine vl rfl (extr trivial rfl rfl) ?_
        refine vl rfl (asg trivial rfl) ?_
        refine vl rfl (asg trivial rfl) ?_
        refine nil ?_
        refine thenN ?_
        refine seq ?_
        refine regionE (li := #[false, false, false, false, false, false, false, false, false, false]) mixed rfl rfl ?_
        refine takeV (li' := #[true, false, false, false, false, false, false, false, false, false]) 0 rfl (by kernel_rfl) (by kernel_rfl) (fun _ h => h) rfl (fad trivial fa_api_Quad_1 rfl) ?_
        refine takeV (li' := #[true, true, false, false, false, false, false, false, false, false]) 1 rfl (by kernel_rfl) (by kernel_rfl) (fun _ h => h) rfl (ld3 1 trivial Tryd.isAgg40 Tryd.sizeOf40 rfl (hasBlk m0) rfl rfl) ?_
        refine takeV (li' := #[true, true, true, false, false, false, false, false, false, false]) 2 rfl (by kernel_rfl) (by kernel_rfl) (fun _ h => h) rfl (mv trivial rfl) ?_
        refine takeV (li' := #[true, true, true, false, true, false, false, false, false, false]) 4 rfl (by kernel_rfl) (by kernel_rfl) (fun _ h => h) rfl (fad trivial fa_api_Quad_2 rfl) ?_
        refine takeV (li' := #[true, true, true, false, true, true, false, false, false, false]) 5 rfl (by kernel_rfl) (by kernel_rfl) (fun _ h => h) rfl (ld3 4 trivial Tryd.isAgg40 Tryd.sizeOf40 rfl (hasBlk m0) rfl rfl) ?_
        refine takeV (li' := #[true, true, true, false, true, true, true, false, false, false]) 6 rfl (by kernel_rfl) (by kernel_rfl) (fun _ h => h) rfl (mv trivial rfl) ?_
        refine stepD (i := 3) (li' := #[true, true, true, true, true, true, true, false, false, false]) (by kernel_rfl) rfl (by kernel_rfl) ?_
        refine callG rfl trivial rfl rfl Tryd.call48 rfl (fun w hw => coord_spec _ _ _ _ w) ?_
        refine nil ?_
        refine nxD (fun _ h => h) ?_
        refine stepD (i := 7) (li' := #[true, true, true, true, true, true, true, true, false, false]) (by kernel_rfl) rfl (by kernel_rfl) ?_
        refine callG rfl trivial rfl rfl Tryd.call48 rfl (fun w hw => coord_spec _ _ _ _ w) ?_
        refine nil ?_
        refine nxD (fun _ h => h) ?_
        refine takeV (li' := #[true, true, true, true, true, true, true, true, true, false]) 8 rfl (by kernel_rfl) (by kernel_rfl) (fun _ h => h) rfl (eqI trivial rfl rfl) ?_
        refine takeV (li' := #[true, true, true, true, true, true, true, true, true, true]) 9 rfl (by kernel_rfl) (by kernel_rfl) (fun _ h => h) rfl (asg trivial rfl) ?_
        refine doneD (by kernel_rfl) ?_
        refine thenN ?_
        refine seq ?_
        refine regionE (li := #[false, false, false, false, false, false, false, false, false, false, false, false, false, false, false, false, false, false, false, false, false, false, false, false]) mixed rfl rfl ?_
        refine takeV (li' := #[true, false, false, false, false, false, false, false, false, false, false, false, false, false, false, false, false, false, false, false, false, false, false, false]) 0 rfl (by kernel_rfl) (by kernel_rfl) (fun _ h => h) rfl (mv trivial rfl) ?_
        refine takeV (li' := #[true, true, false, false, false, false, false, false, false, false, false, false, false, false, false, false, false, false, false, false, false, false, false, false]) 1 rfl (by kernel_rfl) (by kernel_rfl) (fun _ h => h) rfl (mv trivial rfl) ?_
        refine splitD 41 rfl (fun h41 => ?_) (fun h41 => ?_)
        · skip
          refine takeV (li' := #[true, true, true, false, false, false, false, false, false, false, false, false, false, false, false, false, false, false, false, false, false, false, false, false]) 2 rfl (by kernel_rfl) (by kernel_rfl) (fun _ h => h) rfl (fad ⟨_, rfl, rfl⟩ fa_api_Quad_1 rfl) ?_
          refine takeV (li' := #[true, true, true, true, false, false, false, false, false, false, false, false, false, false, false, false, false, false, false, false, false, false, false, false]) 3 rfl (by kernel_rfl) (by kernel_rfl) (fun _ h => h) rfl (ld3 1 ⟨_, rfl, rfl⟩ Tryd.isAgg40 Tryd.sizeOf40 rfl (hasBlk m0) rfl rfl) ?_
          refine takeV (li' := #[true, true, true, true, true, false, false, false, false, false, false, false, false, false, false, false, false, false, false, false, false, false, false, false]) 4 rfl (by kernel_rfl) (by kernel_rfl) (fun _ h => h) rfl (mv ⟨_, rfl, rfl⟩ rfl) ?_
          refine takeV (li' := #[true, true, true, true, true, false, true, false, false, false, false, false, false, false, false, false, false, false, false, false, false, false, false, false]) 6 rfl (by kernel_rfl) (by kernel_rfl) (fun _ h => h) rfl (fad ⟨_, rfl, rfl⟩ fa_api_Quad_2 rfl) ?_
          refine takeV (li' := #[true, true, true, true, true, false, true, true, false, false, false, false, false, false, false, false, false, false, false, false, false, false, false, false]) 7 rfl (by kernel_rfl) (by kernel_rfl) (fun _ h => h) rfl (ld3 4 ⟨_, rfl, rfl⟩ Tryd.isAgg40 Tryd.sizeOf40 rfl (hasBlk m0) rfl rfl) ?_
          refine takeV (li' := #[true, true, true, true, true, false, true, true, true, false, false, false, false, false, false, false, false, false, false, false, false, false, false, false]) 8 rfl (by kernel_rfl) (by kernel_rfl) (fun _ h => h) rfl (mv ⟨_, rfl, rfl⟩ rfl) ?_
          refine stepD (i := 5) (li' := #[true, true, true, true, true, true, true, true, true, false, false, false, false, false, false, false, false, false, false, false, false, false, false, false]) (by kernel_rfl) rfl (by kernel_rfl) ?_
          refine callG rfl ⟨_, rfl, rfl⟩ rfl rfl Tryd.call48 rfl (fun w hw => coord_spec _ _ _ _ w) ?_
          refine nil ?_
          refine nxD (fun _ h => h) ?_
          refine stepD (i := 9) (li' := #[true, true, true, true, true, true, true, true, true, true, false, false, false, false, false, false, false, false, false, false, false, false, false, false]) (by kernel_rfl) rfl (by kernel_rfl) ?_
          refine callG rfl ⟨_, rfl, rfl⟩ rfl rfl Tryd.call48 rfl (fun w hw => coord_spec _ _ _ _ w) ?_
          refine nil ?_
          refine nxD (fun _ h => h) ?_
          refine takeV (li' := #[true, true, true, true, true, true, true, true, true, true, true, false, false, false, false, false, false, false, false, false, false, false, false, false]) 10 rfl (by kernel_rfl) (by kernel_rfl) (fun _ h => h) rfl (ltI ⟨_, rfl, rfl⟩ rfl rfl) ?_
          refine takeV (li' := #[true, true, true, true, true, true, true, true, true, true, true, true, false, false, false, false, false, false, false, false, false, false, false, false]) 11 rfl (by kernel_rfl) (by kernel_rfl) (fun _ h => h) rfl (pkT trivial rfl rfl) ?_
          refine takeV (li' := #[true, true, true, true, true, true, true, true, true, true, true, true, true, false, false, false, false, false, false, false, false, false, false, false]) 12 rfl (by kernel_rfl) (by kernel_rfl) (fun _ h => h) rfl (mv trivial rfl) ?_
          refine splitD 52 rfl (fun h52 => ?_) (fun h52 => ?_)
          · skip
            refine takeV (li' := #[true, true, true, true, true, true, true, true, true, true, true, true, true, true, false, false, false, false, false, false, false, false, false, false]) 13 rfl (by kernel_rfl) (by kernel_rfl) (fun _ h => h) rfl (fad ⟨_, rfl, rfl⟩ fa_api_Quad_1 rfl) ?_
            refine takeV (li' := #[true, true, true, true, true, true, true, true, true, true, true, true, true, true, true, false, false, false, false, false, false, false, false, false]) 14 rfl (by kernel_rfl) (by kernel_rfl) (fun _ h => h) rfl (ld3 1 ⟨_, rfl, rfl⟩ Tryd.isAgg40 Tryd.sizeOf40 rfl (hasBlk m0) rfl rfl) ?_
            refine takeV (li' := #[true, true, true, true, true, true, true, true, true, true, true, true, true, true, true, true, false, false, false, false, false, false, false, false]) 15 rfl (by kernel_rfl) (by kernel_rfl) (fun _ h => h) rfl (mv ⟨_, rfl, rfl⟩ rfl) ?_
            refine takeV (li' := #[true, true, true, true, true, true, true, true, true, true, true, true, true, true, true, true, false, true, false, false, false, false, false, false]) 17 rfl (by kernel_rfl) (by kernel_rfl) (fun _ h => h) rfl (fad ⟨_, rfl, rfl⟩ fa_api_Quad_2 rfl) ?_
            refine takeV (li' := #[true, true, true, true, true, true, true, true, true, true, true, true, true, true, true, true, false, true, true, false, false, false, false, false]) 18 rfl (by kernel_rfl) (by kernel_rfl) (fun _ h => h) rfl (ld3 4 ⟨_, rfl, rfl⟩ Tryd.isAgg40 Tryd.sizeOf40 rfl (hasBlk m0) rfl rfl) ?_
            refine takeV (li' := #[true, true, true, true, true, true, true, true, true, true, true, true, true, true, true, true, false, true, true, true, false, false, false, false]) 19 rfl (by kernel_rfl) (by kernel_rfl) (fun _ h => h) rfl (mv ⟨_, rfl, rfl⟩ rfl) ?_
            refine stepD (i := 16) (li' := #[true, true, true, true, true, true, true, true, true, true, true, true, true, true, true, true, true, true, true, true, false, false, false, false]) (by kernel_rfl) rfl (by kernel_rfl) ?_
            refine callG rfl ⟨_, rfl, rfl⟩ rfl rfl Tryd.call48 rfl (fun w hw => coord_spec _ _ _ _ w) ?_
            refine nil ?_
            refine nxD (fun _ h => h) ?_
            refine stepD (i := 20) (li' := #[true, true, true, true, true, true, true, true, true, true, true, true, true, true, true, true, true, true, true, true, true, false, false, false]) (by kernel_rfl) rfl (by kernel_rfl) ?_
            refine callG rfl ⟨_, rfl, rfl⟩ rfl rfl Tryd.call48 rfl (fun w hw => coord_spec _ _ _ _ w) ?_
            refine nil ?_
            refine nxD (fun _ h => h) ?_
            refine takeV (li' := #[true, true, true, true, true, true, true, true, true, true, true, true, true, true, true, true, true, true, true, true, true, true, false, false]) 21 rfl (by kernel_rfl) (by kernel_rfl) (fun _ h => h) rfl (ltI ⟨_, rfl, rfl⟩ rfl rfl) ?_
            refine takeV (li' := #[true, true, true, true, true, true, true, true, true, true, true, true, true, true, true, true, true, true, true, true, true, true, true, false]) 22 rfl (by kernel_rfl) (by kernel_rfl) (fun _ h => h) rfl (pkT trivial rfl rfl) ?_
            refine takeV (li' := #[true, true, true, true, true, true, true, true, true, true, true, true, true, true, true, true, true, true, true, true, true, true, true, true]) 23 rfl (by kernel_rfl) (by kernel_rfl) (fun _ h => h) rfl (asg trivial rfl) ?_
            refine doneD (by kernel_rfl) ?_
            refine thenN ?_
            refine ret ?_
            refine end1 Tryd.results30 rfl (fun w' hw => ?_)
            exact ⟨by rw [okQ_eq h5 (by simpa using h16) (by simpa using h21), h41, h52]; rfl, hw.drop1⟩
          · skip
            refine takeV (li' := #[true, true, true, true, true, true, true, true, true, true, true, true, true, true, false, false, false, false, false, false, false, false, false, false]) 13 rfl (by kernel_rfl) (by kernel_rfl) (fun _ h => h) rfl (skT rfl rfl) ?_
            refine takeV (li' := #[true, true, true, true, true, true, true, true, true, true, true, true, true, true, true, false, false, false, false, false, false, false, false, false]) 14 rfl (by kernel_rfl) (by kernel_rfl) (fun _ h => h) rfl (skT rfl rfl) ?_
            refine takeV (li' := #[true, true, true, true, true, true, true, true, true, true, true, true, true, true, true, true, false, false, false, false, false, false, false, false]) 15 rfl (by kernel_rfl) (by kernel_rfl) (fun _ h => h) rfl (skT rfl rfl) ?_
            refine takeV (li' := #[true, true, true, true, true, true, true, true, true, true, true, true, true, true, true, true, true, false, false, false, false, false, false, false]) 16 rfl (by kernel_rfl) (by kernel_rfl) (fun _ h => h) rfl (skT rfl rfl) ?_
            refine takeV (li' := #[true, true, true, true, true, true, true, true, true, true, true, true, true, true, true, true, true, true, false, false, false, false, false, false]) 17 rfl (by kernel_rfl) (by kernel_rfl) (fun _ h => h) rfl (skT rfl rfl) ?_
            refine takeV (li' := #[true, true, true, true, true, true, true, true, true, true, true, true, true, true, true, true, true, true, true, false, false, false, false, false]) 18 rfl (by kernel_rfl) (by kernel_rfl) (fun _ h => h) rfl (skT rfl rfl) ?_
            refine takeV (li' := #[true, true, true, true, true, true, true, true, true, true, true, true, true, true, true, true, true, true, true, true, false, false, false, false]) 19 rfl (by kernel_rfl) (by kernel_rfl) (fun _ h => h) rfl (skT rfl rfl) ?_
            refine takeV (li' := #[true, true, true, true, true, true, true, true, true, true, true, true, true, true, true, true, true, true, true, true, true, false, false, false]) 20 rfl (by kernel_rfl) (by kernel_rfl) (fun _ h => h) rfl (skT rfl rfl) ?_
            refine takeV (li' := #[true, true, true, true, true, true, true, true, true, true, true, true, true, true, true, true, true, true, true, true, true, true, false, false]) 21 rfl (by kernel_rfl) (by kernel_rfl) (fun _ h => h) rfl (skT rfl rfl) ?_
            refine takeV (li' := #[true, true, true, true, true, true, true, true, true, true, true, true, true, true, true, true, true, true, true, true, true, true, true, false]) 22 rfl (by kernel_rfl) (by kernel_rfl) (fun _ h => h) rfl (pkF trivial rfl rfl) ?_
            refine takeV (li' := #[true, true, true, true, true, true, true, true, true, true, true, true, true, true, true, true, true, true, true, true, true, true, true, true]) 23 rfl (by kernel_rfl) (by kernel_rfl) (fun _ h => h) rfl (asg trivial rfl) ?_
            refine doneD (by kernel_rfl) ?_
            refine thenN ?_
            refine ret ?_
            refine end1 Tryd.results30 rfl (fun w' hw => ?_)
            exact ⟨by rw [okQ_eq h5 (by simpa using h16) (by simpa using h21), h41, h52]; rfl, hw.drop1⟩
        · skip
          refine takeV (li' := #[true, true, true, false, false, false, false, false, false, false, false, false, false, false, false, false, false, false, false, false, false, false, false, false]) 2 rfl (by kernel_rfl) (by kernel_rfl) (fun _ h => h) rfl (skT rfl rfl) ?_
          refine takeV (li' := #[true, true, true, true, false, false, false, false, false, false, false, false, false, false, false, false, false, false, false, false, false, false, false, false]) 3 rfl (by kernel_rfl) (by kernel_rfl) (fun _ h => h) rfl (skT rfl rfl) ?_
          refine takeV (li' := #[true, true, true, true, true, false, false, false, false, false, false, false, false, false, false, false, false, false, false, false, false, false, false, false]) 4 rfl (by kernel_rfl) (by kernel_rfl) (fun _ h => h) rfl (skT rfl rfl) ?_
          refine takeV (li' := #[true, true, true, true, true, true, false, false, false, false, false, false, false, false, false, false, false, false, false, false, false, false, false, false]) 5 rfl (by kernel_rfl) (by kernel_rfl) (fun _ h => h) rfl (skT rfl rfl) ?_
          refine takeV (li' := #[true, true, true, true, true, true, true, false, false, false, false, false, false, false, false, false, false, false, false, false, false, false, false, false]) 6 rfl (by kernel_rfl) (by kernel_rfl) (fun _ h => h) rfl (skT rfl rfl) ?_
          refine takeV (li' := #[true, true, true, true, true, true, true, true, false, false, false, false, false, false, false, false, false, false, false, false, false, false, false, false]) 7 rfl (by kernel_rfl) (by kernel_rfl) (fun _ h => h) rfl (skT rfl rfl) ?_
          refine takeV (li' := #[true, true, true, true, true, true, true, true, true, false, false, false, false, false, false, false, false, false, false, false, false, false, false, false]) 8 rfl (by kernel_rfl) (by kernel_rfl) (fun _ h => h) rfl (skT rfl rfl) ?_
          refine takeV (li' := #[true, true, true, true, true, true, true, true, true, true, false, false, false, false, false, false, false, false, false, false, false, false, false, false]) 9 rfl (by kernel_rfl) (by kernel_rfl) (fun _ h => h) rfl (skT rfl rfl) ?_
          refine takeV (li' := #[true, true, true, true, true, true, true, true, true, true, true, false, false, false, false, false, false, false, false, false, false, false, false, false]) 10 rfl (by kernel_rfl) (by kernel_rfl) (fun _ h => h) rfl (skT rfl rfl) ?_
          refine takeV (li' := #[true, true, true, true, true, true, true, true, true, true, true, true, false, false, false, false, false, false, false, false, false, false, false, false]) 11 rfl (by kernel_rfl) (by kernel_rfl) (fun _ h => h) rfl (pkF trivial rfl rfl) ?_
          refine takeV (li' := #[true, true, true, true, true, true, true, true, true, true, true, true, true, false, false, false, false, false, false, false, false, false, false, false]) 12 rfl (by kernel_rfl) (by kernel_rfl) (fun _ h => h) rfl (mv trivial rfl) ?_
          refine takeV (li' := #[true, true, true, true, true, true, true, true, true, true, true, true, true, true, false, false, false, false, false, false, false, false, false, false]) 13 rfl (by kernel_rfl) (by kernel_rfl) (fun _ h => h) rfl (skT rfl rfl) ?_
          refine takeV (li' := #[true, true, true, true, true, true, true, true, true, true, true, true, true, true, true, false, false, false, false, false, false, false, false, false]) 14 rfl (by kernel_rfl) (by kernel_rfl) (fun _ h => h) rfl (skT rfl rfl) ?_
          refine takeV (li' := #[true, true, true, true, true, true, true, true, true, true, true, true, true, true, true, true, false, false, false, false, false, false, false, false]) 15 rfl (by kernel_rfl) (by kernel_rfl) (fun _ h => h) rfl (skT rfl rfl) ?_
          refine takeV (li' := #[true, true, true, true, true, true, true, true, true, true, true, true, true, true, true, true, true, false, false, false, false, false, false, false]) 16 rfl (by kernel_rfl) (by kernel_rfl) (fun _ h => h) rfl (skT rfl rfl) ?_
          refine takeV (li' := #[true, true, true, true, true, true, true, true, true, true, true, true, true, true, true, true, true, true, false, false, false, false, false, false]) 17 rfl (by kernel_rfl) (by kernel_rfl) (fun _ h => h) rfl (skT rfl rfl) ?_
          refine takeV (li' := #[true, true, true, true, true, true, true, true, true, true, true, true, true, true, true, true, true, true, true, false, false, false, false, false]) 18 rfl (by kernel_rfl) (by kernel_rfl) (fun _ h => h) rfl (skT rfl rfl) ?_
          refine takeV (li' := #[true, true, true, true, true, true, true, true, true, true, true, true, true, true, true, true, true, true, true, true, false, false, false, false]) 19 rfl (by kernel_rfl) (by kernel_rfl) (fun _ h => h) rfl (skT rfl rfl) ?_
          refine takeV (li' := #[true, true, true, true, true, true, true, true, true, true, true, true, true, true, true, true, true, true, true, true, true, false, false, false]) 20 rfl (by kernel_rfl) (by kernel_rfl) (fun _ h => h) rfl (skT rfl rfl) ?_
          refine takeV (li' := #[true, true, true, true, true, true, true, true, true, true, true, true, true, true, true, true, true, true, true, true, true, true, false, false]) 21 rfl (by kernel_rfl) (by kernel_rfl) (fun _ h => h) rfl (skT rfl rfl) ?_
          refine takeV (li' := #[true, true, true, true, true, true, true, true, true, true, true, true, true, true, true, true, true, true, true, true, true, true, true, false]) 22 rfl (by kernel_rfl) (by kernel_rfl) (fun _ h => h) rfl (pkF trivial rfl rfl) ?_
          refine takeV (li' := #[true, true, true, true, true, true, true, true, true, true, true, true, true, true, true, true, true, true, true, true, true, true, true, true]) 23 rfl (by kernel_rfl) (by kernel_rfl) (fun _ h => h) rfl (asg trivial rfl) ?_
          refine doneD (by kernel_rfl) ?_
          refine thenN ?_
          refine ret ?_
          refine end1 Tryd.results30 rfl (fun w' hw => ?_)
          exact ⟨by rw [okQ_eq h5 (by simpa using h16) (by simpa using h21), h41]; rfl, hw.drop1⟩
theorem rcheck_spec (l : List Qd) (h0 : ∀ q ∈ l, 0 ≤ q.d) (a : Option Addr) (c : Nat) (w : World) (hs : SlAt w 7 a (l.map Qd.row)) : Gives Tryd.prog 12 [.slice a l.length c] w (.int .i64 (chk l)) := by
  obtain ⟨b, o, ha, hrow⟩ := hs
  refine enter (A := St w No []) Tryd.func12 rfl Tryd.ntmps12 (Nat.le_of_ble_eq_true rfl) (St.start w No) ?_
  refine seq ?_
  refine region ?_
  refine vl rfl (asg trivial rfl) ?_
  refine nil ?_
  refine thenN ?_
  refine seq ?_
  refine seq ?_
  refine region ?_
  refine vl rfl (mv trivial rfl) ?_
  refine vl rfl (lenL trivial rfl Tryd.runUnderlying22) ?_
  refine vl rfl (gtI trivial rfl rfl) ?_
  refine nil ?_
  refine thenN ?_
  refine cond rfl (fun h6 => ?_) (fun h6 => ?_)
  · skip
    refine seq ?_
    refine region ?_
    refine vl rfl (asg trivial rfl) ?_
    refine nil ?_
    refine thenN ?_
    refine ret ?_
    refine thenR ?_
    refine end1 Tryd.results12 rfl (fun w' hw => ?_)
    exact ⟨by rw [chk_many (by have := of_decide_eq_true h6; omega)], hw⟩
  · skip
    refine skip ?_
    refine thenN ?_
    refine seq ?_
    refine seq ?_
    refine region ?_
    refine vl rfl (asg trivial rfl) ?_
    refine nil ?_
    refine thenN ?_
    refine block ?_
    refine loop (γ := Nat) (fun g => (l.take g).all okQ = true ∧ g ≤ l.length) (fun g => [(0, .slice a l.length c), (3, .int .i64 (g : Nat))]) (fun g => St w No []) (fun g => l.length - g) 0 ⟨by simp, by omega⟩ ?_ (fun w hw => ?_) (fun g hg => ?_)
    · repeat' (first | exact trivial | (refine And.intro ?_ ?_) | rfl)
    · exact hw
    refine seq ?_
    refine seq ?_
    refine region ?_
    refine vl rfl (mv trivial rfl) ?_
    refine vl rfl (mv trivial rfl) ?_
    refine vl rfl (lenL trivial rfl Tryd.runUnderlying22) ?_
    refine vl rfl (ltI trivial rfl rfl) ?_
    refine nil ?_
    refine thenN ?_
    refine cond rfl (fun h10 => ?_) (fun h10 => ?_)
    · have hi : g < l.length := by simpa using h10
      obtain ⟨q, hq⟩ := getQ hi
      have hd0 := h0 q (List.mem_of_getElem? hq)
      refine skip ?_
      refine thenN ?_
      refine seq ?_
      refine block ?_
      refine seq ?_
      refine region ?_
      refine vl rfl (mv trivial rfl) ?_
      refine vl rfl (mv trivial rfl) ?_
      refine vl rfl (ixA trivial sl_L_api_Quad rfl rfl rfl hi (ha (map_ne hi))) ?_
      refine vl rfl (ld7 0 trivial Tryd.isAgg42 Tryd.sizeOf42 rfl (hasArg (hrow g _ (rowQ hq)) (fun h => h)) rfl rfl) ?_
      refine callG rfl trivial rfl rfl Tryd.call30 rfl (fun w hw => valid_spec q hd0 w) ?_
      refine vl rfl (notB trivial rfl) ?_
      refine nil ?_
      refine thenN ?_
      refine cond rfl (fun h18 => ?_) (fun h18 => ?_)
      · skip
        refine seq ?_
        refine region ?_
        refine vl rfl (asg trivial rfl) ?_
        refine nil ?_
        refine thenN ?_
        refine ret ?_
        refine blkR (thenR (loopR (blkR (thenR ?_))))
        refine end1 Tryd.results12 rfl (fun w' hw => ?_)
        exact ⟨by rw [chk_bad (by have := of_decide_eq_false h6; omega) hq (by simpa using h18)], hw⟩
      · skip
        refine skip ?_
        refine blkN ?_
        refine thenN ?_
        refine region ?_
        refine vl rfl (mv trivial rfl) ?_
        have hn3 := of_decide_eq_false h6
        refine vl rfl (addI trivial rfl rfl (i64r (by omega))) ?_
        refine vl rfl (asg trivial rfl) ?_
        refine nil ?_
        refine loopN (g + 1) ⟨take_all hq hg.1 (by simpa using h18), by omega⟩ (by omega) (by repeat' (first | exact trivial | (refine And.intro ?_ ?_) | rfl)) (fun w hw => ?_)
        exact hw
    · skip
      refine exit ?_
      refine thenX ?_
      refine loopX ?_
      refine blkX ?_
      refine thenN ?_
      refine seq ?_
      refine region ?_
      refine vl rfl (asg trivial rfl) ?_
      refine nil ?_
      refine thenN ?_
      refine ret ?_
      refine end1 Tryd.results12 rfl (fun w' hw => ?_)
      have h1 : g = l.length := by have := of_decide_eq_false h10; omega
      exact ⟨by rw [chk_ok (by have := of_decide_eq_false h6; omega) (by rw [← h1]; exact hg.1)], hw⟩
theorem eqVec (d : Nat) (x y z x' y' z' : Int) (w : World) : (Op.equalIn (d + 2) 40 (vec x y z) (vec x' y' z')).run Tryd.prog w = .ok (decide (x = x') && (decide (y = y') && decide (z = z'))) w := by
  rw [run_equalIn_struct w (d + 1) 40 _ _ (by kernel_rfl) (by kernel_rfl)]
  simp only [Program.fieldsOf, Tryd.underlying40, Op.eqFields]
  simp [part, Tryd.isAgg3, run_equalIn_int w d 3 .i64 .i64 _ _ Tryd.underlying3]
  by_cases h1 : x = x' <;> by_cases h2 : y = y' <;> by_cases h3 : z = z' <;> simp [h1, h2, h3]
theorem neQd (q r : Qd) (w : World) : (binOp .neq 42 (.agg q.row.toArray) (.agg r.row.toArray)).run Tryd.prog w = .ok (.bool (!decide (q = r))) w := by
  rw [run_neq_struct, run_equalIn_struct w 9999 42 _ _ (by kernel_rfl) (by kernel_rfl)]
  simp only [Program.fieldsOf, Tryd.underlying42, Op.eqFields]
  have e1 := eqVec 9997 q.x0 q.y0 q.z0 r.x0 r.y0 r.z0 w
  have e2 := eqVec 9997 q.x1 q.y1 q.z1 r.x1 r.y1 r.z1 w
  obtain ⟨d, x0, y0, z0, x1, y1, z1⟩ := q
  obtain ⟨d', x0', y0', z0', x1', y1', z1'⟩ := r
  simp only at e1 e2
  simp [part, Qd.row, Tryd.isAgg5, Tryd.isAgg40, Tryd.sizeOf40, run_equalIn_int w 9998 5 .u8 .u8 _ _ Tryd.underlying5, e1, e2]
  by_cases h0 : d = d' <;> by_cases h1 : x0 = x0' <;> by_cases h2 : y0 = y0' <;> by_cases h3 : z0 = z0' <;> by_cases h4 : x1 = x1' <;> by_cases h5 : y1 = y1' <;> by_cases h6 : z1 = z1' <;> simp [h0, h1, h2, h3, h4, h5, h6]
theorem sameQuads_spec (l m : List Qd) (a a' : Option Addr) (c c' : Nat) (w : World) (hl : l.length ≤ maxLen) (hs : SlAt w 7 a (l.map Qd.row)) (hs' : SlAt w 7 a' (m.map Qd.row)) :
    Gives Tryd.prog 8 [.slice a l.length c, .slice a' m.length c'] w (.bool (decide (l = m))) := by
  obtain ⟨b, o, ha, hrow⟩ := hs
  obtain ⟨b', o', ha', hrow'⟩ := hs'
  refine enter (A := St w No []) Tryd.func8 rfl Tryd.ntmps8 (Nat.le_of_ble_eq_true rfl) (St.start w No) ?_
  refine seq ?_
  refine region ?_
  refine vl rfl (asg trivial rfl) ?_
  refine nil ?_
  refine thenN ?_
  refine seq ?_
  refine seq ?_
  refine region ?_
  refine vl rfl (mv trivial rfl) ?_
  refine vl rfl (lenL trivial rfl Tryd.runUnderlying22) ?_
  refine vl rfl (mv trivial rfl) ?_
  refine vl rfl (lenL trivial rfl Tryd.runUnderlying22) ?_
  refine vl rfl (neI trivial rfl rfl) ?_
  refine nil ?_
  refine thenN ?_
  refine cond rfl (fun h10 => ?_) (fun h10 => ?_)
  · skip
    refine seq ?_
    refine region ?_
    refine vl rfl (asg trivial rfl) ?_
    refine nil ?_
    refine thenN ?_
    refine ret ?_
    refine thenR ?_
    refine end1 Tryd.results8 rfl (fun w' hw => ?_)
    have h : l ≠ m := fun e => by subst e; simp at h10
    exact ⟨by simp [h], hw⟩
  · have hlen : l.length = m.length := by have : (l.length : Int) = m.length := by { simpa using h10 }; omega
    refine skip ?_
    refine thenN ?_
    refine seq ?_
    refine seq ?_
    refine region ?_
    refine vl rfl (asg trivial rfl) ?_
    refine nil ?_
    refine thenN ?_
    refine block ?_
    refine loop (γ := Nat) (fun g => l.take g = m.take g ∧ g ≤ l.length) (fun g => [(0, .slice a l.length c), (1, .slice a' m.length c'), (5, .int .i64 (g : Nat))]) (fun g => St w No []) (fun g => l.length - g) 0 ⟨by simp, by omega⟩ ?_ (fun w hw => ?_) (fun g hg => ?_)
    · repeat' (first | exact trivial | (refine And.intro ?_ ?_) | rfl)
    · exact hw
    refine seq ?_
    refine seq ?_
    refine region ?_
    refine vl rfl (mv trivial rfl) ?_
    refine vl rfl (mv trivial rfl) ?_
    refine vl rfl (lenL trivial rfl Tryd.runUnderlying22) ?_
    refine vl rfl (ltI trivial rfl rfl) ?_
    refine nil ?_
    refine thenN ?_
    refine cond rfl (fun h14 => ?_) (fun h14 => ?_)
    · have hi : g < l.length := by simpa using h14
      have hi' : g < m.length := by omega
      obtain ⟨q, hq⟩ := getQ hi
      obtain ⟨r, hr⟩ := getQ hi'
      refine skip ?_
      refine thenN ?_
      refine seq ?_
      refine block ?_
      refine seq ?_
      refine regionE (li := #[false, false, false, false, false, false, false, false, false]) mixed rfl rfl ?_
      refine takeV (li' := #[true, false, false, false, false, false, false, false, false]) 0 rfl (by kernel_rfl) (by kernel_rfl) (fun _ h => h) rfl (mv trivial rfl) ?_
      refine takeV (li' := #[true, true, false, false, false, false, false, false, false]) 1 rfl (by kernel_rfl) (by kernel_rfl) (fun _ h => h) rfl (mv trivial rfl) ?_
      refine takeV (li' := #[true, true, true, false, false, false, false, false, false]) 2 rfl (by kernel_rfl) (by kernel_rfl) (fun _ h => h) rfl (ixA trivial sl_L_api_Quad rfl rfl rfl hi (ha (map_ne hi))) ?_
      refine takeV (li' := #[true, true, true, true, false, false, false, false, false]) 3 rfl (by kernel_rfl) (by kernel_rfl) (fun _ h => h) rfl (ld7 0 trivial Tryd.isAgg42 Tryd.sizeOf42 rfl (hasArg (hrow g _ (rowQ hq)) (fun h => h)) rfl rfl) ?_
      refine takeV (li' := #[true, true, true, true, true, false, false, false, false]) 4 rfl (by kernel_rfl) (by kernel_rfl) (fun _ h => h) rfl (mv trivial rfl) ?_
      refine takeV (li' := #[true, true, true, true, true, true, false, false, false]) 5 rfl (by kernel_rfl) (by kernel_rfl) (fun _ h => h) rfl (mv trivial rfl) ?_
      refine takeV (li' := #[true, true, true, true, true, true, true, false, false]) 6 rfl (by kernel_rfl) (by kernel_rfl) (fun _ h => h) rfl (ixA trivial sl_L_api_Quad rfl rfl rfl hi' (ha' (map_ne hi'))) ?_
      refine takeV (li' := #[true, true, true, true, true, true, true, true, false]) 7 rfl (by kernel_rfl) (by kernel_rfl) (fun _ h => h) rfl (ld7 0 trivial Tryd.isAgg42 Tryd.sizeOf42 rfl (hasArg (hrow' g _ (rowQ hr)) (fun h => h)) rfl rfl) ?_
      refine takeV (li' := #[true, true, true, true, true, true, true, true, true]) 8 rfl (by kernel_rfl) (by kernel_rfl) (fun _ h => h) rfl (binV trivial rfl rfl (fun w => run_eqGuard_agg w _ _ _ _ _ _ (by kernel_rfl)) (fun w => neQd q r w)) ?_
      refine doneD (by kernel_rfl) ?_
      refine thenN ?_
      refine cond rfl (fun h25 => ?_) (fun h25 => ?_)
      · skip
        refine seq ?_
        refine region ?_
        refine vl rfl (asg trivial rfl) ?_
        refine nil ?_
        refine thenN ?_
        refine ret ?_
        refine blkR (thenR (loopR (blkR (thenR ?_))))
        refine end1 Tryd.results8 rfl (fun w' hw => ?_)
        have h : l ≠ m := fun e => by subst e; rw [hq] at hr; injection hr with hr; subst hr; simp at h25
        exact ⟨by simp [h], hw⟩
      · skip
        refine skip ?_
        refine blkN ?_
        refine thenN ?_
        refine region ?_
        refine vl rfl (mv trivial rfl) ?_
        have hn3 : l.length ≤ 9223372036854775807 := hl
        refine vl rfl (addI trivial rfl rfl (i64r (by omega))) ?_
        refine vl rfl (asg trivial rfl) ?_
        refine nil ?_
        refine loopN (g + 1) ⟨take_same hg.1 hq (by have h := of_decide_eq_true (by simpa using h25 : decide (q = r) = true); rw [h]; exact hr), by omega⟩ (by omega) (by repeat' (first | exact trivial | (refine And.intro ?_ ?_) | rfl)) (fun w hw => ?_)
        exact hw
    · skip
      refine exit ?_
      refine thenX ?_
      refine loopX ?_
      refine blkX ?_
      refine thenN ?_
      refine seq ?_
      refine region ?_
      refine vl rfl (asg trivial rfl) ?_
      refine nil ?_
      refine thenN ?_
      refine ret ?_
      refine end1 Tryd.results8 rfl (fun w' hw => ?_)
      have h1 : g = l.length := by have := of_decide_eq_false h14; omega
      have h : l = m := same_take hlen (by rw [← h1]; exact hg.1)
      exact ⟨by simp [h], hw⟩
end Go.Proofs.YtggofhbblidimaaDoor
