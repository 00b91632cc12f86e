/- Walks: the small functions of quads. -/
import Derived.Test.YtggofhbblidimaaDoorTypes
import Derived.Test.YtggofhbblidimaaDoorPlainA
namespace Go.Proofs.YtggofhbblidimaaDoor
open Go Go.RowKit Eng
set_option maxRecDepth 4000
theorem fine_spec (x y z : Int) (w : World) : Gives Tryd.prog 23 [.agg #[.int .i64 x, .int .i64 y, .int .i64 z]] w (.bool (fineB x y z)) := by
  refine enter (A := St w No []) Tryd.func23 rfl Tryd.ntmps23 (Nat.le_of_ble_eq_true rfl) (St.start w No) ?_
  refine seq ?_
  refine region ?_
  refine bx _ rfl trivial rfl rfl (fun b1 hb1 => ?_)
  refine vl rfl (asg trivial rfl) ?_
  refine nil ?_
  refine thenN ?_
  refine seq ?_
  refine region ?_
  refine vl rfl (fad trivial fa_api_Vec_0 rfl) ?_
  refine vl rfl (ld1 0 trivial Tryd.isAgg3 rfl (hasBlk m0) rfl rfl) ?_
  refine vl rfl (fad trivial fa_api_Vec_1 rfl) ?_
  refine vl rfl (ld1 1 trivial Tryd.isAgg3 rfl (hasBlk m0) rfl rfl) ?_
  refine vl rfl (fad trivial fa_api_Vec_2 rfl) ?_
  refine vl rfl (ld1 2 trivial Tryd.isAgg3 rfl (hasBlk m0) rfl rfl) ?_
  refine vl rfl (min3 trivial rfl rfl rfl) ?_
  refine vl rfl (geI trivial rfl rfl) ?_
  refine vl rfl (mv trivial rfl) ?_
  refine splitB 11 rfl (fun h11 => ?_) (fun h11 => ?_)
  · skip
    refine vl rfl (fad ⟨_, rfl, rfl⟩ fa_api_Vec_0 rfl) ?_
    refine vl rfl (ld1 0 ⟨_, rfl, rfl⟩ Tryd.isAgg3 rfl (hasBlk m0) rfl rfl) ?_
    refine vl rfl (fad ⟨_, rfl, rfl⟩ fa_api_Vec_1 rfl) ?_
    refine vl rfl (ld1 1 ⟨_, rfl, rfl⟩ Tryd.isAgg3 rfl (hasBlk m0) rfl rfl) ?_
    refine vl rfl (fad ⟨_, rfl, rfl⟩ fa_api_Vec_2 rfl) ?_
    refine vl rfl (ld1 2 ⟨_, rfl, rfl⟩ Tryd.isAgg3 rfl (hasBlk m0) rfl rfl) ?_
    refine vl rfl (max3 ⟨_, rfl, rfl⟩ rfl rfl rfl) ?_
    refine vl rfl (leI ⟨_, rfl, rfl⟩ rfl rfl) ?_
    refine vl rfl (pkT trivial rfl rfl) ?_
    refine vl rfl (asg trivial rfl) ?_
    refine nil ?_
    refine thenN ?_
    refine ret ?_
    refine end1 Tryd.results23 rfl (fun w' hw => ?_)
    exact ⟨by simp only [fineB, h11, Bool.true_and], hw.drop1⟩
  · skip
    refine vl rfl (skT rfl rfl) ?_
    refine vl rfl (skT rfl rfl) ?_
    refine vl rfl (skT rfl rfl) ?_
    refine vl rfl (skT rfl rfl) ?_
    refine vl rfl (skT rfl rfl) ?_
    refine vl rfl (skT rfl rfl) ?_
    refine vl rfl (skT rfl rfl) ?_
    refine vl rfl (skT rfl rfl) ?_
    refine vl rfl (pkF trivial rfl rfl) ?_
    refine vl rfl (asg trivial rfl) ?_
    refine nil ?_
    refine thenN ?_
    refine ret ?_
    refine end1 Tryd.results23 rfl (fun w' hw => ?_)
    exact ⟨by simp only [fineB, h11, Bool.false_and], hw.drop1⟩
/-- The functions of a view. -/
def alF (a : Nat) : Nat := if a = 0 then 35 else if a = 1 then 38 else 41
def flF (a : Nat) : Nat := if a = 0 then 36 else if a = 1 then 39 else 42
def bkF (a : Nat) : Nat := if a = 0 then 37 else if a = 1 then 40 else 43
theorem al0 (x y z : Int) (w : World) : Gives Tryd.prog 35 [vec x y z] w (.int .i64 x) := by
  refine enter (A := St w No []) Tryd.func35 rfl Tryd.ntmps35 (Nat.le_of_ble_eq_true rfl) (St.start w No) ?_
  refine seq ?_
  refine region ?_
  refine bx _ rfl trivial rfl rfl (fun b1 hb1 => ?_)
  refine vl rfl (asg trivial rfl) ?_
  refine nil ?_
  refine thenN ?_
  refine seq ?_
  refine region ?_
  refine vl rfl (fad trivial fa_api_Vec_0 rfl) ?_
  refine vl rfl (ld1 0 trivial Tryd.isAgg3 rfl (hasBlk m0) rfl rfl) ?_
  refine vl rfl (asg trivial rfl) ?_
  refine nil ?_
  refine thenN ?_
  refine ret ?_
  refine end1 Tryd.results35 rfl (fun w' hw => ?_)
  exact ⟨rfl, hw.drop1⟩
theorem al1 (x y z : Int) (w : World) : Gives Tryd.prog 38 [vec x y z] w (.int .i64 y) := by
  refine enter (A := St w No []) Tryd.func38 rfl Tryd.ntmps38 (Nat.le_of_ble_eq_true rfl) (St.start w No) ?_
  refine seq ?_
  refine region ?_
  refine bx _ rfl trivial rfl rfl (fun b1 hb1 => ?_)
  refine vl rfl (asg trivial rfl) ?_
  refine nil ?_
  refine thenN ?_
  refine seq ?_
  refine region ?_
  refine vl rfl (fad trivial fa_api_Vec_1 rfl) ?_
  refine vl rfl (ld1 1 trivial Tryd.isAgg3 rfl (hasBlk m0) rfl rfl) ?_
  refine vl rfl (asg trivial rfl) ?_
  refine nil ?_
  refine thenN ?_
  refine ret ?_
  refine end1 Tryd.results38 rfl (fun w' hw => ?_)
  exact ⟨rfl, hw.drop1⟩
theorem al2 (x y z : Int) (w : World) : Gives Tryd.prog 41 [vec x y z] w (.int .i64 z) := by
  refine enter (A := St w No []) Tryd.func41 rfl Tryd.ntmps41 (Nat.le_of_ble_eq_true rfl) (St.start w No) ?_
  refine seq ?_
  refine region ?_
  refine bx _ rfl trivial rfl rfl (fun b1 hb1 => ?_)
  refine vl rfl (asg trivial rfl) ?_
  refine nil ?_
  refine thenN ?_
  refine seq ?_
  refine region ?_
  refine vl rfl (fad trivial fa_api_Vec_2 rfl) ?_
  refine vl rfl (ld1 2 trivial Tryd.isAgg3 rfl (hasBlk m0) rfl rfl) ?_
  refine vl rfl (asg trivial rfl) ?_
  refine nil ?_
  refine thenN ?_
  refine ret ?_
  refine end1 Tryd.results41 rfl (fun w' hw => ?_)
  exact ⟨rfl, hw.drop1⟩
theorem fl0 (x y z : Int) (w : World) : Gives Tryd.prog 36 [vec x y z] w (.tuple #[.int .i64 y, .int .i64 z]) := by
  refine enter (A := St w No []) Tryd.func36 rfl Tryd.ntmps36 (Nat.le_of_ble_eq_true rfl) (St.start w No) ?_
  refine seq ?_
  refine region ?_
  refine bx _ rfl trivial rfl rfl (fun b1 hb1 => ?_)
  refine vl rfl (asg trivial rfl) ?_
  refine vl rfl (asg trivial rfl) ?_
  refine nil ?_
  refine thenN ?_
  refine seq ?_
  refine regionE (li := #[false, false, false, false, false, false]) mixed rfl rfl ?_
  refine takeV (li' := #[true, false, false, false, false, false]) 0 rfl (by kernel_rfl) (by kernel_rfl) (fun _ h => h) rfl (fad trivial fa_api_Vec_1 rfl) ?_
  refine takeV (li' := #[true, true, false, false, false, false]) 1 rfl (by kernel_rfl) (by kernel_rfl) (fun _ h => h) rfl (ld1 1 trivial Tryd.isAgg3 rfl (hasBlk m0) rfl rfl) ?_
  refine takeV (li' := #[true, true, true, false, false, false]) 2 rfl (by kernel_rfl) (by kernel_rfl) (fun _ h => h) rfl (fad trivial fa_api_Vec_2 rfl) ?_
  refine takeV (li' := #[true, true, true, true, false, false]) 3 rfl (by kernel_rfl) (by kernel_rfl) (fun _ h => h) rfl (ld1 2 trivial Tryd.isAgg3 rfl (hasBlk m0) rfl rfl) ?_
  refine takeV (li' := #[true, true, true, true, true, false]) 4 rfl (by kernel_rfl) (by kernel_rfl) (fun _ h => h) rfl (asg trivial rfl) ?_
  refine takeV (li' := #[true, true, true, true, true, true]) 5 rfl (by kernel_rfl) (by kernel_rfl) (fun _ h => h) rfl (asg trivial rfl) ?_
  refine doneD (by kernel_rfl) ?_
  refine thenN ?_
  refine ret ?_
  refine end2 Tryd.results36 rfl rfl (fun w' hw => ?_)
  exact ⟨rfl, hw.drop1⟩
theorem fl1 (x y z : Int) (w : World) : Gives Tryd.prog 39 [vec x y z] w (.tuple #[.int .i64 x, .int .i64 z]) := by
  refine enter (A := St w No []) Tryd.func39 rfl Tryd.ntmps39 (Nat.le_of_ble_eq_true rfl) (St.start w No) ?_
  refine seq ?_
  refine region ?_
  refine bx _ rfl trivial rfl rfl (fun b1 hb1 => ?_)
  refine vl rfl (asg trivial rfl) ?_
  refine vl rfl (asg trivial rfl) ?_
  refine nil ?_
  refine thenN ?_
  refine seq ?_
  refine regionE (li := #[false, false, false, false, false, false]) mixed rfl rfl ?_
  refine takeV (li' := #[true, false, false, false, false, false]) 0 rfl (by kernel_rfl) (by kernel_rfl) (fun _ h => h) rfl (fad trivial fa_api_Vec_0 rfl) ?_
  refine takeV (li' := #[true, true, false, false, false, false]) 1 rfl (by kernel_rfl) (by kernel_rfl) (fun _ h => h) rfl (ld1 0 trivial Tryd.isAgg3 rfl (hasBlk m0) rfl rfl) ?_
  refine takeV (li' := #[true, true, true, false, false, false]) 2 rfl (by kernel_rfl) (by kernel_rfl) (fun _ h => h) rfl (fad trivial fa_api_Vec_2 rfl) ?_
  refine takeV (li' := #[true, true, true, true, false, false]) 3 rfl (by kernel_rfl) (by kernel_rfl) (fun _ h => h) rfl (ld1 2 trivial Tryd.isAgg3 rfl (hasBlk m0) rfl rfl) ?_
  refine takeV (li' := #[true, true, true, true, true, false]) 4 rfl (by kernel_rfl) (by kernel_rfl) (fun _ h => h) rfl (asg trivial rfl) ?_
  refine takeV (li' := #[true, true, true, true, true, true]) 5 rfl (by kernel_rfl) (by kernel_rfl) (fun _ h => h) rfl (asg trivial rfl) ?_
  refine doneD (by kernel_rfl) ?_
  refine thenN ?_
  refine ret ?_
  refine end2 Tryd.results39 rfl rfl (fun w' hw => ?_)
  exact ⟨rfl, hw.drop1⟩
theorem fl2 (x y z : Int) (w : World) : Gives Tryd.prog 42 [vec x y z] w (.tuple #[.int .i64 x, .int .i64 y]) := by
  refine enter (A := St w No []) Tryd.func42 rfl Tryd.ntmps42 (Nat.le_of_ble_eq_true rfl) (St.start w No) ?_
  refine seq ?_
  refine region ?_
  refine bx _ rfl trivial rfl rfl (fun b1 hb1 => ?_)
  refine vl rfl (asg trivial rfl) ?_
  refine vl rfl (asg trivial rfl) ?_
  refine nil ?_
  refine thenN ?_
  refine seq ?_
  refine regionE (li := #[false, false, false, false, false, false]) mixed rfl rfl ?_
  refine takeV (li' := #[true, false, false, false, false, false]) 0 rfl (by kernel_rfl) (by kernel_rfl) (fun _ h => h) rfl (fad trivial fa_api_Vec_0 rfl) ?_
  refine takeV (li' := #[true, true, false, false, false, false]) 1 rfl (by kernel_rfl) (by kernel_rfl) (fun _ h => h) rfl (ld1 0 trivial Tryd.isAgg3 rfl (hasBlk m0) rfl rfl) ?_
  refine takeV (li' := #[true, true, true, false, false, false]) 2 rfl (by kernel_rfl) (by kernel_rfl) (fun _ h => h) rfl (fad trivial fa_api_Vec_1 rfl) ?_
  refine takeV (li' := #[true, true, true, true, false, false]) 3 rfl (by kernel_rfl) (by kernel_rfl) (fun _ h => h) rfl (ld1 1 trivial Tryd.isAgg3 rfl (hasBlk m0) rfl rfl) ?_
  refine takeV (li' := #[true, true, true, true, true, false]) 4 rfl (by kernel_rfl) (by kernel_rfl) (fun _ h => h) rfl (asg trivial rfl) ?_
  refine takeV (li' := #[true, true, true, true, true, true]) 5 rfl (by kernel_rfl) (by kernel_rfl) (fun _ h => h) rfl (asg trivial rfl) ?_
  refine doneD (by kernel_rfl) ?_
  refine thenN ?_
  refine ret ?_
  refine end2 Tryd.results42 rfl rfl (fun w' hw => ?_)
  exact ⟨rfl, hw.drop1⟩
theorem three {a : Nat} (h : a < 3) : a = 0 ∨ a = 1 ∨ a = 2 := by omega
theorem al_spec {a : Nat} (ha : a < 3) (x y z : Int) (w : World) : Gives Tryd.prog (alF a) [vec x y z] w (.int .i64 (sel a x y z)) := by
  rcases three ha with rfl | rfl | rfl
  · exact al0 x y z w
  · exact al1 x y z w
  · exact al2 x y z w
theorem fl_spec {a : Nat} (ha : a < 3) (x y z : Int) (w : World) : Gives Tryd.prog (flF a) [vec x y z] w (.tuple #[.int .i64 (sel1 a x y z), .int .i64 (sel2 a x y z)]) := by
  rcases three ha with rfl | rfl | rfl
  · exact fl0 x y z w
  · exact fl1 x y z w
  · exact fl2 x y z w
theorem call_al {a : Nat} (ha : a < 3) (xs : Array Value) (w : World) : (callFunc (alF a) xs).run Tryd.prog w = .ok (.enter (alF a) xs) w := by
  rcases three ha with rfl | rfl | rfl
  · exact Tryd.call35 xs w
  · exact Tryd.call38 xs w
  · exact Tryd.call41 xs w
theorem call_fl {a : Nat} (ha : a < 3) (xs : Array Value) (w : World) : (callFunc (flF a) xs).run Tryd.prog w = .ok (.enter (flF a) xs) w := by
  rcases three ha with rfl | rfl | rfl
  · exact Tryd.call36 xs w
  · exact Tryd.call39 xs w
  · exact Tryd.call42 xs w
def viewsL : List Value := [fnv (alF 0), fnv (flF 0), fnv (bkF 0), fnv (alF 1), fnv (flF 1), fnv (bkF 1), fnv (alF 2), fnv (flF 2), fnv (bkF 2)]
def viewsR (a : Nat) : List Value := viewsL.drop (a * 3 + 3)
theorem views_drop {a : Nat} (ha : a < 3) : viewsL.drop (a * 3) = fnv (alF a) :: fnv (flF a) :: fnv (bkF a) :: viewsR a := by
  rcases three ha with rfl | rfl | rfl <;> rfl
theorem views_spec (w : World) : Gives Tryd.prog 22 [] w (.agg viewsL.toArray) := by
  refine enter (A := St w No []) Tryd.func22 rfl Tryd.ntmps22 (Nat.le_of_ble_eq_true rfl) (St.start w No) ?_
  refine seq ?_
  refine region ?_
  refine alo _ rfl trivial Tryd.zeroValue68 rfl (fun b0 hb0 => ?_)
  refine nil ?_
  refine thenN ?_
  refine seq ?_
  refine region ?_
  refine vl rfl (bld trivial rfl (by intro w; exact bd_mesh_view_0_1_2 ..)) ?_
  refine vl rfl (bld trivial rfl (by intro w; exact bd_mesh_view_0_1_2 ..)) ?_
  refine vl rfl (bld trivial rfl (by intro w; exact bd_mesh_view_0_1_2 ..)) ?_
  refine vl rfl (bld trivial rfl (by intro w; exact bd_3_mesh_view_0_1_2 ..)) ?_
  refine stW _ trivial rfl rfl rfl Tryd.sizeOf68 rfl rfl (by first | exact all1 rfl | simp [Value.oneCell', sv_one]) ?_
  refine nil ?_
  refine thenN ?_
  refine ret ?_
  refine endC Tryd.results22 rfl Tryd.isAgg68 Tryd.sizeOf68 (hasBlk m0) rfl (fun w' hw => ?_)
  exact ⟨rfl, hw.drop1⟩
theorem rect_spec {a : Nat} (ha : a < 3) (x y z x' y' z' : Int) (w : World) : Gives Tryd.prog 24 [.agg #[fnv (alF a), fnv (flF a), fnv (bkF a)], vec x y z, vec x' y' z'] w
    (.agg #[.int .i64 (sel1 a x y z), .int .i64 (sel2 a x y z), .int .i64 (sel1 a x' y' z'), .int .i64 (sel2 a x' y' z')]) := by
  refine enter (A := St w No []) Tryd.func24 rfl Tryd.ntmps24 (Nat.le_of_ble_eq_true rfl) (St.start w No) ?_
  refine seq ?_
  refine region ?_
  refine bx _ rfl trivial rfl rfl (fun b3 hb3 => ?_)
  refine bx _ rfl trivial rfl rfl (fun b4 hb4 => ?_)
  refine bx _ rfl trivial rfl rfl (fun b5 hb5 => ?_)
  refine alo _ rfl trivial Tryd.zeroValue72 rfl (fun b6 hb6 => ?_)
  refine nil ?_
  refine thenN ?_
  refine seq ?_
  refine region ?_
  refine vl rfl (fad trivial fa_mesh_view_1 rfl) ?_
  refine vl rfl (ld1 1 trivial Tryd.isAgg64 rfl (hasBlk m3) rfl rfl) ?_
  refine vl rfl (ld3 0 trivial Tryd.isAgg40 Tryd.sizeOf40 rfl (hasBlk m2) rfl rfl) ?_
  refine callG rfl trivial rfl rfl (call_fl ha) rfl (fun w hw => fl_spec ha _ _ _ w) ?_
  refine vl rfl (mv trivial rfl) ?_
  refine vl rfl (extr trivial rfl rfl) ?_
  refine vl rfl (extr trivial rfl rfl) ?_
  refine vl rfl (asg trivial rfl) ?_
  refine vl rfl (asg trivial rfl) ?_
  refine nil ?_
  refine thenN ?_
  refine seq ?_
  refine region ?_
  refine vl rfl (fad trivial fa_mesh_view_1 rfl) ?_
  refine vl rfl (ld1 1 trivial Tryd.isAgg64 rfl (hasBlk m3) rfl rfl) ?_
  refine vl rfl (ld3 0 trivial Tryd.isAgg40 Tryd.sizeOf40 rfl (hasBlk m1) rfl rfl) ?_
  refine callG rfl trivial rfl rfl (call_fl ha) rfl (fun w hw => fl_spec ha _ _ _ w) ?_
  refine vl rfl (mv trivial rfl) ?_
  refine vl rfl (extr trivial rfl rfl) ?_
  refine vl rfl (extr trivial rfl rfl) ?_
  refine vl rfl (asg trivial rfl) ?_
  refine vl rfl (asg trivial rfl) ?_
  refine nil ?_
  refine thenN ?_
  refine seq ?_
  refine region ?_
  refine vl rfl (mv trivial rfl) ?_
  refine vl rfl (mv trivial rfl) ?_
  refine vl rfl (mv trivial rfl) ?_
  refine vl rfl (mv trivial rfl) ?_
  refine vl rfl (bld trivial rfl (by intro w; exact bd_api_Rect_0_1_2_3 ..)) ?_
  refine stW _ trivial rfl rfl rfl Tryd.sizeOf72 rfl rfl (by first | exact all1 rfl | simp [Value.oneCell', sv_one]) ?_
  refine nil ?_
  refine thenN ?_
  refine ret ?_
  refine endC Tryd.results24 rfl Tryd.isAgg72 Tryd.sizeOf72 (hasBlk m0) rfl (fun w' hw => ?_)
  exact ⟨rfl, hw.drop1.drop1.drop1.drop1⟩
end Go.Proofs.YtggofhbblidimaaDoor
