/- Walks: strings.Builder, written by one owner. -/
import Derived.Test.YtggofhbblidimaaDoorTypes
import Derived.Test.YtggofhbblidimaaDoorShelf
import Derived.LaidEqlPtr
namespace Go.Proofs.YtggofhbblidimaaDoor
open Go Go.RowKit Eng
set_option maxRecDepth 4000
/-- A builder's own block: used or not, and its buffer. -/
abbrev bldB (b : Nat) (s : Bool) (v : Value) : Res := blk b [.pointer (if s then some ⟨b, 0, none⟩ else none), v] 38
abbrev bufB (o : Option (Nat × Nat)) (k : List UInt8) : Res := own o 5 1 (k.map byteRow)
theorem builder_size : ∃ j, Tryd.prog.info? 38 = some j ∧ j.size = 2 := ⟨_, rfl, rfl⟩
theorem builder_lies : liesAt Tryd.prog Tryd.prog.depth 38 (2 / Tryd.prog.cellsOf 38) 0 38 1 = true := by kernel_rfl
theorem copyCheck0 (b : Nat) (v : Value) (w : World) (h : Own w [bldB b false v]) : Ret Tryd.prog 44 [.pointer (some ⟨b, 0, none⟩)] w (fpOf [bldB b false v]) (fun _ : Unit => True) (fun _ => .tuple #[]) (fun _ => [bldB b true v]) := by
  obtain ⟨j, hj, hjs⟩ := builder_size
  refine enter (A := St w (fpOf [bldB b false v]) [bldB b false v]) Tryd.func44 rfl Tryd.ntmps44 (Nat.le_of_ble_eq_true rfl) h ?_
  refine seq ?_
  refine region ?_
  refine vl rfl (mv trivial rfl) ?_
  refine vl rfl (nck trivial rfl) ?_
  refine vl rfl (fad trivial fa_strings_Builder_0 rfl) ?_
  refine vl rfl (ld1 0 trivial Tryd.isAgg35 rfl (hasBlk m0) rfl rfl) ?_
  refine vl rfl (binV trivial rfl rfl (fun w => rfl) (fun w => run_eql_pointer_nil w 35 _ (by kernel_rfl))) ?_
  refine nil ?_
  refine thenN ?_
  refine condT rfl ?_
  refine region ?_
  refine vl rfl (mv trivial rfl) ?_
  refine vl rfl (mv trivial rfl) ?_
  refine vl rfl (cvV trivial rfl (fun w hw => Lib.run_to_unsafe w ⟨b, 0, none⟩ Tryd.underlying35 Tryd.underlying99 hj (by rw [hjs]; decide) (blk_shape hw) (by show 0 < 2; decide))) ?_
  refine vl rfl (callX trivial rfl rfl (fun w hw => by rw [run_callFunc_extern Tryd.func56 (by kernel_rfl) (by kernel_rfl) (by kernel_rfl) (e := Extern.AbiNoEscape.same) (by kernel_rfl)]; rw [Lib.run_noEscape]; rfl)) ?_
  refine vl rfl (cvV trivial rfl (fun w hw => Lib.run_from_unsafe w ⟨b, 0, none⟩ Tryd.underlying99 Tryd.underlying35 hj (blk_shape hw) builder_lies)) ?_
  refine vl rfl (nck trivial rfl) ?_
  refine vl rfl (fad trivial fa_strings_Builder_0 rfl) ?_
  refine st1 trivial rfl rfl rfl Tryd.sizeOf35 rfl rfl ?_
  refine nil ?_
  refine end0n Tryd.results44 (fun w' hw => ?_)
  exact ⟨(), trivial, rfl, hw⟩
theorem copyCheck1 (b : Nat) (v : Value) (w : World) (h : Own w [bldB b true v]) : Ret Tryd.prog 44 [.pointer (some ⟨b, 0, none⟩)] w (fpOf [bldB b true v]) (fun _ : Unit => True) (fun _ => .tuple #[]) (fun _ => [bldB b true v]) := by
  obtain ⟨j, hj, hjs⟩ := builder_size
  refine enter (A := St w (fpOf [bldB b true v]) [bldB b true v]) Tryd.func44 rfl Tryd.ntmps44 (Nat.le_of_ble_eq_true rfl) h ?_
  refine seq ?_
  refine region ?_
  refine vl rfl (mv trivial rfl) ?_
  refine vl rfl (nck trivial rfl) ?_
  refine vl rfl (fad trivial fa_strings_Builder_0 rfl) ?_
  refine vl rfl (ld1 0 trivial Tryd.isAgg35 rfl (hasBlk m0) rfl rfl) ?_
  refine vl rfl (binV trivial rfl rfl (fun w => rfl) (fun w => run_eql_pointer_nil w 35 _ (by kernel_rfl))) ?_
  refine nil ?_
  refine thenN ?_
  refine condF rfl ?_
  refine seq ?_
  refine region ?_
  refine vl rfl (mv trivial rfl) ?_
  refine vl rfl (nck trivial rfl) ?_
  refine vl rfl (fad trivial fa_strings_Builder_0 rfl) ?_
  refine vl rfl (ld1 0 trivial Tryd.isAgg35 rfl (hasBlk m0) rfl rfl) ?_
  refine vl rfl (mv trivial rfl) ?_
  refine vl rfl (binV trivial rfl rfl (fun w => rfl) (fun w => run_neq_same w ⟨b, 0, none⟩ Tryd.underlying35 hj)) ?_
  refine nil ?_
  refine thenN ?_
  refine condF rfl ?_
  refine skip ?_
  refine end0n Tryd.results44 (fun w' hw => ?_)
  exact ⟨(), trivial, rfl, hw⟩
theorem copyCheck_spec (b : Nat) (s : Bool) (v : Value) (w : World) (h : Own w [bldB b s v]) : Ret Tryd.prog 44 [.pointer (some ⟨b, 0, none⟩)] w (fpOf [bldB b s v]) (fun _ : Unit => True) (fun _ => .tuple #[]) (fun _ => [bldB b true v]) := by
  cases s
  · exact copyCheck0 b v w h
  · exact copyCheck1 b v w h
theorem writeString_spec (b : Nat) (s : Bool) (o : Option (Nat × Nat)) (k l : List UInt8) (w : World) (hl : k.length + l.length ≤ 140737488355328) (h : Own w [bldB b s (sv o k.length), bufB o k]) :
    Ret Tryd.prog 25 [.pointer (some ⟨b, 0, none⟩), str l] w (fpOf [bldB b s (sv o k.length), bufB o k]) (fun _ : Option (Nat × Nat) => True) (fun _ => .tuple #[.int .i64 (l.length : Nat), .nilIface])
      (fun o' => [bldB b true (sv o' (k ++ l).length), bufB o' (k ++ l)]) := by
  refine enter (A := St w (fpOf [bldB b s (sv o k.length), bufB o k]) [bldB b s (sv o k.length), bufB o k]) Tryd.func25 rfl Tryd.ntmps25 (Nat.le_of_ble_eq_true rfl) h ?_
  refine seq ?_
  refine region ?_
  refine vl rfl (asg trivial rfl) ?_
  refine vl rfl (asg trivial rfl) ?_
  refine nil ?_
  refine thenN ?_
  refine seq ?_
  refine region ?_
  refine vl rfl (mv trivial rfl) ?_
  refine callM1 rfl trivial rfl rfl Tryd.call44 rfl (fun w hw => copyCheck_spec b s _ w hw.own1) (fun g7 h7 => ?_)
  refine nil ?_
  refine thenN ?_
  refine seq ?_
  refine region ?_
  refine vl rfl (mv trivial rfl) ?_
  refine vl rfl (mv trivial rfl) ?_
  refine vl rfl (nck trivial rfl) ?_
  refine vl rfl (fad trivial fa_strings_Builder_1 rfl) ?_
  refine vl rfl (ld1 1 trivial Tryd.isAgg36 rfl (hasBlk m0) rfl rfl) ?_
  refine vl rfl (mv trivial rfl) ?_
  refine OpsJ.conv (fun _ => St.b1) ?_
  refine appS rfl trivial Tryd.underlying36 Tryd.underlying9 (by kernel_rfl) rfl rfl (by simp) hl (fun g14 => ?_)
  refine vl rfl (nck trivial rfl) ?_
  refine vl rfl (fad trivial fa_strings_Builder_1 rfl) ?_
  refine OpsJ.conv (fun _ => St.b1) ?_
  refine st1 trivial rfl rfl (sv_cells _ _) Tryd.sizeOf36 rfl (sv_one _ _) ?_
  refine nil ?_
  refine thenN ?_
  refine seq ?_
  refine region ?_
  refine vl rfl (mv trivial rfl) ?_
  refine vl rfl (lenS trivial rfl Tryd.runUnderlying9) ?_
  refine vl rfl (asg trivial rfl) ?_
  refine vl rfl (asg trivial rfl) ?_
  refine nil ?_
  refine thenN ?_
  refine ret ?_
  refine end2 Tryd.results25 rfl rfl (fun w' hw => ?_)
  refine ⟨g14, trivial, rfl, ?_⟩
  simp only [bufB, List.length_append, List.map_append]
  exact hw
theorem writeByte_spec (b : Nat) (s : Bool) (o : Option (Nat × Nat)) (k : List UInt8) (ch : UInt8) (w : World) (hl : k.length + 1 ≤ 140737488355328) (h : Own w [bldB b s (sv o k.length), bufB o k]) :
    Ret Tryd.prog 26 [.pointer (some ⟨b, 0, none⟩), .int .u8 (ch.toNat : Nat)] w (fpOf [bldB b s (sv o k.length), bufB o k]) (fun _ : Option (Nat × Nat) => True) (fun _ => .nilIface)
      (fun o' => [bldB b true (sv o' (k ++ [ch]).length), bufB o' (k ++ [ch])]) := by
  refine enter (A := St w (fpOf [bldB b s (sv o k.length), bufB o k]) [bldB b s (sv o k.length), bufB o k]) Tryd.func26 rfl Tryd.ntmps26 (Nat.le_of_ble_eq_true rfl) h ?_
  refine seq ?_
  refine region ?_
  refine vl rfl (asg trivial rfl) ?_
  refine nil ?_
  refine thenN ?_
  refine seq ?_
  refine region ?_
  refine vl rfl (mv trivial rfl) ?_
  refine callM1 rfl trivial rfl rfl Tryd.call44 rfl (fun w hw => copyCheck_spec b s _ w hw.own1) (fun g6 h6 => ?_)
  refine nil ?_
  refine thenN ?_
  refine seq ?_
  refine region ?_
  refine vl rfl (mv trivial rfl) ?_
  refine vl rfl (mv trivial rfl) ?_
  refine vl rfl (nck trivial rfl) ?_
  refine vl rfl (fad trivial fa_strings_Builder_1 rfl) ?_
  refine vl rfl (ld1 1 trivial Tryd.isAgg36 rfl (hasBlk m0) rfl rfl) ?_
  refine vl rfl (mv trivial rfl) ?_
  refine bsl (size := 1) _ rfl trivial rfl (by intro w; exact bs_L_uint8_1 ..) rfl (by simp) (by decide) (fun g13 hg13 => ?_)
  refine OpsJ.conv (fun _ => St.b2) ?_
  refine OpsJ.conv (fun _ => St.b1) ?_
  refine app1 rfl trivial sl_L_uint8 rfl rfl (by simp) (by intro u hu; simp at hu; subst hu; rfl) (by omega) (by unfold maxLen; omega) (fun g14 cg14 => ?_)
  refine vl rfl (nck trivial rfl) ?_
  refine vl rfl (fad trivial fa_strings_Builder_1 rfl) ?_
  refine OpsJ.conv (fun _ => St.b1) ?_
  refine st1 trivial rfl rfl (sv_cells _ _) Tryd.sizeOf36 rfl (sv_one _ _) ?_
  refine nil ?_
  refine thenN ?_
  refine seq ?_
  refine region ?_
  refine vl rfl (asg trivial rfl) ?_
  refine nil ?_
  refine thenN ?_
  refine ret ?_
  refine end1 Tryd.results26 rfl (fun w' hw => ?_)
  refine ⟨some (g14, cg14), trivial, rfl, ?_⟩
  simp only [bufB, List.length_append, List.map_append]
  exact hw
end Go.Proofs.YtggofhbblidimaaDoor
