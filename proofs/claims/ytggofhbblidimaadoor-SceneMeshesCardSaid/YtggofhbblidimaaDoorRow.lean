/- The row SceneMeshes: what the law's walk shows, for every input that the row speaks of; and the tied card. -/
import Derived.Test.YtggofhbblidimaaDoorLaw
import Derived.Test.YtggofhbblidimaaDoorEngI
import Derived.Test.YtggofhbblidimaaDoorRows
import Derived.Test.YtggofhbblidimaaDoorTie
import Derived.Test.YtggofhbblidimaaDoorCards
import Derived.ProofKit
import Derived.Lay
import Derived.LaidOnce
import Derived.SevenTiedAt
import Derived.Stop.LaidErr
import Derived.Lib.LaidTab
namespace Go.Proofs.YtggofhbblidimaaDoor
open Go Go.RowKit Eng
open Go.ChangeShapes Go.WideShapes Go.ChangeAt
theorem ownKnob0 : ownKnob Tryd.prog.godebug = none := by kernel_rfl
theorem laidOut0 : laidOutB Tryd.prog = true := by kernel_rfl
set_option maxRecDepth 100000
theorem star0 : "*" ++ "errors.errorString" = "*errors.errorString" := by decide
theorem errRow (u : TypeId) (h : Tryd.prog.typeName? 3 u = some "*errors.errorString") : u = 141 :=
  typeName_ptr_named (nm := "errors.errorString") (by rw [star0]; kernel_rfl) (by kernel_rfl) (by decide) u (by rw [star0]; exact h)
/-- What the row lists gives what the calls ask. -/
theorem g0_of {W : World} (hs : W.ShapedOpen Tryd.prog) (hl : laidMetH Tryd.prog Rows.sceneMeshesRow.laid W) : G0 W := by
  rw [MakeChecks.laidMetH_plain _ _ _ (by kernel_rfl)] at hl
  obtain ⟨m, hm⟩ := Tryd.laysM146.s1_3 W hs
  have hlt : 7 < W.heap.size := by
    obtain ⟨ps, hv, _⟩ := hl.tail
    obtain ⟨g, t, cs, fuel, p, q, hg, _, hvar, _⟩ := hv
    obtain rfl := Option.some.inj ((show Tryd.prog.globalNamed "math/bits.deBruijn64tab" = some 7 by kernel_rfl).symm.trans hg)
    unfold World.var? at hvar
    rw [hg] at hvar
    simp only [Option.bind_some] at hvar
    split at hvar
    · rename_i h
      exact (Array.getElem?_eq_some_iff.1 h).1
    · cases hvar
  have h3 := hl.tail.tail
  have e3 : (Rows.laid_internal_strconv_uint64pow10 : DataW Unit) = Lib.tabData .u64 Lib.pow10Tab := by kernel_rfl
  have htab := Lib.tabIs_of_head (P := Tryd.prog) (W := W) (name := "internal/strconv.uint64pow10") (k := .u64) (zs := Lib.pow10Tab) (g := 3) (by kernel_rfl) (by kernel_rfl) Tryd.underlying128 Tryd.underlying114 (by kernel_rfl) (by kernel_rfl) (by rw [← e3]; exact h3)
  have h5 := h3.tail.tail
  obtain ⟨a1, s1, hv1, _⟩ := laid_sentinel (P := Tryd.prog) (W := W) (g := 2) (ti := 75) (tp := 141) h5 (by kernel_rfl) (by kernel_rfl) Tryd.underlying75 errRow Tryd.underlying141 Tryd.underlying143 rfl rfl Tryd.underlying9 (by kernel_rfl) (by kernel_rfl)
  obtain ⟨a2, s2, hv2, _⟩ := laid_sentinel (P := Tryd.prog) (W := W) (g := 1) (ti := 75) (tp := 141) h5.tail (by kernel_rfl) (by kernel_rfl) Tryd.underlying75 errRow Tryd.underlying141 Tryd.underlying143 rfl rfl Tryd.underlying9 (by kernel_rfl) (by kernel_rfl)
  exact ⟨by omega, ⟨m, hm⟩, htab, ⟨_, _, hv2⟩, ⟨_, _, hv1⟩⟩
/-- A quad that came in. -/
theorem dec_vec {H : Type} {enc : TypeId × Value → H} {W : World} {fuel : Nat} {cs : List Value} {x : DataW H × List MemPlace} (h : DataW.trod enc Tryd.prog W 0 (fun _ => true) true fuel 40 cs = some x) :
    ∃ a b c : Int, cs = [.int .i64 a, .int .i64 b, .int .i64 c] := by
  obtain ⟨xs, n, _, _, hlen, hxl, hf⟩ := DataW.trod_struct Tryd.underlying40 h
  have c3 : Tryd.prog.cellsOf 3 = 1 := by kernel_rfl
  have hl3 : cs.length = 3 := hlen.trans (by kernel_rfl)
  match cs, hl3, xs, hxl with
  | [v0, v1, v2], _, [y0, y1, y2], _ =>
    have f0 : DataW.trod enc Tryd.prog W 0 (fun _ => true) true n 3 (([v0, v1, v2].drop 0).take (Tryd.prog.cellsOf 3)) = some y0 := hf 0 _ rfl
    have f1 : DataW.trod enc Tryd.prog W 0 (fun _ => true) true n 3 (([v0, v1, v2].drop 1).take (Tryd.prog.cellsOf 3)) = some y1 := hf 1 _ rfl
    have f2 : DataW.trod enc Tryd.prog W 0 (fun _ => true) true n 3 (([v0, v1, v2].drop 2).take (Tryd.prog.cellsOf 3)) = some y2 := hf 2 _ rfl
    rw [c3] at f0 f1 f2
    obtain ⟨n0, e0, _⟩ := DataW.trod_int Tryd.underlying3 (show DataW.trod enc Tryd.prog W 0 (fun _ => true) true n 3 [v0] = some y0 from f0)
    obtain ⟨n1, e1, _⟩ := DataW.trod_int Tryd.underlying3 (show DataW.trod enc Tryd.prog W 0 (fun _ => true) true n 3 [v1] = some y1 from f1)
    obtain ⟨n2, e2, _⟩ := DataW.trod_int Tryd.underlying3 (show DataW.trod enc Tryd.prog W 0 (fun _ => true) true n 3 [v2] = some y2 from f2)
    exact ⟨n0, n1, n2, by simp at e0 e1 e2; simp [e0, e1, e2]⟩
theorem dec_quad {H : Type} {enc : TypeId × Value → H} {W : World} (fuel : Nat) (cs : List Value) (x : DataW H × List MemPlace) (h : DataW.trod enc Tryd.prog W 0 (fun _ => true) true fuel 42 cs = some x) :
    ∃ q : Qd, cs = q.row ∧ 0 ≤ q.d := by
  obtain ⟨xs, n, _, _, hlen, hxl, hf⟩ := DataW.trod_struct Tryd.underlying42 h
  have c5 : Tryd.prog.cellsOf 5 = 1 := by kernel_rfl
  have c40 : Tryd.prog.cellsOf 40 = 3 := by kernel_rfl
  have hl7 : cs.length = 7 := hlen.trans (by kernel_rfl)
  match cs, hl7, xs, hxl with
  | [v0, v1, v2, v3, v4, v5, v6], _, [y0, y1, y2], _ =>
    have f0 : DataW.trod enc Tryd.prog W 0 (fun _ => true) true n 5 (([v0, v1, v2, v3, v4, v5, v6].drop 0).take (Tryd.prog.cellsOf 5)) = some y0 := hf 0 _ rfl
    have f1 : DataW.trod enc Tryd.prog W 0 (fun _ => true) true n 40 (([v0, v1, v2, v3, v4, v5, v6].drop 1).take (Tryd.prog.cellsOf 40)) = some y1 := hf 1 _ rfl
    have f2 : DataW.trod enc Tryd.prog W 0 (fun _ => true) true n 40 (([v0, v1, v2, v3, v4, v5, v6].drop 4).take (Tryd.prog.cellsOf 40)) = some y2 := hf 2 _ rfl
    rw [c5] at f0
    rw [c40] at f1 f2
    obtain ⟨d, e0, _, hw⟩ := DataW.trod_int Tryd.underlying5 (show DataW.trod enc Tryd.prog W 0 (fun _ => true) true n 5 [v0] = some y0 from f0)
    obtain ⟨a, b, c, e1⟩ := dec_vec (show DataW.trod enc Tryd.prog W 0 (fun _ => true) true n 40 [v1, v2, v3] = some y1 from f1)
    obtain ⟨a', b', c', e2⟩ := dec_vec (show DataW.trod enc Tryd.prog W 0 (fun _ => true) true n 40 [v4, v5, v6] = some y2 from f2)
    refine ⟨⟨d, a, b, c, a', b', c'⟩, by simp at e0 e1 e2; simp [Qd.row, e0, e1, e2], ?_⟩
    have : (0 : Int) ≤ d ∧ d ≤ 255 := by simpa [Lit.wf, IntKind.min, IntKind.max, IntKind.signed, IntKind.bits] using hw
    exact this.1
theorem sceneMeshes_lifted (os : Os) (started : os.Started) (H : Type) (enc : TypeId × Value → H) :
    ReturnsInHanded {} Tryd.checked os 3 .any (fun w args => (Rows.sceneMeshesSpec.pre enc Tryd.prog Tryd.f3 [] false w args ∧ laidMetH Tryd.prog Rows.sceneMeshesRow.laid w) ∧ sizedMet enc Tryd.prog Tryd.f3 (OpenSpec.ofChange Rows.sceneMeshesSpec) false w args)
      (Rows.sceneMeshesSpec.post enc Tryd.prog Tryd.f3 false true false false) := by
  refine row_wrap (C := Tryd.checked) (X := fun w _ => laidMetH Tryd.prog Rows.sceneMeshesRow.laid w) (fun _ _ _ hh h => h.of_heap hh) ownKnob0 started (by kernel_rfl) Tryd.func3
    (ChangeSpec.witness_shaped (enc := enc) (C := Tryd.checked) (os := os) (X := fun w _ => laidMetH Tryd.prog Rows.sceneMeshesRow.laid w) false (World.laidAll Tryd.prog os Rows.sceneMeshesRow.laid) #[.slice none 0 0, .string .empty] 8 (World.laidAll_os _ _ _)
      (World.shaped_of_ZipB (by kernel_rfl) (by kernel_rfl)) (by kernel_rfl) (by kernel_rfl) (by kernel_rfl)
      (by rw [MakeChecks.laidMetH_plain _ _ _ (by kernel_rfl)]; exact laidMet_laidAll _ (by kernel_rfl) (by kernel_rfl))) ?_
  intro W base args ds gs before hval0 hW hsh hL
  have hval : ∀ (j : Nat) t v, Tryd.f3.params[j]? = some t → args[j]? = some v → Value.okWide Tryd.prog W .any base t v := hval0
  have hW' := hW
  obtain ⟨p, q, hA0, hV, rfl, _, _⟩ := hW
  have hA : DataW.TrodAll enc Tryd.prog W 0 (fun _ => true) true Tryd.f3.params.toList args.toList ds p := hA0
  rw [Tryd.params3] at hA hval
  obtain ⟨v0, v1, d0, d1, p0, p1, rfl, rfl, rfl, h0, h1⟩ := trodAll_two hA
  obtain ⟨rfl, rfl⟩ := trodVars_none hV
  obtain ⟨l, a, c, rfl, hsl, hgood, _, _⟩ := open_slAt (row := Qd.row) (good := fun q => 0 ≤ q.d) Tryd.underlying22 (size := 7) (by kernel_rfl) (Nat.zero_lt_succ 6) dec_quad (hval 0 22 v0 rfl rfl) h0
  obtain ⟨s, rfl, _, _, _⟩ := Go.ChangeMaps.open_string Tryd.underlying9 (hval 1 9 v1 rfl rfl) h1
  have hs : s = ⟨s.data.toList.toArray⟩ := by cases s; simp
  refine (show Calls Tryd.prog 3 #[.slice a l.length c, .string s] W _ from ?_)
  rw [hs]
  refine (law_spec l hgood a c s.data.toList W (g0_of hsh hL) hsl).mono fun e W' ⟨he, hst⟩ => ⟨_, he, ?_⟩
  rw [← hs]
  exact law_post (tb := 4) hW' rfl rfl rfl Tryd.underlying4 laidOut0 (by kernel_rfl) hst.below
theorem sceneMeshes_said : Rows.SceneMeshesSaid :=
  OpenClaim.holds_of_wide 3 Tryd.f3 rfl rfl rfl rfl rfl rfl rfl ⟨rfl, rfl, rfl, rfl, rfl⟩ rfl rfl rfl rfl rfl (by kernel_rfl) Tryd.func3 (by kernel_rfl)
    (of_decide_eq_true (by kernel_rfl)) (by unfold Func.isWrapper; first | (rw [if_pos (by decide +kernel)]; kernel_rfl) | (rw [if_neg (by decide +kernel)]; exact ⟨rfl, rfl⟩))
    (fun os started H enc _ => sceneMeshes_lifted os started H enc)
theorem sceneMeshes_holds : Rows.SceneMeshesCardSaid :=
  Claim7.holds_tied_plain_at .later [] [.data, .data, .data, .data, .sentinel, .sentinel, .pinned] true (true, "1944101e37fb0e22ba7d34e256cee664d60e9dc57f2bb3d1c707e5b2a874af2f") true
    sceneMeshes_said (fun _ h => by cases h) (by kernel_rfl) (fun _ h => by cases h) sceneMeshes_row_tie rfl ⟨rfl, rfl⟩ (by kernel_rfl) rfl
    (fun f fn hf hfn => by
      obtain rfl : f = 3 := Option.some.inj ((show Tryd.prog.funcNamed "gambrel/gambrellaw44.SceneMeshes" = some 3 by kernel_rfl).symm.trans hf) |>.symm
      obtain rfl : fn = Tryd.f3 := (Option.some.inj (Tryd.func3.symm.trans hfn)).symm
      exact ⟨by kernel_rfl, fun j t ht => by
        rw [Tryd.params3] at ht
        have hm : t ∈ [22, 9] := by simpa using Array.mem_of_getElem? ht
        have hall : ([22, 9].all fun u => !Tryd.prog.wantsStandIn u) = true := by kernel_rfl
        exact (show Tryd.prog.wantsStandIn t = false by simpa using List.all_eq_true.1 hall t hm)⟩)
    (by kernel_rfl)
end Go.Proofs.YtggofhbblidimaaDoor
