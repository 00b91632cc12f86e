/- Walks: scene.MeshText. -/
import Derived.Test.YtggofhbblidimaaDoorText
namespace Go.Proofs.YtggofhbblidimaaDoor
open Go Go.RowKit Eng
open Go.Lib (itoa decDigits nDigits)
set_option maxRecDepth 4000
theorem isBuilder_of {w0 w : World} {L : List Res} {b : Nat} {s : Bool} {o : Option (Nat × Nat)} {k : List UInt8} (h : St w0 No (bldB b s (sv o k.length) :: bufB o k :: L) w) :
    Lib.IsBuilder 38 5 w0.heap.size b (Lib.byteCells k) w := by
  have hb := h.ok _ m0
  have hf := h.ok _ m1
  have hB : w0.heap.size ≤ b := (h.fp _ m0 b rfl).1.resolve_left (fun h => h)
  have hd := (List.pairwise_cons.1 h.disj).1 _ (List.mem_cons_self ..) b rfl
  have hown : w.ownsRow w0.heap.size 5 1 (sv o k.length) (Lib.byteCells k).length (Lib.byteCells k) := by
    have h1 := hf.1
    simp only [List.length_map, flatten_byteRows] at h1
    rw [Lib.byteCells_length]
    refine ownsRow_base h1 (fun x hx => ?_)
    have := (h.fp _ m1 x (by simpa [own] using hx)).1
    exact this.resolve_left (fun h => h)
  have hne : (sv o k.length).ownBlock ≠ some b := by simpa [own] using hd
  cases s
  · exact .inl ⟨hB, sv o k.length, hb, hown, hne⟩
  · exact .inr ⟨hB, sv o k.length, hb, hown, hne⟩
theorem sepG {v w : World} {r s t : Res} {L : List Res} (h : G0 v) (hw : St v No (r :: s :: t :: L) w) : ∀ k, k < 8 → ¬ fpOf [r, s, t] k := fun k hk ⟨x, hx, hxk⟩ => by
  have hm : x ∈ r :: s :: t :: L := by
    simp only [List.mem_cons, List.not_mem_nil, or_false] at hx
    rcases hx with rfl | rfl | rfl <;> simp
  have := (hw.fp x hm k hxk).1.resolve_left (fun h => h)
  have := h.big
  omega
theorem sepG2 {v w : World} {r s : Res} {L : List Res} (h : G0 v) (hw : St v No (r :: s :: L) w) : ∀ k, k < 8 → ¬ fpOf [r, s] k := fun k hk ⟨x, hx, hxk⟩ => by
  have hm : x ∈ r :: s :: L := by
    simp only [List.mem_cons, List.not_mem_nil, or_false] at hx
    rcases hx with rfl | rfl <;> simp
  have := (hw.fp x hm k hxk).1.resolve_left (fun h => h)
  have := h.big
  omega
theorem meshText_spec (l : List Qd) (h0 : ∀ q ∈ l, 0 ≤ q.d) (a : Option Addr) (c : Nat) (v : World) (hg0 : G0 v) (hs : SlAt v 7 a (l.map Qd.row)) :
    Gives Tryd.prog 4 [.slice a l.length c] v (.tuple #[str (mt l).1, .int .i64 (mt l).2]) := by
  have hs2 := hs
  obtain ⟨b, o, ha, hrow⟩ := hs
  refine enter (A := St v No []) Tryd.func4 rfl Tryd.ntmps4 (Nat.le_of_ble_eq_true rfl) (St.start v No) ?_
  refine seq ?_
  refine region ?_
  refine vl rfl (asg trivial rfl) ?_
  refine vl rfl (asg trivial rfl) ?_
  refine nil ?_
  refine thenN ?_
  refine seq ?_
  refine seq ?_
  refine region ?_
  refine vl rfl (mv trivial rfl) ?_
  refine callG rfl trivial rfl rfl Tryd.call9 rfl (fun w hw => check_spec l h0 a c w (hs2.st hw)) ?_
  refine vl rfl (asg trivial rfl) ?_
  refine nil ?_
  refine thenN ?_
  refine seq ?_
  refine region ?_
  refine vl rfl (mv trivial rfl) ?_
  refine vl rfl (neI trivial rfl rfl) ?_
  refine nil ?_
  refine thenN ?_
  refine cond rfl (fun h11 => ?_) (fun h11 => ?_)
  · skip
    refine seq ?_
    refine region ?_
    refine vl rfl (mv trivial rfl) ?_
    refine vl rfl (asg trivial rfl) ?_
    refine vl rfl (asg trivial rfl) ?_
    refine nil ?_
    refine thenN ?_
    refine ret ?_
    refine thenR ?_
    refine end2 Tryd.results4 rfl rfl (fun w' hw => ?_)
    have hc : ¬ chk l = 0 := by simpa using h11
    exact ⟨by simp [mt, hc], hw⟩
  · have hc : chk l = 0 := by simpa using h11
    obtain ⟨hn3, hok⟩ := chk_all hc
    have hq : ∀ q ∈ l, q.Ok := fun q hq => okQ_ok (h0 q hq) (hok q hq)
    refine skip ?_
    refine thenN ?_
    refine seq ?_
    refine region ?_
    refine alo _ rfl trivial Tryd.zeroValue38 rfl (fun b5 hb5 => ?_)
    refine nil ?_
    refine thenN ?_
    refine seq ?_
    refine seq ?_
    refine region ?_
    refine vl rfl (mv trivial rfl) ?_
    refine vl rfl (lenL trivial rfl Tryd.runUnderlying22) ?_
    refine vl rfl (mv trivial rfl) ?_
    refine nil ?_
    refine thenN ?_
    refine block ?_
    refine loop (γ := Nat × Bool × Option (Nat × Nat)) (fun x => x.1 ≤ l.length) (fun x => [(5, .pointer (some ⟨b5, 0, none⟩)), (13, .slice a l.length c), (14, .int .i64 (l.length : Nat)), (15, .int .i64 (x.1 : Nat))]) (fun x => St v No [bldB b5 x.2.1 (sv x.2.2 (txt (l.take x.1)).length), bufB x.2.2 (txt (l.take x.1))]) (fun x => l.length - x.1) (0, false, none) (Nat.zero_le _) ?_ (fun w hw => ?_) (fun x hx => ?_)
    · repeat' (first | exact trivial | (refine And.intro ?_ ?_) | rfl)
    · exact (hw.nilOwn _ _).b1
    refine seq ?_
    refine region ?_
    refine vl rfl (ltI trivial rfl rfl) ?_
    refine nil ?_
    refine thenN ?_
    refine seq ?_
    refine cond rfl (fun h16 => ?_) (fun h16 => ?_)
    · have hi : x.1 < l.length := by simpa using h16
      obtain ⟨q, hq1⟩ := getQ hi
      have hqo := hq q (List.mem_of_getElem? hq1)
      have hst := txt_step hq1 hq hn3
      have hqd := hqo.d0
      have hqd5 := hqo.d5
      refine skip ?_
      refine thenN ?_
      refine seq ?_
      refine block ?_
      refine seq ?_
      refine region ?_
      refine vl rfl (ixA trivial sl_L_api_Quad rfl rfl rfl hi (ha (map_ne hi))) ?_
      refine vl rfl (ld7 0 trivial Tryd.isAgg42 Tryd.sizeOf42 rfl (hasArg (hrow x.1 _ (rowQ hq1)) (fun h => h)) rfl rfl) ?_
      refine alo _ rfl trivial Tryd.zeroValue42 rfl (fun b7 hb7 => ?_)
      refine stW _ trivial rfl rfl rfl Tryd.sizeOf42 rfl rfl (by first | exact all1 rfl | simp [Value.oneCell', sv_one]) ?_
      refine nil ?_
      refine thenN ?_
      refine region ?_
      refine vl rfl (fad trivial fa_api_Quad_0 rfl) ?_
      refine vl rfl (ld1 0 trivial Tryd.isAgg5 rfl (hasBlk m0) rfl rfl) ?_
      refine vl rfl (cvI trivial rfl Tryd.runUnderlying5 Tryd.runUnderlying3 (i64r (by omega))) ?_
      refine vl rfl (fad trivial fa_api_Quad_1 rfl) ?_
      refine vl rfl (fad trivial fa_api_Vec_0 rfl) ?_
      refine vl rfl (ld1 1 trivial Tryd.isAgg3 rfl (hasBlk m0) rfl rfl) ?_
      refine vl rfl (fad trivial fa_api_Quad_1 rfl) ?_
      refine vl rfl (fad trivial fa_api_Vec_1 rfl) ?_
      refine vl rfl (ld1 2 trivial Tryd.isAgg3 rfl (hasBlk m0) rfl rfl) ?_
      refine vl rfl (fad trivial fa_api_Quad_1 rfl) ?_
      refine vl rfl (fad trivial fa_api_Vec_2 rfl) ?_
      refine vl rfl (ld1 3 trivial Tryd.isAgg3 rfl (hasBlk m0) rfl rfl) ?_
      refine vl rfl (fad trivial fa_api_Quad_2 rfl) ?_
      refine vl rfl (fad trivial fa_api_Vec_0 rfl) ?_
      refine vl rfl (ld1 4 trivial Tryd.isAgg3 rfl (hasBlk m0) rfl rfl) ?_
      refine vl rfl (fad trivial fa_api_Quad_2 rfl) ?_
      refine vl rfl (fad trivial fa_api_Vec_1 rfl) ?_
      refine vl rfl (ld1 5 trivial Tryd.isAgg3 rfl (hasBlk m0) rfl rfl) ?_
      refine vl rfl (fad trivial fa_api_Quad_2 rfl) ?_
      refine vl rfl (fad trivial fa_api_Vec_2 rfl) ?_
      refine vl rfl (ld1 6 trivial Tryd.isAgg3 rfl (hasBlk m0) rfl rfl) ?_
      refine bsl (size := 1) _ rfl trivial rfl (by intro w; exact bs_L_int_7 ..) rfl (by simp) (by decide) (fun g40 hg40 => ?_)
      refine OpsJ.conv (fun _ => St.b3) ?_
      refine OpsJ.conv (fun _ => St.b3) ?_
      refine callM32 rfl trivial rfl rfl Tryd.call10 rfl (fun w hw => line_spec b5 _ _ _ quadS q.nums hqo.nums g40 7 w (by have h4 : quadS.length = 4 := rfl; have h7 : q.nums.length = 7 := rfl; omega) (hg0.no hw) (sepG hg0 hw) hw.own3) (fun g41 h41 => ?_)
      refine nil ?_
      refine blkN ?_
      refine thenN ?_
      refine region ?_
      refine vl rfl (addI trivial rfl rfl (i64r (by omega))) ?_
      refine vl rfl (mv trivial rfl) ?_
      refine nil ?_
      refine loopN (x.1 + 1, true, g41) (by show x.1 + 1 ≤ l.length; omega) (by show l.length - (x.1 + 1) < l.length - x.1; omega) (by repeat' (first | exact trivial | (refine And.intro ?_ ?_) | rfl)) (fun w hw => ?_)
      rw [txt_take hq1]
      exact hw.b2.drop1
    · have hx : x.1 = l.length := by have := of_decide_eq_false h16; omega
      refine exit ?_
      refine thenX ?_
      refine loopX ?_
      refine blkX ?_
      refine thenN ?_
      refine seq ?_
      refine region ?_
      refine callB rfl trivial rfl rfl Tryd.call11 rfl (fun w hw => written_spec b5 _ v.heap.size w hw.size (isBuilder_of hw)) ?_
      refine vl rfl (extr trivial rfl rfl) ?_
      refine vl rfl (extr trivial rfl rfl) ?_
      refine vl rfl (asg trivial rfl) ?_
      refine vl rfl (asg trivial rfl) ?_
      refine nil ?_
      refine thenN ?_
      refine ret ?_
      refine end2 Tryd.results4 rfl rfl (fun w' hw => ?_)
      rw [hx, List.take_length]
      exact ⟨by simp [mt, hc], hw⟩
end Go.Proofs.YtggofhbblidimaaDoor
