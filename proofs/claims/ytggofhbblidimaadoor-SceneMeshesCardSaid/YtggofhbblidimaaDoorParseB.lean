/- Walks: scene.box, scene.ParseMesh. -/
import Derived.Test.YtggofhbblidimaaDoorParse
namespace Go.Proofs.YtggofhbblidimaaDoor
open Go Go.RowKit Eng
open Go.Lib (itoa decDigits nDigits)
set_option maxRecDepth 4000
theorem strRows_ne {ws : List (List UInt8)} : ∀ x ∈ ws.map strRow, x ≠ [] := by
  intro x hx
  simp only [List.mem_map] at hx
  obtain ⟨y, _, rfl⟩ := hx
  simp [strRow]
theorem box_spec (ws : List (List UInt8)) (hws : ∀ w ∈ ws, w.length ≤ 1000000) (a : Option Addr) (c : Nat) (w : World) (hg0 : G0 w) (hs : SlAtM w No 1 a (ws.map strRow)) :
    Ret Tryd.prog 19 [.slice a ws.length c] w No (ReadH ws 6) (fun x => .tuple #[.agg (x.2.map fun n => Value.int .i64 n).toArray, .bool x.1]) (fun _ => []) := by
  refine enter (A := St w No []) Tryd.func19 rfl Tryd.ntmps19 (Nat.le_of_ble_eq_true rfl) (St.start w No) ?_
  refine seq ?_
  refine region ?_
  refine alo _ rfl trivial Tryd.zeroValue57 rfl (fun b2 hb2 => ?_)
  refine vl rfl (asg trivial rfl) ?_
  refine nil ?_
  refine thenN ?_
  refine seq ?_
  refine region ?_
  refine vl rfl (mv trivial rfl) ?_
  refine vl rfl (fad trivial fa_api_Box_0 rfl) ?_
  refine vl rfl (fad trivial fa_api_Vec_0 rfl) ?_
  refine vl rfl (fad trivial fa_api_Box_0 rfl) ?_
  refine vl rfl (fad trivial fa_api_Vec_1 rfl) ?_
  refine vl rfl (fad trivial fa_api_Box_0 rfl) ?_
  refine vl rfl (fad trivial fa_api_Vec_2 rfl) ?_
  refine vl rfl (fad trivial fa_api_Box_1 rfl) ?_
  refine vl rfl (fad trivial fa_api_Vec_0 rfl) ?_
  refine vl rfl (fad trivial fa_api_Box_1 rfl) ?_
  refine vl rfl (fad trivial fa_api_Vec_1 rfl) ?_
  refine vl rfl (fad trivial fa_api_Box_1 rfl) ?_
  refine vl rfl (fad trivial fa_api_Vec_2 rfl) ?_
  refine bsl (size := 1) _ rfl trivial rfl (by intro w; exact bs_L_P_int_6 ..) rfl (by simp) (by decide) (fun g17 hg17 => ?_)
  refine OpsJ.conv (fun _ => St.b1) ?_
  refine callM21 rfl trivial rfl rfl Tryd.call18 rfl (fun w hw => read_spec ws hws a c b2 57 g17 6 6 (by omega) [0, 0, 0, 0, 0, 0] rfl w (hg0.no hw) (sepG2 hg0 hw) (hs.st strRows_ne hw) hw.own2) (fun g18 h18 => ?_)
  obtain ⟨ok, vs⟩ := g18
  obtain ⟨x0, x1, x2, x3, x4, x5, rfl⟩ := list6 h18.len
  refine vl rfl (asg trivial rfl) ?_
  refine nil ?_
  refine thenN ?_
  refine seq ?_
  refine region ?_
  refine vl rfl (ld6 0 trivial Tryd.isAgg57 Tryd.sizeOf57 rfl (hasBlk m0) rfl rfl) ?_
  refine vl rfl (mv trivial rfl) ?_
  refine stW _ trivial rfl rfl rfl Tryd.sizeOf57 rfl rfl (by first | exact all1 rfl | simp [Value.oneCell', sv_one]) ?_
  refine vl rfl (asg trivial rfl) ?_
  refine nil ?_
  refine thenN ?_
  refine ret ?_
  refine endC1 Tryd.results19 rfl rfl Tryd.isAgg57 Tryd.sizeOf57 (hasBlk m0) rfl (fun w' hw => ?_)
  exact ⟨(ok, [x0, x1, x2, x3, x4, x5]), h18, rfl, hw.drop1⟩
theorem check_own {w0 w : World} {M : Nat → Prop} {L : List Res} {o : Option (Nat × Nat)} {l : List Qd} (h0 : ∀ q ∈ l, 0 ≤ q.d) (hw : St w0 M L w) (hm : own o 42 7 (l.map Qd.row) ∈ L) :
    Gives Tryd.prog 9 [sv o l.length] w (.int .i64 (chk l)) := by
  obtain ⟨a, c, h1, h2⟩ := own_slAt (n := l.length) hw hm (by simp)
  rw [h1]
  exact check_spec l h0 a c w h2
theorem part1 {w0 w : World} {M : Nat → Prop} {L0 L : List Res} {g c : Nat} {w0' w1 : List UInt8} {wr : List (List UInt8)} (hw : St w0 M (L0 ++ L) w) (hm : wordsR (some (g, c)) (w0' :: w1 :: wr) ∈ L) :
    SlAtM w (fpOf L0) 1 (if c = 1 then some ⟨g, 0, none⟩ else (some ⟨g, 0, none⟩ : Option Addr).map (·.add (1 * 1))) ([w1].map strRow) := by
  obtain ⟨a, c', h1, h2, h3⟩ := own_slAtM hw hm rfl
  simp only [sv, Value.slice.injEq] at h1
  obtain ⟨rfl, _, rfl⟩ := h1
  have := h3.part (lo := 1) (hi := 2) (c := c) (by omega) (by simp) (by simpa using h2)
  simpa using this
theorem part2 {w0 w : World} {M : Nat → Prop} {L : List Res} {g c : Nat} {w0' w1 : List UInt8} {wr : List (List UInt8)} (hw : St w0 M L w) (hm : wordsR (some (g, c)) (w0' :: w1 :: wr) ∈ L) :
    SlAtM w No 1 (if c = 2 then some ⟨g, 0, none⟩ else (some ⟨g, 0, none⟩ : Option Addr).map (·.add (2 * 1))) (wr.map strRow) := by
  obtain ⟨a, c', h1, h2, h3⟩ := own_slAtM (L0 := []) hw hm rfl
  simp only [sv, Value.slice.injEq] at h1
  obtain ⟨rfl, _, rfl⟩ := h1
  have := h3.rest (lo := 2) (c := c) (by simp) (by simpa using h2)
  obtain ⟨b, o, ha, hr⟩ := this
  exact ⟨b, o, fun hne => ⟨(ha hne).1, fun h => h⟩, by simpa using hr⟩
theorem parseMesh_spec (s : List UInt8) (hs : s.length < 1000000) (v : World) (hg0 : G0 v) :
    Ret Tryd.prog 6 [str s] v No (fun _ : Option (Nat × Nat) => True) (fun o => .tuple #[sv o (pm s).1.length, .int .i64 (pm s).2]) (fun o => [own o 42 7 ((pm s).1.map Qd.row)]) := by
  refine enter (A := St v No []) Tryd.func6 rfl Tryd.ntmps6 (Nat.le_of_ble_eq_true rfl) (St.start v No) ?_
  refine seq ?_
  refine region ?_
  refine vl rfl (asg trivial rfl) ?_
  refine vl rfl (asg trivial rfl) ?_
  refine nil ?_
  refine thenN ?_
  refine seq ?_
  refine seq ?_
  refine region ?_
  refine vl rfl (mv trivial rfl) ?_
  refine vl rfl (lenS trivial rfl Tryd.runUnderlying9) ?_
  refine vl rfl (gtI trivial rfl rfl) ?_
  refine nil ?_
  refine thenN ?_
  refine cond rfl (fun h16 => ?_) (fun h16 => ?_)
  · skip
    refine seq ?_
    refine region ?_
    refine vl rfl (asg trivial rfl) ?_
    refine vl rfl (asg trivial rfl) ?_
    refine nil ?_
    refine thenN ?_
    refine ret ?_
    refine thenR ?_
    refine end2 Tryd.results6 rfl rfl (fun w' hw => ?_)
    have h : pm s = ([], 4) := pm_many (by have := of_decide_eq_true h16; omega)
    rw [h]
    exact ⟨none, trivial, rfl, hw.nilOwn _ _⟩
  · have h60 : ¬ 60000 < s.length := by have := of_decide_eq_false h16; omega
    refine skip ?_
    refine thenN ?_
    refine seq ?_
    refine region ?_
    refine vl rfl (mv trivial rfl) ?_
    refine callR1 rfl trivial rfl rfl Tryd.call16 rfl (fun w hw => lines_spec s (by omega) w (hg0.no hw)) (fun g19 h19 => ?_)
    refine vl rfl (mv trivial rfl) ?_
    refine vl rfl (extr trivial rfl rfl) ?_
    refine vl rfl (extr trivial rfl rfl) ?_
    refine vl rfl (asg trivial rfl) ?_
    refine vl rfl (asg trivial rfl) ?_
    refine nil ?_
    refine thenN ?_
    refine seq ?_
    refine seq ?_
    refine region ?_
    refine vl rfl (mv trivial rfl) ?_
    refine vl rfl (notB trivial rfl) ?_
    refine nil ?_
    refine thenN ?_
    refine cond rfl (fun h23 => ?_) (fun h23 => ?_)
    · skip
      refine seq ?_
      refine region ?_
      refine vl rfl (asg trivial rfl) ?_
      refine vl rfl (asg trivial rfl) ?_
      refine nil ?_
      refine thenN ?_
      refine ret ?_
      refine thenR ?_
      refine end2 Tryd.results6 rfl rfl (fun w' hw => ?_)
      have h : pm s = ([], 12) := pm_end h60 (by simpa using h23)
      rw [h]
      exact ⟨none, trivial, rfl, hw.drop1.nilOwn _ _⟩
    · have h2 : (linesL s).2 = true := by simpa using h23
      refine skip ?_
      refine thenN ?_
      refine seq ?_
      refine region ?_
      refine vl rfl (asg trivial rfl) ?_
      refine nil ?_
      refine thenN ?_
      refine seq ?_
      refine seq ?_
      refine region ?_
      refine vl rfl (mv trivial rfl) ?_
      refine vl rfl (lenO trivial rfl (by simp) m0 Tryd.runUnderlying50) ?_
      refine vl rfl (mv trivial rfl) ?_
      refine nil ?_
      refine thenN ?_
      refine block ?_
      refine loop (γ := Nat × Option (Nat × Nat) × List Qd) (fun x => x.1 ≤ (linesL s).1.length ∧ ((linesL s).1.take x.1).mapM pquad = some x.2.2) (fun x => [(24, sv g19 (linesL s).1.length), (25, .int .i64 ((linesL s).1.length : Nat)), (26, .int .i64 (x.1 : Nat)), (6, sv x.2.1 x.2.2.length)]) (fun x => St v No [own x.2.1 42 7 (x.2.2.map Qd.row), wordsR g19 (linesL s).1]) (fun x => (linesL s).1.length - x.1) (0, none, []) ⟨Nat.zero_le _, by simp⟩ ?_ (fun w hw => ?_) (fun x hx => ?_)
      · repeat' (first | exact trivial | (refine And.intro ?_ ?_) | rfl)
      · exact hw.nilOwn _ _
      obtain ⟨i, o, l⟩ := x
      obtain ⟨hik, hm⟩ := hx
      simp only at hik hm
      have hlen : (linesL s).1.length ≤ 1000002 := by
        unfold linesL
        split
        · simp
        · have h1 := cutL_lt (c := 10) (Lib.trimSuffix s [10])
          have h2 : (Lib.trimSuffix s [10]).length ≤ s.length := by unfold Lib.trimSuffix; split <;> simp
          show (cutL 10 (Lib.trimSuffix s [10])).length ≤ _
          omega
      have hll : l.length = i := by have := mapM_len hm; simp at this; omega
      refine seq ?_
      refine region ?_
      refine vl rfl (ltI trivial rfl rfl) ?_
      refine nil ?_
      refine thenN ?_
      refine seq ?_
      refine cond rfl (fun h27 => ?_) (fun h27 => ?_)
      · have hi : i < (linesL s).1.length := by simpa using h27
        obtain ⟨x, hx⟩ := getQ hi
        have hxl : x.length ≤ 1000000 := by
          have hmem := List.mem_of_getElem? hx
          unfold linesL at hmem
          split at hmem
          · simp at hmem
          · have h1 := cutL_mem _ _ hmem
            have h2 : (Lib.trimSuffix s [10]).length ≤ s.length := by unfold Lib.trimSuffix; split <;> simp
            omega
        refine CodeJ.lies (n := (linesL s).1.length) m1 (by simp) (by omega) (fun gl cl hgl => ?_)
        subst hgl
        obtain ⟨w0, wt, hcut⟩ := List.exists_cons_of_ne_nil (cutL_ne 32 x)
        have hwl : ∀ w ∈ cutL 32 x, w.length ≤ 1000000 := fun w hw => Nat.le_trans (cutL_mem _ _ hw) hxl
        refine skip ?_
        refine thenN ?_
        refine seq ?_
        refine block ?_
        refine seq ?_
        refine region ?_
        refine vl rfl (ixO trivial sl_L_string rfl rfl rfl hi) ?_
        refine vl rfl (ld1 0 trivial Tryd.isAgg9 rfl (hasOwn m1 (rowS hx)) rfl rfl) ?_
        refine vl rfl (asg trivial rfl) ?_
        refine nil ?_
        refine thenN ?_
        refine seq ?_
        refine region ?_
        refine vl rfl (mv trivial rfl) ?_
        refine callR1 rfl trivial rfl rfl Tryd.call17 rfl (fun w hw => split_spec 32 x (by omega) w (hg0.no hw)) (fun g31 h31 => ?_)
        refine vl rfl (asg trivial rfl) ?_
        refine nil ?_
        refine thenN ?_
        refine seq ?_
        refine region ?_
        refine alo _ rfl trivial Tryd.zeroValue3 rfl (fun b10 hb10 => ?_)
        refine st1 trivial rfl rfl rfl Tryd.sizeOf3 rfl rfl ?_
        refine nil ?_
        refine thenN ?_
        refine seq ?_
        refine seq ?_
        refine region ?_
        refine vl rfl (mv trivial rfl) ?_
        refine vl rfl (ixO (i := 0) trivial sl_L_string rfl rfl rfl (by rw [hcut]; simp)) ?_
        refine vl rfl (ld1 0 trivial Tryd.isAgg9 rfl (hasOwn m1 (rowS (i := 0) (w := w0) (by rw [hcut]; rfl))) rfl rfl) ?_
        refine vl rfl (neS trivial rfl rfl) ?_
        refine vl rfl (mv trivial rfl) ?_
        refine splitB 36 rfl (fun h36 => ?_) (fun h36 => ?_)
        · have hbad : pquad x = none := pq_first hcut (by simpa [quadS] using h36)
          refine vl rfl (skF rfl rfl) ?_
          refine vl rfl (skF rfl rfl) ?_
          refine vl rfl (skF rfl rfl) ?_
          refine vl rfl (pkT trivial rfl rfl) ?_
          refine vl rfl (mv trivial rfl) ?_
          refine vl rfl (skF rfl rfl) ?_
          refine vl rfl (skF rfl rfl) ?_
          refine vl rfl (skF rfl rfl) ?_
          refine vl rfl (skF rfl rfl) ?_
          refine vl rfl (skF rfl rfl) ?_
          refine vl rfl (pkT trivial rfl rfl) ?_
          refine vl rfl (mv trivial rfl) ?_
          refine vl rfl (skF rfl rfl) ?_
          refine vl rfl (skF rfl rfl) ?_
          refine vl rfl (pkT trivial rfl rfl) ?_
          refine vl rfl (mv trivial rfl) ?_
          refine vl rfl (skF rfl rfl) ?_
          refine vl rfl (skF rfl rfl) ?_
          refine vl rfl (pkT trivial rfl rfl) ?_
          refine nil ?_
          refine thenN ?_
          refine condT rfl ?_
          refine seq ?_
          refine region ?_
          refine vl rfl (asg trivial rfl) ?_
          refine vl rfl (asg trivial rfl) ?_
          refine nil ?_
          refine thenN ?_
          refine ret ?_
          refine thenR (blkR (thenR (loopR (blkR (thenR ?_)))))
          refine end2 Tryd.results6 rfl rfl (fun w' hw => ?_)
          rw [pm_bad h60 h2 (mapM_none hx hbad)]
          exact ⟨none, trivial, rfl, (hw.subl (List.nil_sublist _)).nilOwn _ _⟩
        · have hw0 : w0 = quadS := by simpa [quadS] using h36
          subst hw0
          refine vl rfl (mv ⟨_, rfl, rfl⟩ rfl) ?_
          refine vl rfl (lenO ⟨_, rfl, rfl⟩ rfl (by simp) m1 Tryd.runUnderlying50) ?_
          refine vl rfl (ltI ⟨_, rfl, rfl⟩ rfl rfl) ?_
          refine vl rfl (pkF trivial rfl rfl) ?_
          refine vl rfl (mv trivial rfl) ?_
          refine splitB 41 rfl (fun h41 => ?_) (fun h41 => ?_)
          · have hbad : pquad x = none := by
              have hlt : wt = [] := by
                have := of_decide_eq_true h41
                rw [hcut] at this
                simp only [List.length_cons] at this
                exact List.eq_nil_of_length_eq_zero (by omega)
              subst hlt
              exact pq_empty hcut
            refine vl rfl (skF rfl rfl) ?_
            refine vl rfl (skF rfl rfl) ?_
            refine vl rfl (skF rfl rfl) ?_
            refine vl rfl (skF rfl rfl) ?_
            refine vl rfl (skF rfl rfl) ?_
            refine vl rfl (pkT trivial rfl rfl) ?_
            refine vl rfl (mv trivial rfl) ?_
            refine vl rfl (skF rfl rfl) ?_
            refine vl rfl (skF rfl rfl) ?_
            refine vl rfl (pkT trivial rfl rfl) ?_
            refine vl rfl (mv trivial rfl) ?_
            refine vl rfl (skF rfl rfl) ?_
            refine vl rfl (skF rfl rfl) ?_
            refine vl rfl (pkT trivial rfl rfl) ?_
            refine nil ?_
            refine thenN ?_
            refine condT rfl ?_
            refine seq ?_
            refine region ?_
            refine vl rfl (asg trivial rfl) ?_
            refine vl rfl (asg trivial rfl) ?_
            refine nil ?_
            refine thenN ?_
            refine ret ?_
            refine thenR (blkR (thenR (loopR (blkR (thenR ?_)))))
            refine end2 Tryd.results6 rfl rfl (fun w' hw => ?_)
            rw [pm_bad h60 h2 (mapM_none hx hbad)]
            exact ⟨none, trivial, rfl, (hw.subl (List.nil_sublist _)).nilOwn _ _⟩
          · obtain ⟨w1, wr, hwt⟩ : ∃ w1 wr, wt = w1 :: wr := by
              cases wt with
              | nil => rw [hcut] at h41; simp at h41
              | cons a l => exact ⟨a, l, rfl⟩
            subst hwt
            rw [hcut]
            refine vl rfl (mv ⟨_, rfl, rfl⟩ rfl) ?_
            refine vl rfl (sl2 (lo := 1) (hi := 2) ⟨_, rfl, rfl⟩ sl_L_string rfl rfl rfl rfl rfl (by omega) (by simp)) ?_
            refine bsl (size := 1) _ rfl ⟨_, rfl, rfl⟩ rfl (by intro w; exact bs_L_P_int_1 ..) rfl (by simp) (by decide) (fun g44 hg44 => ?_)
            refine OpsJ.conv (fun _ => St.b1) ?_
            refine callM21 rfl ⟨_, rfl, rfl⟩ rfl rfl Tryd.call18 rfl (fun w hw => read_spec [w1] (fun w hw => hwl w (by rw [hcut]; simp at hw; simp [hw])) _ _ b10 3 g44 1 1 (by omega) [0] rfl w (hg0.no hw) (sepG2 hg0 hw) (part1 (L0 := [_, _]) hw m0) hw.own2) (fun g45 h45 => ?_)
            obtain ⟨ok, vs⟩ := g45
            obtain ⟨d, rfl⟩ := list1 h45.len
            refine vl rfl (notB ⟨_, rfl, rfl⟩ rfl) ?_
            refine vl rfl (pkF trivial rfl rfl) ?_
            refine vl rfl (mv trivial rfl) ?_
            refine splitB 48 rfl (fun h48 => ?_) (fun h48 => ?_)
            · have hbad : pquad x = none := by
                have h46 : ok = false := by simpa using h48
                have hok := h45.ok
                simp only [h46] at hok
                refine pq_dir hcut ?_
                cases hn : num w1 with
                | none => rfl
                | some n => simp [hn] at hok
              refine vl rfl (skF rfl rfl) ?_
              refine vl rfl (skF rfl rfl) ?_
              refine vl rfl (pkT trivial rfl rfl) ?_
              refine vl rfl (mv trivial rfl) ?_
              refine vl rfl (skF rfl rfl) ?_
              refine vl rfl (skF rfl rfl) ?_
              refine vl rfl (pkT trivial rfl rfl) ?_
              refine nil ?_
              refine thenN ?_
              refine condT rfl ?_
              refine seq ?_
              refine region ?_
              refine vl rfl (asg trivial rfl) ?_
              refine vl rfl (asg trivial rfl) ?_
              refine nil ?_
              refine thenN ?_
              refine ret ?_
              refine thenR (blkR (thenR (loopR (blkR (thenR ?_)))))
              refine end2 Tryd.results6 rfl rfl (fun w' hw => ?_)
              rw [pm_bad h60 h2 (mapM_none hx hbad)]
              exact ⟨none, trivial, rfl, (hw.subl (List.nil_sublist _)).nilOwn _ _⟩
            · have h46 : ok = true := by simpa using h48
              have hnd : num w1 = some d := by
                have hv := h45.vals h46
                simp only [List.mapM_cons, List.mapM_nil] at hv
                cases hn : num w1 with
                | none => simp [hn] at hv
                | some n => simp [hn] at hv; rw [hv]
              refine vl rfl (ld1 0 ⟨_, rfl, rfl⟩ Tryd.isAgg3 rfl (hasBlk m0) rfl rfl) ?_
              refine vl rfl (ltI ⟨_, rfl, rfl⟩ rfl rfl) ?_
              refine vl rfl (pkF trivial rfl rfl) ?_
              refine vl rfl (mv trivial rfl) ?_
              refine splitB 52 rfl (fun h52 => ?_) (fun h52 => ?_)
              · have hbad : pquad x = none := pq_dir2 hcut hnd (by have := of_decide_eq_true h52; omega)
                refine vl rfl (skF rfl rfl) ?_
                refine vl rfl (skF rfl rfl) ?_
                refine vl rfl (pkT trivial rfl rfl) ?_
                refine nil ?_
                refine thenN ?_
                refine condT rfl ?_
                refine seq ?_
                refine region ?_
                refine vl rfl (asg trivial rfl) ?_
                refine vl rfl (asg trivial rfl) ?_
                refine nil ?_
                refine thenN ?_
                refine ret ?_
                refine thenR (blkR (thenR (loopR (blkR (thenR ?_)))))
                refine end2 Tryd.results6 rfl rfl (fun w' hw => ?_)
                rw [pm_bad h60 h2 (mapM_none hx hbad)]
                exact ⟨none, trivial, rfl, (hw.subl (List.nil_sublist _)).nilOwn _ _⟩
              · skip
                refine vl rfl (ld1 0 ⟨_, rfl, rfl⟩ Tryd.isAgg3 rfl (hasBlk m0) rfl rfl) ?_
                refine vl rfl (gtI ⟨_, rfl, rfl⟩ rfl rfl) ?_
                refine vl rfl (pkF trivial rfl rfl) ?_
                refine nil ?_
                refine thenN ?_
                refine cond rfl (fun h55 => ?_) (fun h55 => ?_)
                · have hbad : pquad x = none := pq_dir2 hcut hnd (by have := of_decide_eq_true h55; omega)
                  refine seq ?_
                  refine region ?_
                  refine vl rfl (asg trivial rfl) ?_
                  refine vl rfl (asg trivial rfl) ?_
                  refine nil ?_
                  refine thenN ?_
                  refine ret ?_
                  refine thenR (blkR (thenR (loopR (blkR (thenR ?_)))))
                  refine end2 Tryd.results6 rfl rfl (fun w' hw => ?_)
                  rw [pm_bad h60 h2 (mapM_none hx hbad)]
                  exact ⟨none, trivial, rfl, (hw.subl (List.nil_sublist _)).nilOwn _ _⟩
                · have hd0 : 0 ≤ d ∧ d ≤ 5 := ⟨by have := of_decide_eq_false h52; omega, by have := of_decide_eq_false h55; omega⟩
                  refine skip ?_
                  refine thenN ?_
                  refine seq ?_
                  refine region ?_
                  refine vl rfl (mv trivial rfl) ?_
                  refine vl rfl (sl1 (lo := 2) trivial sl_L_string rfl rfl rfl (by simp)) ?_
                  refine callR0 rfl trivial rfl rfl Tryd.call19 rfl (fun w hw => box_spec wr (fun w hw => hwl w (by rw [hcut]; simp [hw])) _ _ w (hg0.no hw) (part2 hw m1)) (fun g59 h59 => ?_)
                  obtain ⟨ok2, vs2⟩ := g59
                  obtain ⟨x0, y0, z0, x1, y1, z1, rfl⟩ := list6 h59.len
                  refine vl rfl (mv trivial rfl) ?_
                  refine vl rfl (extr trivial rfl rfl) ?_
                  refine vl rfl (extr trivial rfl rfl) ?_
                  refine alo _ rfl trivial Tryd.zeroValue57 rfl (fun b11 hb11 => ?_)
                  refine stW _ trivial rfl rfl rfl Tryd.sizeOf57 rfl rfl (by first | exact all1 rfl | simp [Value.oneCell', sv_one]) ?_
                  refine vl rfl (asg trivial rfl) ?_
                  refine nil ?_
                  refine thenN ?_
                  refine seq ?_
                  refine seq ?_
                  refine region ?_
                  refine vl rfl (mv trivial rfl) ?_
                  refine vl rfl (notB trivial rfl) ?_
                  refine nil ?_
                  refine thenN ?_
                  refine cond rfl (fun h63 => ?_) (fun h63 => ?_)
                  · have hbad : pquad x = none := by
                      have h46 : ok2 = false := by simpa using h63
                      have hok := h59.ok
                      simp only [h46] at hok
                      refine pq_rest hcut hnd (fun ⟨ha, hb⟩ => ?_)
                      simp [ha, hb] at hok
                    refine seq ?_
                    refine region ?_
                    refine vl rfl (asg trivial rfl) ?_
                    refine vl rfl (asg trivial rfl) ?_
                    refine nil ?_
                    refine thenN ?_
                    refine ret ?_
                    refine thenR (blkR (thenR (loopR (blkR (thenR ?_)))))
                    refine end2 Tryd.results6 rfl rfl (fun w' hw => ?_)
                    rw [pm_bad h60 h2 (mapM_none hx hbad)]
                    exact ⟨none, trivial, rfl, (hw.subl (List.nil_sublist _)).nilOwn _ _⟩
                  · have h46 : ok2 = true := by simpa using h63
                    have hgood : pquad x = some ⟨d, x0, y0, z0, x1, y1, z1⟩ := pq_ok hcut hnd hd0 (h59.vals h46)
                    refine skip ?_
                    refine thenN ?_
                    refine region ?_
                    refine vl rfl (mv trivial rfl) ?_
                    refine vl rfl (ld1 0 trivial Tryd.isAgg3 rfl (hasBlk m1) rfl rfl) ?_
                    refine vl rfl (cvI trivial rfl Tryd.runUnderlying3 Tryd.runUnderlying5 (u8r (by omega))) ?_
                    refine vl rfl (fad trivial fa_api_Box_0 rfl) ?_
                    refine vl rfl (ld3 0 trivial Tryd.isAgg40 Tryd.sizeOf40 rfl (hasBlk m0) rfl rfl) ?_
                    refine vl rfl (fad trivial fa_api_Box_1 rfl) ?_
                    refine vl rfl (ld3 3 trivial Tryd.isAgg40 Tryd.sizeOf40 rfl (hasBlk m0) rfl rfl) ?_
                    refine vl rfl (bld trivial rfl (by intro w; exact bd_api_Quad_0_1_2 ..)) ?_
                    refine bsl (size := 7) _ rfl trivial rfl (by intro w; exact bs_L_api_Quad_1 ..) rfl (by simp) (by decide) (fun g72 hg72 => ?_)
                    refine OpsJ.conv (fun _ => St.b4) ?_
                    refine OpsJ.conv (fun _ => St.b1) ?_
                    refine app1 rfl trivial sl_L_api_Quad rfl rfl (by simp) (by intro u hu; simp at hu; rcases hu with rfl | rfl | rfl | rfl | rfl | rfl | rfl <;> rfl) (by show (l.length + 1) * 56 ≤ _; omega) (by show l.length + 1 ≤ maxLen; unfold maxLen; omega) (fun g73 cg73 => ?_)
                    refine vl rfl (asg trivial rfl) ?_
                    refine respell 6 (sv (some (g73, cg73)) (l ++ [Qd.mk d x0 y0 z0 x1 y1 z1]).length) rfl (by rw [List.length_append]; rfl) ?_
                    refine nil ?_
                    refine blkN ?_
                    refine thenN ?_
                    refine region ?_
                    refine vl rfl (addI trivial rfl rfl (i64r (by omega))) ?_
                    refine vl rfl (mv trivial rfl) ?_
                    refine nil ?_
                    refine loopN (i + 1, some (g73, cg73), l ++ [⟨d, x0, y0, z0, x1, y1, z1⟩]) ⟨hi, mapM_take hx hm hgood⟩ (by show (linesL s).1.length - (i + 1) < (linesL s).1.length - i; omega) (by repeat' (first | exact trivial | (refine And.intro ?_ ?_) | rfl)) (fun w hw => ?_)
                    rw [List.map_append]
                    exact hw.subl (.cons_cons _ (.cons _ (.cons _ (.cons _ (.cons_cons _ .slnil)))))
      · have hi : i = (linesL s).1.length := by have := of_decide_eq_false h27; omega
        have hm2 : (linesL s).1.mapM pquad = some l := by rw [hi, List.take_length] at hm; exact hm
        refine exit ?_
        refine thenX ?_
        refine loopX ?_
        refine blkX ?_
        refine thenN ?_
        refine seq ?_
        refine seq ?_
        refine region ?_
        refine vl rfl (mv trivial rfl) ?_
        refine callG rfl trivial rfl rfl Tryd.call9 rfl (fun w hw => check_own (mapM_all (fun a b hab => (pq_dir0 hab).1) hm2) hw m0) ?_
        refine vl rfl (asg trivial rfl) ?_
        refine nil ?_
        refine thenN ?_
        refine seq ?_
        refine region ?_
        refine vl rfl (mv trivial rfl) ?_
        refine vl rfl (neI trivial rfl rfl) ?_
        refine nil ?_
        refine thenN ?_
        refine cond rfl (fun h78 => ?_) (fun h78 => ?_)
        · skip
          refine seq ?_
          refine region ?_
          refine vl rfl (mv trivial rfl) ?_
          refine vl rfl (asg trivial rfl) ?_
          refine vl rfl (asg trivial rfl) ?_
          refine nil ?_
          refine thenN ?_
          refine ret ?_
          refine thenR ?_
          refine end2 Tryd.results6 rfl rfl (fun w' hw => ?_)
          have hc : ¬ chk l = 0 := by simpa using h78
          rw [pm_chk h60 h2 hm2, if_neg hc]
          exact ⟨none, trivial, rfl, (hw.subl (List.nil_sublist _)).nilOwn _ _⟩
        · skip
          refine skip ?_
          refine thenN ?_
          refine seq ?_
          refine region ?_
          refine vl rfl (mv trivial rfl) ?_
          refine vl rfl (asg trivial rfl) ?_
          refine vl rfl (asg trivial rfl) ?_
          refine nil ?_
          refine thenN ?_
          refine ret ?_
          refine end2 Tryd.results6 rfl rfl (fun w' hw => ?_)
          have hc : chk l = 0 := by simpa using h78
          rw [pm_chk h60 h2 hm2, if_pos hc]
          exact ⟨o, trivial, rfl, hw.subl (.cons_cons _ (List.nil_sublist _))⟩
end Go.Proofs.YtggofhbblidimaaDoor
