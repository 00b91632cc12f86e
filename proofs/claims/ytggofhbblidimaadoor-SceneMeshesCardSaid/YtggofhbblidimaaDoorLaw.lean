/- Walks: the law SceneMeshes. -/
import Derived.Test.YtggofhbblidimaaDoorRefC
namespace Go.Proofs.YtggofhbblidimaaDoor
open Go Go.RowKit Eng
set_option maxRecDepth 4000
theorem same_own {w0 w : World} {M : Nat → Prop} {L : List Res} {o o' : Option (Nat × Nat)} {l : List Qd} (hl : l.length ≤ maxLen) (hw : St w0 M L w) (hm : own o 42 7 (l.map Qd.row) ∈ L) (hm' : own o' 42 7 (l.map Qd.row) ∈ L) :
    Gives Tryd.prog 8 [sv o l.length, sv o' l.length] w (.bool (decide (l = l))) := by
  obtain ⟨a, c, h1, h2⟩ := own_slAt (n := l.length) hw hm (by simp)
  obtain ⟨a', c', h1', h2'⟩ := own_slAt (n := l.length) hw hm' (by simp)
  rw [h1, h1']
  exact sameQuads_spec l l a a' c c' w hl h2 h2'
theorem pm_len (s : List UInt8) (hs : s.length < 1000000) : (pm s).1.length ≤ maxLen := by
  have key : ∀ (l : List Qd), (linesL s).1.mapM pquad = some l → l.length ≤ 1000002 := fun l hl => by
    have h1 := mapM_len hl
    rw [h1]
    unfold linesL
    split
    · simp
    · have h1 := cutL_lt (c := 10) (Lib.trimSuffix s [10])
      have h2 : (Lib.trimSuffix s [10]).length ≤ s.length := by unfold Lib.trimSuffix; split <;> simp
      show (cutL 10 (Lib.trimSuffix s [10])).length ≤ _
      omega
  unfold pm maxLen
  split
  · simp
  · split
    · simp
    · split
      · simp
      · rename_i l hl
        have := key l hl
        split
        · simp only
          omega
        · simp
theorem law_spec (l : List Qd) (h0 : ∀ q ∈ l, 0 ≤ q.d) (a : Option Addr) (c : Nat) (s : List UInt8) (v : World) (hg0 : G0 v) (hs : SlAt v 7 a (l.map Qd.row)) :
    Gives Tryd.prog 3 [.slice a l.length c, str s] v (.bool true) := by
  refine enter (A := St v No []) Tryd.func3 rfl Tryd.ntmps3 (Nat.le_of_ble_eq_true rfl) (St.start v No) ?_
  refine seq ?_
  refine region ?_
  refine vl rfl (asg trivial rfl) ?_
  refine nil ?_
  refine thenN ?_
  refine seqCut ([(0, .slice a l.length c), (1, str s)]) (fun w => St v No [] w ∧ s.length ≤ 61000) ?_ ?_
  · skip
    refine seq ?_
    refine region ?_
    refine vl rfl (mv trivial rfl) ?_
    refine vl rfl (lenL trivial rfl Tryd.runUnderlying22) ?_
    refine vl rfl (gtI trivial rfl rfl) ?_
    refine vl rfl (mv trivial rfl) ?_
    refine splitB 16 rfl (fun h16 => ?_) (fun h16 => ?_)
    · skip
      refine vl rfl (mv ⟨_, rfl, rfl⟩ rfl) ?_
      refine vl rfl (lenL ⟨_, rfl, rfl⟩ rfl Tryd.runUnderlying22) ?_
      refine vl rfl (leI ⟨_, rfl, rfl⟩ rfl rfl) ?_
      refine vl rfl (pkT trivial rfl rfl) ?_
      refine vl rfl (mv trivial rfl) ?_
      refine splitB 21 rfl (fun h21 => ?_) (fun h21 => ?_)
      · skip
        refine vl rfl (skF rfl rfl) ?_
        refine vl rfl (skF rfl rfl) ?_
        refine vl rfl (skF rfl rfl) ?_
        refine vl rfl (pkT trivial rfl rfl) ?_
        refine vl rfl (mv trivial rfl) ?_
        refine vl rfl (skF rfl rfl) ?_
        refine vl rfl (skF rfl rfl) ?_
        refine vl rfl (skF rfl rfl) ?_
        refine vl rfl (skF rfl rfl) ?_
        refine vl rfl (skU rfl rfl) ?_
        refine vl rfl (skU rfl rfl) ?_
        refine vl rfl (skU rfl rfl) ?_
        refine vl rfl (skF rfl rfl) ?_
        refine vl rfl (pkT trivial rfl rfl) ?_
        refine vl rfl (mv trivial rfl) ?_
        refine vl rfl (skF rfl rfl) ?_
        refine vl rfl (skF rfl rfl) ?_
        refine vl rfl (skF rfl rfl) ?_
        refine vl rfl (pkT trivial rfl rfl) ?_
        refine nil ?_
        refine thenN ?_
        refine condT rfl ?_
        refine seq ?_
        refine region ?_
        refine vl rfl (asg trivial rfl) ?_
        refine nil ?_
        refine thenN ?_
        refine ret ?_
        refine cutQR ?_
        refine end1 Tryd.results3 rfl (fun w' hw => ?_)
        exact ⟨rfl, hw.subl (List.nil_sublist _)⟩
      · skip
        refine vl rfl (mv ⟨_, rfl, rfl⟩ rfl) ?_
        refine vl rfl (lenL ⟨_, rfl, rfl⟩ rfl Tryd.runUnderlying22) ?_
        refine vl rfl (gtI ⟨_, rfl, rfl⟩ rfl rfl) ?_
        refine vl rfl (pkF trivial rfl rfl) ?_
        refine vl rfl (mv trivial rfl) ?_
        refine splitB 26 rfl (fun h26 => ?_) (fun h26 => ?_)
        · skip
          refine vl rfl (skF rfl rfl) ?_
          refine vl rfl (skF rfl rfl) ?_
          refine vl rfl (skF rfl rfl) ?_
          refine vl rfl (skF rfl rfl) ?_
          refine vl rfl (skU rfl rfl) ?_
          refine vl rfl (skU rfl rfl) ?_
          refine vl rfl (skU rfl rfl) ?_
          refine vl rfl (skF rfl rfl) ?_
          refine vl rfl (pkT trivial rfl rfl) ?_
          refine vl rfl (mv trivial rfl) ?_
          refine vl rfl (skF rfl rfl) ?_
          refine vl rfl (skF rfl rfl) ?_
          refine vl rfl (skF rfl rfl) ?_
          refine vl rfl (pkT trivial rfl rfl) ?_
          refine nil ?_
          refine thenN ?_
          refine condT rfl ?_
          refine seq ?_
          refine region ?_
          refine vl rfl (asg trivial rfl) ?_
          refine nil ?_
          refine thenN ?_
          refine ret ?_
          refine cutQR ?_
          refine end1 Tryd.results3 rfl (fun w' hw => ?_)
          exact ⟨rfl, hw.subl (List.nil_sublist _)⟩
        · skip
          refine vl rfl (mv ⟨_, rfl, rfl⟩ rfl) ?_
          refine vl rfl (lenS ⟨_, rfl, rfl⟩ rfl Tryd.runUnderlying9) ?_
          refine vl rfl (gtI ⟨_, rfl, rfl⟩ rfl rfl) ?_
          refine vl rfl (mv ⟨_, rfl, rfl⟩ rfl) ?_
          refine splitB 30 rfl (fun h30 => ?_) (fun h30 => ?_)
          · skip
            refine vl rfl (mv ⟨_, rfl, rfl⟩ rfl) ?_
            refine vl rfl (lenS ⟨_, rfl, rfl⟩ rfl Tryd.runUnderlying9) ?_
            refine vl rfl (leI ⟨_, rfl, rfl⟩ rfl rfl) ?_
            refine vl rfl (pkT ⟨_, rfl, rfl⟩ rfl rfl) ?_
            refine vl rfl (pkF trivial rfl rfl) ?_
            refine vl rfl (mv trivial rfl) ?_
            refine splitB 36 rfl (fun h36 => ?_) (fun h36 => ?_)
            · skip
              refine vl rfl (skF rfl rfl) ?_
              refine vl rfl (skF rfl rfl) ?_
              refine vl rfl (skF rfl rfl) ?_
              refine vl rfl (pkT trivial rfl rfl) ?_
              refine nil ?_
              refine thenN ?_
              refine condT rfl ?_
              refine seq ?_
              refine region ?_
              refine vl rfl (asg trivial rfl) ?_
              refine nil ?_
              refine thenN ?_
              refine ret ?_
              refine cutQR ?_
              refine end1 Tryd.results3 rfl (fun w' hw => ?_)
              exact ⟨rfl, hw.subl (List.nil_sublist _)⟩
            · skip
              refine vl rfl (mv ⟨_, rfl, rfl⟩ rfl) ?_
              refine vl rfl (lenS ⟨_, rfl, rfl⟩ rfl Tryd.runUnderlying9) ?_
              refine vl rfl (gtI ⟨_, rfl, rfl⟩ rfl rfl) ?_
              refine vl rfl (pkF trivial rfl rfl) ?_
              refine nil ?_
              refine thenN ?_
              refine cond rfl (fun h40 => ?_) (fun h40 => ?_)
              · skip
                refine seq ?_
                refine region ?_
                refine vl rfl (asg trivial rfl) ?_
                refine nil ?_
                refine thenN ?_
                refine ret ?_
                refine cutQR ?_
                refine end1 Tryd.results3 rfl (fun w' hw => ?_)
                exact ⟨rfl, hw.subl (List.nil_sublist _)⟩
              · have hb : s.length ≤ 61000 := by have := of_decide_eq_false h40; omega
                refine skip ?_
                exact cutQN (by repeat' (first | exact trivial | (refine And.intro ?_ ?_) | rfl)) (fun w hw => ⟨hw, hb⟩)
          · skip
            refine vl rfl (skT rfl rfl) ?_
            refine vl rfl (skT rfl rfl) ?_
            refine vl rfl (skT rfl rfl) ?_
            refine vl rfl (pkF ⟨_, rfl, rfl⟩ rfl rfl) ?_
            refine vl rfl (pkF trivial rfl rfl) ?_
            refine vl rfl (mv trivial rfl) ?_
            refine vl rfl (mv ⟨_, rfl, rfl⟩ rfl) ?_
            refine vl rfl (lenS ⟨_, rfl, rfl⟩ rfl Tryd.runUnderlying9) ?_
            refine vl rfl (gtI ⟨_, rfl, rfl⟩ rfl rfl) ?_
            refine vl rfl (pkF trivial rfl rfl) ?_
            refine nil ?_
            refine thenN ?_
            refine cond rfl (fun h40 => ?_) (fun h40 => ?_)
            · skip
              refine seq ?_
              refine region ?_
              refine vl rfl (asg trivial rfl) ?_
              refine nil ?_
              refine thenN ?_
              refine ret ?_
              refine cutQR ?_
              refine end1 Tryd.results3 rfl (fun w' hw => ?_)
              exact ⟨rfl, hw.subl (List.nil_sublist _)⟩
            · have hb : s.length ≤ 61000 := by have := of_decide_eq_false h40; omega
              refine skip ?_
              exact cutQN (by repeat' (first | exact trivial | (refine And.intro ?_ ?_) | rfl)) (fun w hw => ⟨hw, hb⟩)
    · skip
      refine vl rfl (skT rfl rfl) ?_
      refine vl rfl (skT rfl rfl) ?_
      refine vl rfl (skT rfl rfl) ?_
      refine vl rfl (pkF trivial rfl rfl) ?_
      refine vl rfl (mv trivial rfl) ?_
      refine vl rfl (mv ⟨_, rfl, rfl⟩ rfl) ?_
      refine vl rfl (lenL ⟨_, rfl, rfl⟩ rfl Tryd.runUnderlying22) ?_
      refine vl rfl (gtI ⟨_, rfl, rfl⟩ rfl rfl) ?_
      refine vl rfl (pkF trivial rfl rfl) ?_
      refine vl rfl (mv trivial rfl) ?_
      refine splitB 26 rfl (fun h26 => ?_) (fun h26 => ?_)
      · skip
        refine vl rfl (skF rfl rfl) ?_
        refine vl rfl (skF rfl rfl) ?_
        refine vl rfl (skF rfl rfl) ?_
        refine vl rfl (skF rfl rfl) ?_
        refine vl rfl (skU rfl rfl) ?_
        refine vl rfl (skU rfl rfl) ?_
        refine vl rfl (skU rfl rfl) ?_
        refine vl rfl (skF rfl rfl) ?_
        refine vl rfl (pkT trivial rfl rfl) ?_
        refine vl rfl (mv trivial rfl) ?_
        refine vl rfl (skF rfl rfl) ?_
        refine vl rfl (skF rfl rfl) ?_
        refine vl rfl (skF rfl rfl) ?_
        refine vl rfl (pkT trivial rfl rfl) ?_
        refine nil ?_
        refine thenN ?_
        refine condT rfl ?_
        refine seq ?_
        refine region ?_
        refine vl rfl (asg trivial rfl) ?_
        refine nil ?_
        refine thenN ?_
        refine ret ?_
        refine cutQR ?_
        refine end1 Tryd.results3 rfl (fun w' hw => ?_)
        exact ⟨rfl, hw.subl (List.nil_sublist _)⟩
      · skip
        refine vl rfl (mv ⟨_, rfl, rfl⟩ rfl) ?_
        refine vl rfl (lenS ⟨_, rfl, rfl⟩ rfl Tryd.runUnderlying9) ?_
        refine vl rfl (gtI ⟨_, rfl, rfl⟩ rfl rfl) ?_
        refine vl rfl (mv ⟨_, rfl, rfl⟩ rfl) ?_
        refine splitB 30 rfl (fun h30 => ?_) (fun h30 => ?_)
        · skip
          refine vl rfl (mv ⟨_, rfl, rfl⟩ rfl) ?_
          refine vl rfl (lenS ⟨_, rfl, rfl⟩ rfl Tryd.runUnderlying9) ?_
          refine vl rfl (leI ⟨_, rfl, rfl⟩ rfl rfl) ?_
          refine vl rfl (pkT ⟨_, rfl, rfl⟩ rfl rfl) ?_
          refine vl rfl (pkF trivial rfl rfl) ?_
          refine vl rfl (mv trivial rfl) ?_
          refine splitB 36 rfl (fun h36 => ?_) (fun h36 => ?_)
          · skip
            refine vl rfl (skF rfl rfl) ?_
            refine vl rfl (skF rfl rfl) ?_
            refine vl rfl (skF rfl rfl) ?_
            refine vl rfl (pkT trivial rfl rfl) ?_
            refine nil ?_
            refine thenN ?_
            refine condT rfl ?_
            refine seq ?_
            refine region ?_
            refine vl rfl (asg trivial rfl) ?_
            refine nil ?_
            refine thenN ?_
            refine ret ?_
            refine cutQR ?_
            refine end1 Tryd.results3 rfl (fun w' hw => ?_)
            exact ⟨rfl, hw.subl (List.nil_sublist _)⟩
          · skip
            refine vl rfl (mv ⟨_, rfl, rfl⟩ rfl) ?_
            refine vl rfl (lenS ⟨_, rfl, rfl⟩ rfl Tryd.runUnderlying9) ?_
            refine vl rfl (gtI ⟨_, rfl, rfl⟩ rfl rfl) ?_
            refine vl rfl (pkF trivial rfl rfl) ?_
            refine nil ?_
            refine thenN ?_
            refine cond rfl (fun h40 => ?_) (fun h40 => ?_)
            · skip
              refine seq ?_
              refine region ?_
              refine vl rfl (asg trivial rfl) ?_
              refine nil ?_
              refine thenN ?_
              refine ret ?_
              refine cutQR ?_
              refine end1 Tryd.results3 rfl (fun w' hw => ?_)
              exact ⟨rfl, hw.subl (List.nil_sublist _)⟩
            · have hb : s.length ≤ 61000 := by have := of_decide_eq_false h40; omega
              refine skip ?_
              exact cutQN (by repeat' (first | exact trivial | (refine And.intro ?_ ?_) | rfl)) (fun w hw => ⟨hw, hb⟩)
        · skip
          refine vl rfl (skT rfl rfl) ?_
          refine vl rfl (skT rfl rfl) ?_
          refine vl rfl (skT rfl rfl) ?_
          refine vl rfl (pkF ⟨_, rfl, rfl⟩ rfl rfl) ?_
          refine vl rfl (pkF trivial rfl rfl) ?_
          refine vl rfl (mv trivial rfl) ?_
          refine vl rfl (mv ⟨_, rfl, rfl⟩ rfl) ?_
          refine vl rfl (lenS ⟨_, rfl, rfl⟩ rfl Tryd.runUnderlying9) ?_
          refine vl rfl (gtI ⟨_, rfl, rfl⟩ rfl rfl) ?_
          refine vl rfl (pkF trivial rfl rfl) ?_
          refine nil ?_
          refine thenN ?_
          refine cond rfl (fun h40 => ?_) (fun h40 => ?_)
          · skip
            refine seq ?_
            refine region ?_
            refine vl rfl (asg trivial rfl) ?_
            refine nil ?_
            refine thenN ?_
            refine ret ?_
            refine cutQR ?_
            refine end1 Tryd.results3 rfl (fun w' hw => ?_)
            exact ⟨rfl, hw.subl (List.nil_sublist _)⟩
          · have hb : s.length ≤ 61000 := by have := of_decide_eq_false h40; omega
            refine skip ?_
            exact cutQN (by repeat' (first | exact trivial | (refine And.intro ?_ ?_) | rfl)) (fun w hw => ⟨hw, hb⟩)
  · refine CodeJ.fact (fun hb => ?_)
    refine seq ?_
    refine region ?_
    refine vl rfl (mv trivial rfl) ?_
    refine callG rfl trivial rfl rfl Tryd.call4 rfl (fun w hw => meshText_spec l h0 a c w (hg0.no hw) (hs.st hw)) ?_
    refine vl rfl (mv trivial rfl) ?_
    refine vl rfl (extr trivial rfl rfl) ?_
    refine vl rfl (extr trivial rfl rfl) ?_
    refine vl rfl (asg trivial rfl) ?_
    refine vl rfl (asg trivial rfl) ?_
    refine nil ?_
    refine thenN ?_
    refine seq ?_
    refine region ?_
    refine vl rfl (mv trivial rfl) ?_
    refine callG rfl trivial rfl rfl Tryd.call5 rfl (fun w hw => rmeshText_spec l h0 a c w (hs.st hw)) ?_
    refine vl rfl (mv trivial rfl) ?_
    refine vl rfl (extr trivial rfl rfl) ?_
    refine vl rfl (extr trivial rfl rfl) ?_
    refine vl rfl (asg trivial rfl) ?_
    refine vl rfl (asg trivial rfl) ?_
    refine nil ?_
    refine thenN ?_
    refine seq ?_
    refine region ?_
    refine vl rfl (mv trivial rfl) ?_
    refine callR1 rfl trivial rfl rfl Tryd.call6 rfl (fun w hw => parseMesh_spec s (by omega) w (hg0.no hw)) (fun g53 h53 => ?_)
    refine vl rfl (mv trivial rfl) ?_
    refine vl rfl (extr trivial rfl rfl) ?_
    refine vl rfl (extr trivial rfl rfl) ?_
    refine vl rfl (asg trivial rfl) ?_
    refine vl rfl (asg trivial rfl) ?_
    refine nil ?_
    refine thenN ?_
    refine seq ?_
    refine region ?_
    refine vl rfl (mv trivial rfl) ?_
    refine callR1 rfl trivial rfl rfl Tryd.call7 rfl (fun w hw => rparseMesh_spec s (by omega) w) (fun g58 h58 => ?_)
    refine vl rfl (mv trivial rfl) ?_
    refine vl rfl (extr trivial rfl rfl) ?_
    refine vl rfl (extr trivial rfl rfl) ?_
    refine vl rfl (asg trivial rfl) ?_
    refine vl rfl (asg trivial rfl) ?_
    refine nil ?_
    refine thenN ?_
    refine seq ?_
    refine region ?_
    refine vl rfl (mv trivial rfl) ?_
    refine vl rfl (mv trivial rfl) ?_
    refine vl rfl (eqS trivial rfl rfl) ?_
    refine respell 63 (.bool true) rfl (by simp) ?_
    refine vl rfl (mv trivial rfl) ?_
    refine vl rfl (mv ⟨_, rfl, rfl⟩ rfl) ?_
    refine vl rfl (mv ⟨_, rfl, rfl⟩ rfl) ?_
    refine vl rfl (eqI ⟨_, rfl, rfl⟩ rfl rfl) ?_
    refine respell 67 (.bool true) rfl (by simp) ?_
    refine vl rfl (pkT trivial rfl rfl) ?_
    refine vl rfl (mv trivial rfl) ?_
    refine vl rfl (mv ⟨_, rfl, rfl⟩ rfl) ?_
    refine vl rfl (mv ⟨_, rfl, rfl⟩ rfl) ?_
    refine callG rfl ⟨_, rfl, rfl⟩ rfl rfl Tryd.call8 rfl (fun w hw => same_own (pm_len s (by omega)) hw m1 m0) ?_
    refine respell 72 (.bool true) rfl (by simp) ?_
    refine vl rfl (pkT trivial rfl rfl) ?_
    refine vl rfl (mv trivial rfl) ?_
    refine vl rfl (mv ⟨_, rfl, rfl⟩ rfl) ?_
    refine vl rfl (mv ⟨_, rfl, rfl⟩ rfl) ?_
    refine vl rfl (eqI ⟨_, rfl, rfl⟩ rfl rfl) ?_
    refine respell 77 (.bool true) rfl (by simp) ?_
    refine vl rfl (pkT trivial rfl rfl) ?_
    refine vl rfl (asg trivial rfl) ?_
    refine nil ?_
    refine thenN ?_
    refine ret ?_
    refine end1 Tryd.results3 rfl (fun w' hw => ?_)
    exact ⟨rfl, hw.subl (List.nil_sublist _)⟩
end Go.Proofs.YtggofhbblidimaaDoor
