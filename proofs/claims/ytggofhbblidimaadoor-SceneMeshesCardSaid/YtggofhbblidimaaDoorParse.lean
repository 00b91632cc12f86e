/- Walks: reading quads, the program's way. -/
import Derived.Test.YtggofhbblidimaaDoorTextB
import Derived.Test.YtggofhbblidimaaDoorPlainC
namespace Go.Proofs.YtggofhbblidimaaDoor
open Go Go.RowKit Eng
open Go.Lib (itoa decDigits nDigits)
set_option maxRecDepth 4000
abbrev strRow (w : List UInt8) : List Value := [str w]
abbrev wordsR (o : Option (Nat × Nat)) (ws : List (List UInt8)) : Res := own o 9 1 (ws.map strRow)
theorem rowS {l : List (List UInt8)} {i : Nat} {w : List UInt8} (h : l[i]? = some w) : (l.map strRow)[i]? = some (strRow w) := by simp [h]
theorem split_spec (c : UInt8) (s : List UInt8) (hs : s.length < 4294967281) (w : World) (hg : G0 w) :
    Ret Tryd.prog 17 [str s, str [c]] w No (fun _ : Nat => True) (fun g => sv (some (g, (cutL c s).length)) (cutL c s).length) (fun g => [wordsR (some (g, (cutL c s).length)) (cutL c s)]) := by
  obtain ⟨m, hm⟩ := hg.maxlen
  refine (Tryd.strings_Split ⟨s.toArray⟩ ⟨#[c]⟩ m w hs hm (by show 1 ≤ 1; omega)).mono ?_
  rintro e w' ⟨rfl, rfl⟩
  have hlen := split_len c ⟨s.toArray⟩
  have hsp := split_cut c ⟨s.toArray⟩
  simp only at hlen hsp
  have e1 : (Lib.splitB ⟨#[c]⟩ 0 (Lib.countB ⟨s.toArray⟩ ⟨#[c]⟩) ⟨s.toArray⟩).map Value.string = ((cutL c s).map strRow).flatten := by
    rw [← hsp, List.map_map, ← List.flatMap_def, List.flatMap_def]
    induction Lib.splitB ⟨#[c]⟩ 0 (Lib.countB ⟨s.toArray⟩ ⟨#[c]⟩) ⟨s.toArray⟩ with
    | nil => rfl
    | cons a l ih => rw [List.map_cons, List.map_cons, List.flatten_cons, ih]; rfl
  refine ⟨w.heap.size, trivial, by rw [hlen]; rfl, ?_⟩
  rw [e1]
  have hb := cutL_lt (c := c) s
  exact St.newOwn w ((cutL c s).map strRow) 9 1 (cutL c s).length (by simp) (by simp [strRow]) (by unfold maxLen; omega)
theorem lines_spec (s : List UInt8) (hs : s.length < 4294967281) (w : World) (hg0 : G0 w) :
    Ret Tryd.prog 16 [str s] w No (fun _ : Option (Nat × Nat) => True) (fun o => .tuple #[sv o (linesL s).1.length, .bool (linesL s).2]) (fun o => [wordsR o (linesL s).1]) := by
  refine enter (A := St w No []) Tryd.func16 rfl Tryd.ntmps16 (Nat.le_of_ble_eq_true rfl) (St.start w No) ?_
  refine seq ?_
  refine region ?_
  refine vl rfl (asg trivial rfl) ?_
  refine vl rfl (asg trivial rfl) ?_
  refine nil ?_
  refine thenN ?_
  refine seq ?_
  refine seq ?_
  refine region ?_
  refine vl rfl (mv trivial rfl) ?_
  refine vl rfl (eqS trivial rfl rfl) ?_
  refine nil ?_
  refine thenN ?_
  refine cond rfl (fun h7 => ?_) (fun h7 => ?_)
  · skip
    refine seq ?_
    refine region ?_
    refine vl rfl (asg trivial rfl) ?_
    refine vl rfl (asg trivial rfl) ?_
    refine nil ?_
    refine thenN ?_
    refine ret ?_
    refine thenR ?_
    refine end2 Tryd.results16 rfl rfl (fun w' hw => ?_)
    have h : s = [] := by simpa using h7
    subst h
    exact ⟨none, trivial, rfl, hw.nilOwn _ _⟩
  · have hne : s ≠ [] := by simpa using h7
    have hl2 : (Lib.trimSuffix s [10]).length ≤ s.length := by unfold Lib.trimSuffix; split <;> simp
    refine skip ?_
    refine thenN ?_
    refine seq ?_
    refine region ?_
    refine vl rfl (mv trivial rfl) ?_
    refine callA (B := (St w No [])) rfl trivial rfl rfl Tryd.call31 rfl (fun w hw => ((Tryd.strings_CutSuffix ⟨s.toArray⟩ ⟨#[10]⟩ w (by show s.length ≤ _; omega)).mono (fun e w' he => ⟨he.1, he.2 ▸ hw⟩))) ?_
    refine vl rfl (mv trivial rfl) ?_
    refine vl rfl (extr trivial rfl rfl) ?_
    refine vl rfl (extr trivial rfl rfl) ?_
    refine vl rfl (asg trivial rfl) ?_
    refine vl rfl (asg trivial rfl) ?_
    refine nil ?_
    refine thenN ?_
    refine seq ?_
    refine region ?_
    refine vl rfl (mv trivial rfl) ?_
    refine callR1 rfl trivial rfl rfl Tryd.call17 rfl (fun w hw => split_spec 10 _ (by show (Lib.trimSuffix s [10]).length < _; omega) w (hg0.no hw)) (fun g14 h14 => ?_)
    refine vl rfl (mv trivial rfl) ?_
    refine vl rfl (asg trivial rfl) ?_
    refine vl rfl (asg trivial rfl) ?_
    refine nil ?_
    refine thenN ?_
    refine ret ?_
    refine end2 Tryd.results16 rfl rfl (fun w' hw => ?_)
    have e : linesL s = (cutL 10 (Lib.trimSuffix s [10]), Lib.hasSuffix s [10]) := if_neg hne
    refine ⟨some (g14, (cutL 10 (Lib.trimSuffix s [10])).length), trivial, ?_, ?_⟩
    · simp only [e]
      rfl
    · simp only [e]
      exact hw
/-- How Atoi ends. -/
structure AtoiH (s : List UInt8) (v : Int × Value) : Prop where
  kind : v.2 = .nilIface ∨ ∃ t p, v.2 = .iface t p
  good : ∀ n, Lib.atoiAll s = .ok n → v = (n, .nilIface)
  bad : (∀ n, Lib.atoiAll s ≠ .ok n) → isErr v.2 = true
theorem atoi_spec (s : List UInt8) (hs : s.length ≤ 1000000) (w : World) (hg : G0 w) : Ret Tryd.prog 33 [str s] w No (AtoiH s) (fun v => .tuple #[.int .i64 v.1, v.2]) (fun _ => []) := by
  rcases h : Lib.atoiAll s with n | _ | _
  · refine (Tryd.strconv_Atoi_ok ⟨s.toArray⟩ (by show s.length ≤ _; omega) n h w).mono ?_
    rintro e w' ⟨rfl, hw⟩
    refine ⟨(n, .nilIface), ⟨.inl rfl, fun m hm => by rw [h] at hm; injection hm with hm; rw [hm], fun hb => absurd h (hb n)⟩, rfl, ?_⟩
    rcases hw with rfl | ⟨t, rfl⟩
    · exact St.start _ No
    · exact .of_below (Lib.bytesWorld_below w _ _)
  · obtain ⟨t, p, hv⟩ := hg.syn
    refine (Any.strconv_Atoi_syntax_var Tryd.laysC172 ⟨s.toArray⟩ (by show s.length ≤ _; omega) h t p w hv).mono ?_
    rintro e w' ⟨N, rfl, _, _, hb⟩
    exact ⟨(0, .iface _ _), ⟨.inr ⟨_, _, rfl⟩, fun m hm => (nomatch (h.symm.trans hm)), fun _ => rfl⟩, rfl, .of_below hb⟩
  · obtain ⟨t, p, hv⟩ := hg.rng
    refine (Any.strconv_Atoi_range_var Tryd.laysC172 ⟨s.toArray⟩ (by show s.length ≤ _; omega) h t p w hv).mono ?_
    rintro e w' ⟨N, rfl, _, _, hb⟩
    exact ⟨(_, .iface _ _), ⟨.inr ⟨_, _, rfl⟩, fun m hm => (nomatch (h.symm.trans hm)), fun _ => rfl⟩, rfl, .of_below hb⟩
theorem atoi_range {s : List UInt8} {n : Int} (h : Lib.atoiAll s = .ok n) : -9223372036854775808 ≤ n ∧ n ≤ 9223372036854775807 := by
  unfold Lib.atoiAll at h
  split at h
  · cases h
  · simp only at h
    split at h
    · cases h
    · cases h
    · split at h
      · cases h
      · split at h
        · cases h
        · rename_i h1 h2
          injection h with h
          subst h
          split <;> simp_all <;> omega
/-- A block of numbers that a call reads into, and the places of its cells. -/
abbrev cellsR (b t : Nat) (vs : List Int) : Res := blk b (vs.map fun n => .int .i64 n) t
abbrev placesR (g cg b k : Nat) : Res := own (some (g, cg)) 55 1 ((List.range k).map fun i => [.pointer (some ⟨b, i, none⟩)])
theorem rowP {b k i : Nat} (h : i < k) : ((List.range k).map fun i => [Value.pointer (some ⟨b, i, none⟩)])[i]? = some [.pointer (some ⟨b, i, none⟩)] := by simp [h]
theorem mapM_take {α β : Type} {f : α → Option β} {l : List α} {i : Nat} {a : α} {b : β} {r : List β} (ha : l[i]? = some a) (h : (l.take i).mapM f = some r) (hb : f a = some b) : (l.take (i + 1)).mapM f = some (r ++ [b]) := by
  rw [List.take_add_one, ha]
  simp [List.mapM_append, h, hb]
theorem mapM_none {α β : Type} {f : α → Option β} : ∀ {l : List α} {i : Nat} {a : α}, l[i]? = some a → f a = none → l.mapM f = none
  | [], i, a, ha, _ => by simp at ha
  | x :: l, 0, a, ha, h => by
    simp at ha
    subst ha
    simp [h]
  | x :: l, i + 1, a, ha, h => by
    have := mapM_none (l := l) (i := i) (by simpa using ha) h
    simp [this]
theorem mapM_len {α β : Type} {f : α → Option β} : ∀ {l : List α} {r : List β}, l.mapM f = some r → r.length = l.length
  | [], r, h => by simp at h; simp [h]
  | x :: l, r, h => by
    simp only [List.mapM_cons, Option.bind_eq_bind, Option.bind_eq_some_iff, Option.pure_def, Option.some.injEq] at h
    obtain ⟨y, _, s, hs, rfl⟩ := h
    simp [mapM_len hs]
theorem set_take {vs : List Int} {i : Nat} {n : Int} (h : i < vs.length) : (vs.set i n).take (i + 1) = vs.take i ++ [n] := by
  rw [List.take_add_one, List.getElem?_set_self h, List.take_set_of_le (Nat.le_refl _)]
  rfl
structure ReadH (ws : List (List UInt8)) (k : Nat) (x : Bool × List Int) : Prop where
  len : x.2.length = k
  ok : x.1 = (decide (ws.length = k) && (ws.mapM num).isSome)
  vals : x.1 = true → ws.mapM num = some x.2
theorem read_spec (ws : List (List UInt8)) (hws : ∀ w ∈ ws, w.length ≤ 1000000) (a : Option Addr) (c b t g cg k : Nat) (hk : k ≤ 1000) (vs0 : List Int) (hv0 : vs0.length = k) (w : World) (hg0 : G0 w)
    (hsep : ∀ r, r < 8 → ¬ fpOf [cellsR b t vs0, placesR g cg b k] r) (hs : SlAtM w (fpOf [cellsR b t vs0, placesR g cg b k]) 1 a (ws.map strRow)) (h : Own w [cellsR b t vs0, placesR g cg b k]) :
    Ret Tryd.prog 18 [.slice a ws.length c, sv (some (g, cg)) k] w (fpOf [cellsR b t vs0, placesR g cg b k]) (ReadH ws k) (fun x => .bool x.1) (fun x => [cellsR b t x.2]) := by
  have key : ∀ L w', St w (fpOf [cellsR b t vs0, placesR g cg b k]) L w' → G0 w' := fun L w' hw => hg0.st hw hsep
  obtain ⟨bw, ow, ha, hrow⟩ := hs
  refine enter (A := St w (fpOf [cellsR b t vs0, placesR g cg b k]) [cellsR b t vs0, placesR g cg b k]) Tryd.func18 rfl Tryd.ntmps18 (Nat.le_of_ble_eq_true rfl) h ?_
  refine seq ?_
  refine region ?_
  refine vl rfl (asg trivial rfl) ?_
  refine nil ?_
  refine thenN ?_
  refine seq ?_
  refine seq ?_
  refine region ?_
  refine vl rfl (mv trivial rfl) ?_
  refine vl rfl (lenL trivial rfl Tryd.runUnderlying50) ?_
  refine vl rfl (mv trivial rfl) ?_
  refine vl rfl (lenO trivial rfl (by simp) m1 Tryd.runUnderlying86) ?_
  refine vl rfl (neI trivial rfl rfl) ?_
  refine nil ?_
  refine thenN ?_
  refine cond rfl (fun h13 => ?_) (fun h13 => ?_)
  · skip
    refine seq ?_
    refine region ?_
    refine vl rfl (asg trivial rfl) ?_
    refine nil ?_
    refine thenN ?_
    refine ret ?_
    refine thenR ?_
    refine end1 Tryd.results18 rfl (fun w' hw => ?_)
    have hne : ¬ ws.length = k := by have := of_decide_eq_false (by simpa using h13 : decide ((ws.length : Int) = (k : Int)) = false); omega
    exact ⟨(false, vs0), ⟨hv0, by simp [hne], fun h => by cases h⟩, rfl, hw.subl (.cons_cons _ (List.nil_sublist _))⟩
  · have hk2 : ws.length = k := by have := of_decide_eq_true (by simpa using h13 : decide ((ws.length : Int) = (k : Int)) = true); omega
    refine skip ?_
    refine thenN ?_
    refine seq ?_
    refine seq ?_
    refine region ?_
    refine vl rfl (mv trivial rfl) ?_
    refine vl rfl (lenL trivial rfl Tryd.runUnderlying50) ?_
    refine vl rfl (mv trivial rfl) ?_
    refine nil ?_
    refine thenN ?_
    refine block ?_
    refine loop (γ := Nat × List Int) (fun x => x.1 ≤ k ∧ x.2.length = k ∧ (ws.take x.1).mapM num = some (x.2.take x.1)) (fun x => [(1, sv (some (g, cg)) k), (14, .slice a ws.length c), (15, .int .i64 (ws.length : Nat)), (16, .int .i64 (x.1 : Nat))]) (fun x => St w (fpOf [cellsR b t vs0, placesR g cg b k]) [cellsR b t x.2, placesR g cg b k]) (fun x => k - x.1) (0, vs0) ⟨Nat.zero_le _, hv0, by simp⟩ ?_ (fun w hw => ?_) (fun x hx => ?_)
    · repeat' (first | exact trivial | (refine And.intro ?_ ?_) | rfl)
    · exact hw
    obtain ⟨i, vs⟩ := x
    obtain ⟨hik, hvl, hm⟩ := hx
    simp only at hik hvl hm
    refine seq ?_
    refine region ?_
    refine vl rfl (ltI trivial rfl rfl) ?_
    refine nil ?_
    refine thenN ?_
    refine seq ?_
    refine cond rfl (fun h17 => ?_) (fun h17 => ?_)
    · have hi : i < ws.length := by simpa using h17
      obtain ⟨wd, hwd⟩ := getQ hi
      have hwl := hws wd (List.mem_of_getElem? hwd)
      have hab := ha (map_ne hi)
      refine skip ?_
      refine thenN ?_
      refine seq ?_
      refine block ?_
      refine seq ?_
      refine region ?_
      refine vl rfl (mv trivial rfl) ?_
      refine vl rfl (ixA trivial sl_L_string rfl rfl rfl hi hab.1) ?_
      refine vl rfl (ld1 0 trivial Tryd.isAgg9 rfl (hasArg (hrow i _ (rowS hwd)) hab.2) rfl rfl) ?_
      refine vl rfl (asg trivial rfl) ?_
      refine vl rfl (asg trivial rfl) ?_
      refine nil ?_
      refine thenN ?_
      refine seq ?_
      refine region ?_
      refine vl rfl (mv trivial rfl) ?_
      refine callR0 rfl trivial rfl rfl Tryd.call33 rfl (fun w hw => atoi_spec wd hwl w (key _ _ hw)) (fun g23 h23 => ?_)
      refine vl rfl (mv trivial rfl) ?_
      refine vl rfl (extr trivial rfl rfl) ?_
      refine vl rfl (extr trivial rfl rfl) ?_
      refine vl rfl (asg trivial rfl) ?_
      refine vl rfl (asg trivial rfl) ?_
      refine nil ?_
      refine thenN ?_
      refine seq ?_
      refine seq ?_
      refine region ?_
      refine vl rfl (mv trivial rfl) ?_
      refine vl rfl (neErr trivial rfl h23.kind (by kernel_rfl)) ?_
      refine vl rfl (mv trivial rfl) ?_
      refine splitB 28 rfl (fun h28 => ?_) (fun h28 => ?_)
      · change isErr g23.2 = true at h28
        have hbad : num wd = none := by
          cases hnum : num wd with
          | none => rfl
          | some n =>
            obtain ⟨he, h1, h2⟩ := num_some.1 hnum
            have := h23.good n (by rw [← he]; exact atoi_itoa (by omega))
            subst this
            cases h28
        refine vl rfl (skF rfl rfl) ?_
        refine vl rfl (skF rfl rfl) ?_
        refine vl rfl (skF rfl rfl) ?_
        refine vl rfl (skF rfl rfl) ?_
        refine vl rfl (pkT trivial rfl rfl) ?_
        refine vl rfl (mv trivial rfl) ?_
        refine vl rfl (skF rfl rfl) ?_
        refine vl rfl (skF rfl rfl) ?_
        refine vl rfl (pkT trivial rfl rfl) ?_
        refine vl rfl (mv trivial rfl) ?_
        refine vl rfl (skF rfl rfl) ?_
        refine vl rfl (skF rfl rfl) ?_
        refine vl rfl (pkT trivial rfl rfl) ?_
        refine nil ?_
        refine thenN ?_
        refine condT rfl ?_
        refine seq ?_
        refine region ?_
        refine vl rfl (asg trivial rfl) ?_
        refine nil ?_
        refine thenN ?_
        refine ret ?_
        refine thenR (blkR (thenR (loopR (blkR (thenR ?_)))))
        refine end1 Tryd.results18 rfl (fun w' hw => ?_)
        exact ⟨(false, vs), ⟨hvl, by simp [mapM_none hwd hbad], fun h => by cases h⟩, rfl, hw.subl (.cons_cons _ (List.nil_sublist _))⟩
      · change isErr g23.2 = false at h28
        have hok : ∃ n, Lib.atoiAll wd = .ok n := by
          apply Classical.byContradiction
          intro hc
          have := h23.bad (fun n hn => hc ⟨n, hn⟩)
          rw [h28] at this
          cases this
        obtain ⟨n, hn⟩ := hok
        have hg23 := h23.good n hn
        subst hg23
        have hnr := atoi_range hn
        refine vl rfl (mv ⟨_, rfl, rfl⟩ rfl) ?_
        refine callG rfl ⟨_, rfl, rfl⟩ rfl rfl Tryd.call27 rfl (fun w hw => itoa_spec n hnr w (key _ _ hw)) ?_
        refine vl rfl (mv ⟨_, rfl, rfl⟩ rfl) ?_
        refine vl rfl (neS ⟨_, rfl, rfl⟩ rfl rfl) ?_
        refine vl rfl (pkF trivial rfl rfl) ?_
        refine vl rfl (mv trivial rfl) ?_
        refine splitB 34 rfl (fun h34 => ?_) (fun h34 => ?_)
        · have hbad : num wd = none := by
            cases hnum : num wd with
            | none => rfl
            | some m =>
              obtain ⟨he, h1, h2⟩ := num_some.1 hnum
              rw [← he, atoi_itoa (by omega)] at hn
              injection hn with hn
              subst hn
              simp [he] at h34
          refine vl rfl (skF rfl rfl) ?_
          refine vl rfl (skF rfl rfl) ?_
          refine vl rfl (pkT trivial rfl rfl) ?_
          refine vl rfl (mv trivial rfl) ?_
          refine vl rfl (skF rfl rfl) ?_
          refine vl rfl (skF rfl rfl) ?_
          refine vl rfl (pkT trivial rfl rfl) ?_
          refine nil ?_
          refine thenN ?_
          refine condT rfl ?_
          refine seq ?_
          refine region ?_
          refine vl rfl (asg trivial rfl) ?_
          refine nil ?_
          refine thenN ?_
          refine ret ?_
          refine thenR (blkR (thenR (loopR (blkR (thenR ?_)))))
          refine end1 Tryd.results18 rfl (fun w' hw => ?_)
          exact ⟨(false, vs), ⟨hvl, by simp [mapM_none hwd hbad], fun h => by cases h⟩, rfl, hw.subl (.cons_cons _ (List.nil_sublist _))⟩
        · skip
          refine vl rfl (mv ⟨_, rfl, rfl⟩ rfl) ?_
          refine vl rfl (ltI ⟨_, rfl, rfl⟩ rfl rfl) ?_
          refine vl rfl (pkF trivial rfl rfl) ?_
          refine vl rfl (mv trivial rfl) ?_
          refine splitB 38 rfl (fun h38 => ?_) (fun h38 => ?_)
          · have hbad : num wd = none := by
              cases hnum : num wd with
              | none => rfl
              | some m =>
                obtain ⟨he, h1, h2⟩ := num_some.1 hnum
                rw [← he, atoi_itoa (by omega)] at hn
                injection hn with hn
                subst hn
                have := of_decide_eq_true h38
                omega
            refine vl rfl (skF rfl rfl) ?_
            refine vl rfl (skF rfl rfl) ?_
            refine vl rfl (pkT trivial rfl rfl) ?_
            refine nil ?_
            refine thenN ?_
            refine condT rfl ?_
            refine seq ?_
            refine region ?_
            refine vl rfl (asg trivial rfl) ?_
            refine nil ?_
            refine thenN ?_
            refine ret ?_
            refine thenR (blkR (thenR (loopR (blkR (thenR ?_)))))
            refine end1 Tryd.results18 rfl (fun w' hw => ?_)
            exact ⟨(false, vs), ⟨hvl, by simp [mapM_none hwd hbad], fun h => by cases h⟩, rfl, hw.subl (.cons_cons _ (List.nil_sublist _))⟩
          · skip
            refine vl rfl (mv ⟨_, rfl, rfl⟩ rfl) ?_
            refine vl rfl (gtI ⟨_, rfl, rfl⟩ rfl rfl) ?_
            refine vl rfl (pkF trivial rfl rfl) ?_
            refine nil ?_
            refine thenN ?_
            refine cond rfl (fun h41 => ?_) (fun h41 => ?_)
            · have hbad : num wd = none := by
                cases hnum : num wd with
                | none => rfl
                | some m =>
                  obtain ⟨he, h1, h2⟩ := num_some.1 hnum
                  rw [← he, atoi_itoa (by omega)] at hn
                  injection hn with hn
                  subst hn
                  have := of_decide_eq_true h41
                  omega
              refine seq ?_
              refine region ?_
              refine vl rfl (asg trivial rfl) ?_
              refine nil ?_
              refine thenN ?_
              refine ret ?_
              refine thenR (blkR (thenR (loopR (blkR (thenR ?_)))))
              refine end1 Tryd.results18 rfl (fun w' hw => ?_)
              exact ⟨(false, vs), ⟨hvl, by simp [mapM_none hwd hbad], fun h => by cases h⟩, rfl, hw.subl (.cons_cons _ (List.nil_sublist _))⟩
            · have hgood : num wd = some n := num_some.2 ⟨by simpa using h34, by have := of_decide_eq_false h38; omega, by have := of_decide_eq_false h41; omega⟩
              refine skip ?_
              refine thenN ?_
              refine region ?_
              refine vl rfl (mv trivial rfl) ?_
              refine vl rfl (mv trivial rfl) ?_
              refine vl rfl (ixO trivial sl_L_P_int rfl rfl rfl (by omega)) ?_
              refine vl rfl (ld1 0 trivial Tryd.isAgg55 rfl (hasOwn m1 (rowP (by omega))) rfl rfl) ?_
              refine vl rfl (mv trivial rfl) ?_
              refine vl rfl (nck trivial rfl) ?_
              refine st1 trivial rfl rfl rfl Tryd.sizeOf3 (by simp [Nat.blt_eq]; omega) rfl ?_
              refine nil ?_
              refine blkN ?_
              refine thenN ?_
              refine region ?_
              refine vl rfl (addI trivial rfl rfl (i64r (by omega))) ?_
              refine vl rfl (mv trivial rfl) ?_
              refine nil ?_
              refine loopN (i + 1, vs.set i n) ⟨by show i + 1 ≤ k; omega, by simpa using hvl, by rw [set_take (by omega)]; exact mapM_take hwd hm hgood⟩ (by show k - (i + 1) < k - i; omega) (by repeat' (first | exact trivial | (refine And.intro ?_ ?_) | rfl)) (fun w hw => ?_)
              simpa [cellsR, List.map_set] using hw
    · skip
      refine exit ?_
      refine thenX ?_
      refine loopX ?_
      refine blkX ?_
      refine thenN ?_
      refine seq ?_
      refine region ?_
      refine vl rfl (asg trivial rfl) ?_
      refine nil ?_
      refine thenN ?_
      refine ret ?_
      refine end1 Tryd.results18 rfl (fun w' hw => ?_)
      have hi : i = k := by have := of_decide_eq_false h17; omega
      have hm2 : ws.mapM num = some vs := by rw [hi, ← hk2, List.take_length, hk2, ← hvl, List.take_length] at hm; exact hm
      exact ⟨(true, vs), ⟨hvl, by simp [hk2, hm2], fun _ => hm2⟩, rfl, hw.subl (.cons_cons _ (List.nil_sublist _))⟩
end Go.Proofs.YtggofhbblidimaaDoor
