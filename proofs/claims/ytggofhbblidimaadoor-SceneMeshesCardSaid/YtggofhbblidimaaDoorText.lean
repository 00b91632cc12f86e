/- Walks: the program's texts of quads. -/
import Derived.Test.YtggofhbblidimaaDoorMeshB
import Derived.Test.YtggofhbblidimaaDoorPlainB
import Derived.Test.YtggofhbblidimaaDoorBuild
import Derived.Lib.AppendIntMem
namespace Go.Proofs.YtggofhbblidimaaDoor
open Go Go.RowKit Eng
open Go.Lib (itoa decDigits nDigits)
set_option maxRecDepth 4000
/-- What the calls ask of the package-level variables. -/
structure G0 (w : World) : Prop where
  big : 8 ≤ w.heap.size
  maxlen : ∃ m, w.cell? ⟨0, 0, none⟩ = some (.int .i64 m)
  tab : Lib.TabIs Tryd.prog w "internal/strconv.uint64pow10" .u64 Lib.pow10Tab
  syn : ∃ t p, w.var? Tryd.prog "strconv.ErrSyntax" = some #[.iface t p]
  rng : ∃ t p, w.var? Tryd.prog "strconv.ErrRange" = some #[.iface t p]
theorem G0.keep {w w' : World} (h : G0 w) (hs : w.heap.size ≤ w'.heap.size) (hk : ∀ k, k < 8 → w'.heap[k]? = w.heap[k]?) : G0 w' := by
  have hv : ∀ name g, Tryd.prog.globalNamed name = some g → g < 8 → w'.var? Tryd.prog name = w.var? Tryd.prog name := fun name g hg hlt => by
    simp only [World.var?, hg, Option.bind_some, hk g hlt]
  refine ⟨Nat.le_trans h.big hs, ?_, ?_, ?_, ?_⟩
  · obtain ⟨m, hm⟩ := h.maxlen
    exact ⟨m, (World.cell?_of_block (w := w) (hk _ (by show 0 < 8; decide))).trans hm⟩
  · have := h.tab
    unfold Lib.TabIs at *
    rw [hv _ 3 (by kernel_rfl) (by decide)]
    exact this
  · rw [hv _ 1 (by kernel_rfl) (by decide)]
    exact h.syn
  · rw [hv _ 2 (by kernel_rfl) (by decide)]
    exact h.rng
theorem G0.st {w0 w : World} {M : Nat → Prop} {L : List Res} (h : G0 w0) (hw : St w0 M L w) (hM : ∀ k, k < 8 → ¬ M k) : G0 w :=
  h.keep hw.size fun k hk => hw.block k (Nat.lt_of_lt_of_le hk h.big) (hM k hk)
theorem G0.no {w0 w : World} {L : List Res} (h : G0 w0) (hw : St w0 No L w) : G0 w := h.st hw (fun _ _ h => h)
theorem itoa_spec (n : Int) (hn : -9223372036854775808 ≤ n ∧ n ≤ 9223372036854775807) (w : World) (hg : G0 w) : Gives Tryd.prog 27 [.int .i64 n] w (str (itoa n)) :=
  .of_below (((Tryd.strconv_Itoa n hn.1 hn.2 w hg.tab)).mono fun _ _ ⟨he, k, os, hw⟩ => ⟨he, by rw [hw]; exact Lib.below_grow w.heap.size w (Nat.le_refl _) k os⟩)
abbrev intsR (g c : Nat) (l : List Int) : Res := own (some (g, c)) 3 1 (l.map fun n => [.int .i64 n])
theorem rowI {l : List Int} {i : Nat} {n : Int} (h : l[i]? = some n) : (l.map fun n => [Value.int .i64 n])[i]? = some [.int .i64 n] := by simp [h]
theorem line_spec (b : Nat) (s : Bool) (o : Option (Nat × Nat)) (k first : List UInt8) (l : List Int) (hl : ∀ n ∈ l, -10000000 ≤ n ∧ n ≤ 10000000) (g c : Nat) (w : World) (hlen : k.length + first.length + 12 * l.length ≤ 1000000)
    (hg0 : G0 w) (hsep : ∀ r, r < 8 → ¬ fpOf [bldB b s (sv o k.length), bufB o k, intsR g c l] r) (h : Own w [bldB b s (sv o k.length), bufB o k, intsR g c l]) :
    Ret Tryd.prog 10 [.pointer (some ⟨b, 0, none⟩), str first, sv (some (g, c)) l.length] w (fpOf [bldB b s (sv o k.length), bufB o k, intsR g c l]) (fun _ : Option (Nat × Nat) => True) (fun _ => .tuple #[])
      (fun o' => [bldB b true (sv o' (k ++ lineL first l).length), bufB o' (k ++ lineL first l)]) := by
  have key : ∀ L w', St w (fpOf [bldB b s (sv o k.length), bufB o k, intsR g c l]) L w' → G0 w' := fun L w' hw => hg0.st hw hsep
  refine enter (A := St w (fpOf [bldB b s (sv o k.length), bufB o k, intsR g c l]) [bldB b s (sv o k.length), bufB o k, intsR g c l]) Tryd.func10 rfl Tryd.ntmps10 (Nat.le_of_ble_eq_true rfl) h ?_
  refine seq ?_
  refine region ?_
  refine vl rfl (mv trivial rfl) ?_
  refine vl rfl (mv trivial rfl) ?_
  refine OpsJ.conv (fun _ => St.b1) ?_
  refine OpsJ.conv (fun _ => St.b1) ?_
  refine callM2 rfl trivial rfl rfl Tryd.call25 rfl (fun w hw => writeString_spec b s o k first w (by omega) hw.own2) (fun g10 h10 => ?_)
  refine nil ?_
  refine thenN ?_
  refine seq ?_
  refine seq ?_
  refine region ?_
  refine vl rfl (mv trivial rfl) ?_
  refine vl rfl (lenO trivial rfl (by simp) m2 Tryd.runUnderlying48) ?_
  refine vl rfl (mv trivial rfl) ?_
  refine nil ?_
  refine thenN ?_
  refine block ?_
  refine loop (γ := Nat × Option (Nat × Nat)) (fun x => x.1 ≤ l.length) (fun x => [(0, .pointer (some ⟨b, 0, none⟩)), (11, sv (some (g, c)) l.length), (12, .int .i64 (l.length : Nat)), (13, .int .i64 (x.1 : Nat))]) (fun x => St w (fpOf [bldB b s (sv o k.length), bufB o k, intsR g c l]) [bldB b true (sv x.2 (k ++ first ++ blanks (l.take x.1)).length), bufB x.2 (k ++ first ++ blanks (l.take x.1)), intsR g c l]) (fun x => l.length - x.1) (0, g10) (Nat.zero_le _) ?_ (fun w hw => ?_) (fun x hx => ?_)
  · repeat' (first | exact trivial | (refine And.intro ?_ ?_) | rfl)
  · simpa [blanks] using hw
  refine seq ?_
  refine region ?_
  refine vl rfl (ltI trivial rfl rfl) ?_
  refine nil ?_
  refine thenN ?_
  refine seq ?_
  refine cond rfl (fun h14 => ?_) (fun h14 => ?_)
  · have hi : x.1 < l.length := by simpa using h14
    obtain ⟨n, hn⟩ := getQ hi
    have hnb := hl n (List.mem_of_getElem? hn)
    have hb1 := blanks_le (l.take x.1) (fun m hm => hl m (List.mem_of_mem_take hm))
    have hb2 : (l.take x.1).length = x.1 := by simp; omega
    have hb3 := itoa_length (n := n) (by omega)
    refine skip ?_
    refine thenN ?_
    refine seq ?_
    refine block ?_
    refine seq ?_
    refine region ?_
    refine vl rfl (ixO trivial sl_L_int rfl rfl rfl hi) ?_
    refine vl rfl (ld1 0 trivial Tryd.isAgg3 rfl (hasOwn m2 (rowI hn)) rfl rfl) ?_
    refine vl rfl (asg trivial rfl) ?_
    refine nil ?_
    refine thenN ?_
    refine seq ?_
    refine region ?_
    refine vl rfl (mv trivial rfl) ?_
    refine OpsJ.conv (fun _ => St.b1) ?_
    refine OpsJ.conv (fun _ => St.b1) ?_
    refine callM2 rfl trivial rfl rfl Tryd.call26 rfl (fun w hw => writeByte_spec b true _ _ 32 w (by simp only [List.length_append]; omega) hw.own2) (fun g18 h18 => ?_)
    refine nil ?_
    refine thenN ?_
    refine region ?_
    refine vl rfl (mv trivial rfl) ?_
    refine vl rfl (mv trivial rfl) ?_
    refine callG rfl trivial rfl rfl Tryd.call27 rfl (fun w hw => itoa_spec n (by omega) w (key _ _ hw)) ?_
    refine OpsJ.conv (fun _ => St.b1) ?_
    refine OpsJ.conv (fun _ => St.b1) ?_
    refine callM2 rfl trivial rfl rfl Tryd.call25 rfl (fun w hw => writeString_spec b true _ _ (itoa n) w (by simp only [List.length_append, List.length_cons, List.length_nil]; omega) hw.own2) (fun g22 h22 => ?_)
    refine nil ?_
    refine blkN ?_
    refine thenN ?_
    refine region ?_
    refine vl rfl (addI trivial rfl rfl (i64r (by omega))) ?_
    refine vl rfl (mv trivial rfl) ?_
    refine nil ?_
    refine loopN (x.1 + 1, g22) (by show x.1 + 1 ≤ l.length; omega) (by show l.length - (x.1 + 1) < l.length - x.1; omega) (by repeat' (first | exact trivial | (refine And.intro ?_ ?_) | rfl)) (fun w hw => ?_)
    simpa [blanks_take hn] using hw
  · have hx : x.1 = l.length := by have := of_decide_eq_false h14; omega
    have hb1 := blanks_le (l.take x.1) (fun m hm => hl m (List.mem_of_mem_take hm))
    have hb2 : (l.take x.1).length = x.1 := by simp; omega
    refine exit ?_
    refine thenX ?_
    refine loopX ?_
    refine blkX ?_
    refine thenN ?_
    refine region ?_
    refine vl rfl (mv trivial rfl) ?_
    refine OpsJ.conv (fun _ => St.b1) ?_
    refine OpsJ.conv (fun _ => St.b1) ?_
    refine callM2 rfl trivial rfl rfl Tryd.call26 rfl (fun w hw => writeByte_spec b true _ _ 10 w (by simp only [List.length_append]; omega) hw.own2) (fun g25 h25 => ?_)
    refine nil ?_
    refine end0n Tryd.results10 (fun w' hw => ?_)
    refine ⟨g25, trivial, rfl, ?_⟩
    rw [hx, List.take_length] at hw
    simpa [lineL] using hw.subl (.cons_cons _ (.cons_cons _ (List.nil_sublist _)))
theorem written_spec (b : Nat) (k : List UInt8) (B : Nat) (v : World) (hB : B ≤ v.heap.size) (h : Lib.IsBuilder 38 5 B b (Lib.byteCells k) v) :
    Calls Tryd.prog 11 [.pointer (some ⟨b, 0, none⟩)].toArray v fun e w' => e = .returned (.tuple #[str (wr k).1, .int .i64 (wr k).2]) ∧ Below B v w' := by
  refine enter (A := fun w' => w' = v) Tryd.func11 rfl Tryd.ntmps11 (Nat.le_of_ble_eq_true rfl) rfl ?_
  refine seq ?_
  refine region ?_
  refine vl rfl (asg trivial rfl) ?_
  refine vl rfl (asg trivial rfl) ?_
  refine nil ?_
  refine thenN ?_
  refine seq ?_
  refine seq ?_
  refine region ?_
  refine vl rfl (mv trivial rfl) ?_
  refine callA (B := (fun w' => w' = v)) rfl trivial rfl rfl Tryd.call28 rfl (fun w hw => (Tryd.Builder_Len B b (Lib.byteCells k) w (by rw [hw]; exact h)).mono (fun e w' he => ⟨by rw [he.1, Lib.byteCells_length], he.2.trans hw⟩)) ?_
  refine vl rfl (gtI trivial rfl rfl) ?_
  refine nil ?_
  refine thenN ?_
  refine cond rfl (fun h6 => ?_) (fun h6 => ?_)
  · skip
    refine seq ?_
    refine region ?_
    refine vl rfl (asg trivial rfl) ?_
    refine vl rfl (asg trivial rfl) ?_
    refine nil ?_
    refine thenN ?_
    refine ret ?_
    refine thenR ?_
    refine end2 Tryd.results11 rfl rfl (fun w' hw => ?_)
    subst hw
    exact ⟨by simp [wr, show 60000 < k.length by have := of_decide_eq_true h6; omega], Below.refl B _⟩
  · skip
    refine skip ?_
    refine thenN ?_
    refine seq ?_
    refine region ?_
    refine vl rfl (mv trivial rfl) ?_
    refine callA (B := (fun w' => Below B v w')) rfl trivial rfl rfl Tryd.call29 rfl (fun w hw => (by rw [hw]; exact Tryd.Builder_String_any B b k v h hB)) ?_
    refine vl rfl (asg trivial rfl) ?_
    refine vl rfl (asg trivial rfl) ?_
    refine nil ?_
    refine thenN ?_
    refine ret ?_
    refine end2 Tryd.results11 rfl rfl (fun w' hw => ?_)
    exact ⟨by simp [wr, show ¬ 60000 < k.length by have := of_decide_eq_false h6; omega], hw⟩
end Go.Proofs.YtggofhbblidimaaDoor
