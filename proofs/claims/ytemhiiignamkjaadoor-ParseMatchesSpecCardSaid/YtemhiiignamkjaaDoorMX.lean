/-
  Layer 12 (parse), the specification's reader: is, sign, token.
  Layer 12 (parse), the specification's reader: token.
  Layer 12 (parse), the specification's reader: its rows, apart from each other; appends to them.
-/
import Derived.Test.YtemhiiignamkjaaDoorParP7
import Derived.Test.YtemhiiignamkjaaDoorParR1
import Derived.Maps.AppendAt
namespace Go.Proofs.YtemhiiignamkjaaDoor
open Go.RowKit LexP ParP
attribute [local go_sem] Oper.semAt_some

set_option maxRecDepth 100000 in
set_option maxHeartbeats 4000000 in
theorem ris_any (w : World) (g B n : Nat) (bad : Bool) (s : ByteArray) (tv c3 c4 c5 c6 c7 c8 c9 c10 : Value) (l : List Tok)
    (hb : Blk w g 71 #[tv, .int .i64 n, .bool bad, c3, c4, c5, c6, c7, c8, c9, c10]) (hT : TkAt w B tv l) :
    Calls Tryd.prog 29 #[.pointer (some ⟨g, 0, none⟩), .string s] w fun e w' => e = .returned (.bool (isB l n s)) ∧ Below w.heap.size w w' := by
  have e0 : w.cell? ⟨g, 0, none⟩ = some tv := hb.cell 0
  have e1 : w.cell? ⟨g, 1, none⟩ = some (.int .i64 n) := hb.cell 1
  obtain ⟨A, c, rfl, hT'⟩ := id hT
  clear hT'
  by_cases hlt : n < l.length
  · obtain ⟨T, hTn⟩ : ∃ T, l[n]? = some T := ⟨_, List.getElem?_eq_getElem hlt⟩
    obtain ⟨b, o, rfl, hbB, k0, k1, k2, k3⟩ := hT.at_ n T hTn
    have d2 : decide ((n : Int) < (l.length : Int)) = true := decide_eq_true (by omega)
    have d3 : decide (n < l.length) = true := decide_eq_true hlt
    have q0 : (0 : Int) ≤ (n : Int) := by omega
    have q1 : (n : Int) < (l.length : Int) := by omega
    have hpk : Hid (isB l n s = (T.text.toList == s.toList)) := isB_at hTn
    clear hb hT hTn hlt k0 k2 k3
    go_enter Tryd.func29, Tryd.ntmps29
    go_wp2_with fail
    go_quiet (fail)
    go_wp2_with fail
    go_ret
    exact ⟨by rw [hpk.out]; rfl, ⟨rfl, rfl, rfl, Nat.le_refl _, fun _ _ => rfl⟩⟩
  · have d2 : decide ((n : Int) < (l.length : Int)) = false := decide_eq_false (by omega)
    have d3 : decide (n < l.length) = false := decide_eq_false hlt
    have hpk : Hid (isB l n s = false) := isB_end (Nat.le_of_not_lt hlt)
    clear hb hT hlt
    go_enter Tryd.func29, Tryd.ntmps29
    go_wp2_with fail
    go_quiet (fail)
    go_wp2_with fail
    go_ret
    exact ⟨by rw [hpk.out]; rfl, ⟨rfl, rfl, rfl, Nat.le_refl _, fun _ _ => rfl⟩⟩
/-- What a step of the reader leaves: the place, and whether a token did not fit. -/
def SignPost (w : World) (g : Nat) (tv c3 c4 c5 c6 c7 c8 c9 c10 : Value) (l : List Tok) (r : Rd Tok) (v : Value) (e : Ending) (w' : World) : Prop :=
  e = .returned v ∧ ∃ n bad, Sk l n bad r ∧ Blk w' g 71 #[tv, .int .i64 n, .bool bad, c3, c4, c5, c6, c7, c8, c9, c10] ∧ w.grownBy w' (some g)
set_option maxRecDepth 100000 in
set_option maxHeartbeats 4000000 in
theorem rsign_any {α : Type} (w : World) (g B n : Nat) (bad : Bool) (s : ByteArray) (tv c3 c4 c5 c6 c7 c8 c9 c10 : Value) (l : List Tok) (r : Rd α)
    (hb : Blk w g 71 #[tv, .int .i64 n, .bool bad, c3, c4, c5, c6, c7, c8, c9, c10]) (hT : TkAt w B tv l) (hk : Sk l n bad r) (hl : l.length ≤ 1048576) :
    Calls Tryd.prog 27 #[.pointer (some ⟨g, 0, none⟩), .string s] w (SignPost w g tv c3 c4 c5 c6 c7 c8 c9 c10 l (thenTake r (isText s)) (.tuple #[])) := by
  have e1 : w.cell? ⟨g, 1, none⟩ = some (.int .i64 n) := hb.cell 1
  have e2 : w.cell? ⟨g, 2, none⟩ = some (.bool bad) := hb.cell 2
  have HB := Lib.hid hb
  have HT := Lib.hid hT
  have HK := Lib.hid hk
  have hgl := hb.lt
  have hnl : n ≤ l.length := hk.1
  clear hb hT hk
  cases bad
  case true =>
    have f2 : w.frozen? ⟨g, 2, none⟩ = false := HB.out.frozen 2
    go_enter Tryd.func27, Tryd.ntmps27
    go_wp2_with fail
    go_end0
    exact ⟨rfl, n, true, HK.out.stays.1, HB.out.set_ 2 _, grown_ofSet _ _ _ _⟩
  case false =>
    cases hp : isB l n s
    case false =>
      have hR := HK.out.no (p := isText s) (isB_false hp)
      have hRH := Lib.hid hR
      have hpH := Lib.hid hp
      clear hR hp
      go_enter Tryd.func27, Tryd.ntmps27
      go_wp2_with fail
      refine (ris_any w g B n false s tv c3 c4 c5 c6 c7 c8 c9 c10 l HB.out HT.out).mono ?_
      rintro e w1 ⟨rfl, hB1⟩
      rw [hpH.out]
      have f2 : w1.frozen? ⟨g, 2, none⟩ = false := (HB.out.below hB1 hgl).frozen 2
      have x2 : w1.cell? ⟨g, 2, none⟩ = some (.bool false) := (HB.out.below hB1 hgl).cell 2
      have B1 := Lib.hid hB1
      clear hB1 e1 e2
      go_wp2_with fail
      go_end0
      exact ⟨rfl, n, true, hRH.out.1, (HB.out.below B1.out hgl).set_ 2 _, grown_trans (grown_ofBelow B1.out _) (grown_ofSet _ _ _ _)⟩
    case true =>
      obtain ⟨t, ht, hpt⟩ := isB_true hp
      have hR := HK.out.yes (p := isText s) ht hpt
      have hRH := Lib.hid hR
      have hpH := Lib.hid hp
      clear hR hp ht hpt
      go_enter Tryd.func27, Tryd.ntmps27
      go_wp2_with fail
      refine (ris_any w g B n false s tv c3 c4 c5 c6 c7 c8 c9 c10 l HB.out HT.out).mono ?_
      rintro e w1 ⟨rfl, hB1⟩
      rw [hpH.out]
      have f1 : w1.frozen? ⟨g, 1, none⟩ = false := (HB.out.below hB1 hgl).frozen 1
      have x1 : w1.cell? ⟨g, 1, none⟩ = some (.int .i64 n) := (HB.out.below hB1 hgl).cell 1
      have B1 := Lib.hid hB1
      clear hB1 e1 e2
      go_wp2_with fail
      go_end0
      exact ⟨rfl, n + 1, false, hRH.out.1, (HB.out.below B1.out hgl).set_ 1 _, grown_trans (grown_ofBelow B1.out _) (grown_ofSet _ _ _ _)⟩
end Go.Proofs.YtemhiiignamkjaaDoor
namespace Go.Proofs.YtemhiiignamkjaaDoor
open Go.RowKit LexP ParP
attribute [local go_sem] Oper.semAt_some

theorem grown_setN {w w' : World} {g : Nat} (h : w.grownBy w' (some g)) {q : Nat} (hq : w.heap.size ≤ q) (i : Nat) (u : Value) : w.grownBy (w'.setCell ⟨q, i, none⟩ u) (some g) :=
  ⟨h.os, h.tape, h.output, by simpa [World.setCell] using h.size, fun k hk hne => (Below.heap_setCell _ _ _ _ (Nat.ne_of_lt (Nat.lt_of_lt_of_le hk hq))).trans (h.block k hk hne)⟩
set_option maxRecDepth 100000 in
set_option maxHeartbeats 8000000 in
theorem rtoken_any {α : Type} (w : World) (g B n k : Nat) (bad : Bool) (p : Tok → Bool) (hpk : ∀ t, p t = (t.kind == k)) (tv c3 c4 c5 c6 c7 c8 c9 c10 : Value) (l : List Tok) (r : Rd α)
    (hb : Blk w g 71 #[tv, .int .i64 n, .bool bad, c3, c4, c5, c6, c7, c8, c9, c10]) (hT : TkAt w B tv l) (hk : Sk l n bad r) (hg : B ≤ g) (hl : l.length ≤ 1048576) :
    Calls Tryd.prog 28 #[.pointer (some ⟨g, 0, none⟩), .int .i64 (k : Int)] w (SignPost w g tv c3 c4 c5 c6 c7 c8 c9 c10 l (thenTake r p) (tokAgg (tokV (thenTake r p)))) := by
  have hgl := hb.lt
  have hnl : n ≤ l.length := hk.1
  have hne : g ≠ w.heap.size := Nat.ne_of_lt hgl
  have HB := Lib.hid hb
  have HT := Lib.hid hT
  have HK := Lib.hid hk
  have hgH := Lib.hid hg
  obtain ⟨A, c, rfl, hT'⟩ := id hT
  clear hT' hb hT hk hg
  unfold tokAgg
  cases bad
  case true =>
    have hRH := Lib.hid (HK.out.stays (p := p))
    go_enter Tryd.func28, Tryd.ntmps28
    go_upto_region 1 with fail
    refine world_is (P := fun W => Code.wp _ _ _ _ W) (fun W0 hW0 => ?_)
    have hB0 : Hid (Below w.heap.size w W0) := by unfold Hid; rw [← hW0]; exact (Below.refl _ _).alloc (Nat.le_refl _) _
    have hR0 : Hid (Blk W0 w.heap.size 47 #[.int .i64 0, .string ⟨#[]⟩, .int .i64 0, .int .i64 0]) := by unfold Hid; rw [← hW0]; exact Blk.new _ _ _
    clear hW0
    have hP0 := Lib.hid (HB.out.below hB0.out hgl)
    have y0 := hP0.out.cell 0
    have y1 := hP0.out.cell 1
    have y2 := hP0.out.cell 2
    obtain ⟨q, hq⟩ : ∃ q, w.heap.size = q := ⟨_, rfl⟩
    rw [hq] at hR0 hne ⊢
    have hqg : q ≠ g := Ne.symm hne
    have hqH := Lib.hid hq
    clear hq
    go_quiet (fail)
    go_upto_region 2 with fail
    refine world_is (P := fun W => Code.wp _ _ _ _ W) (fun W1 hW1 => ?_)
    have hP1 : Hid (Blk W1 g 71 #[.slice A l.length c, .int .i64 n, .bool true, c3, c4, c5, c6, c7, c8, c9, c10]) := by unfold Hid; rw [← hW1]; exact hP0.out
    have hR1 : Hid (Blk W1 q 47 #[.int .i64 0, .string ⟨#[]⟩, .int .i64 0, .int .i64 0]) := by unfold Hid; rw [← hW1]; exact hR0.out
    have hB1 : Hid (Below w.heap.size w W1) := by unfold Hid; rw [← hW1]; exact ⟨hB0.out.os, hB0.out.tape, hB0.out.output, hB0.out.size, hB0.out.block⟩
    clear hW1 hP0 hR0 hB0 y0 y1 y2
    have z2 := hP1.out.cell 2
    have f2 := hP1.out.frozen 2
    go_upto_region 3 with fail
    refine world_is (P := fun W => Code.wp _ _ _ _ W) (fun W2 hW2 => ?_)
    have hP2 : Hid (Blk W2 g 71 #[.slice A l.length c, .int .i64 n, .bool true, c3, c4, c5, c6, c7, c8, c9, c10]) := by unfold Hid; rw [← hW2]; exact hP1.out.set_ 2 _
    have hR2 : Hid (Blk W2 q 47 #[.int .i64 0, .string ⟨#[]⟩, .int .i64 0, .int .i64 0]) := by unfold Hid; rw [← hW2]; exact hR1.out.other (a := ⟨g, 2, none⟩) hqg _
    have hG2 : Hid (w.grownBy W2 (some g)) := by unfold Hid; rw [← hW2]; exact grown_trans (grown_ofBelow hB1.out _) (grown_ofSet _ _ _ _)
    clear hW2 hP1 hR1 z2 f2
    have k0 := hR2.out.cell 0
    have k1 := hR2.out.cell 1
    have k2 := hR2.out.cell 2
    have k3 := hR2.out.cell 3
    have g0 := hR2.out.frozen 0
    have g1 := hR2.out.frozen 1
    have g2 := hR2.out.frozen 2
    have g3 := hR2.out.frozen 3
    go_wp2_with fail
    refine world_is (P := fun W => bodyPost _ _ _ _ _ W) (fun W3 hW3 => ?_)
    have hP3 : Hid (Blk W3 g 71 #[.slice A l.length c, .int .i64 n, .bool true, c3, c4, c5, c6, c7, c8, c9, c10]) := by unfold Hid; rw [← hW3]; exact (((hP2.out.other (a := ⟨q, 0, none⟩) hne _).other (a := ⟨q, 1, none⟩) hne _).other (a := ⟨q, 2, none⟩) hne _).other (a := ⟨q, 3, none⟩) hne _
    have hR3 : Blk W3 q 47 #[.int .i64 0, .string ⟨#[]⟩, .int .i64 0, .int .i64 0] := by rw [← hW3]; exact (((hR2.out.set_ 0 _).set_ 1 _).set_ 2 _).set_ 3 _
    have hG3 : Hid (w.grownBy W3 (some g)) := by
      unfold Hid
      rw [← hW3]
      have hq9 := hqH.out
      refine grown_setN (grown_setN (grown_setN (grown_setN hG2.out ?_ _ _) ?_ _ _) ?_ _ _) ?_ _ _ <;> omega
    clear hW3
    refine bodyPost_ret (results_c (P := Tryd.prog) rfl _ _ q 47 _ _ rfl hR3 Tryd.underlying47 rfl (by kernel_rfl)) rfl ?_
    have e9 := hRH.out.2
    rw [e9]
    exact ⟨rfl, n, true, hRH.out.1, hP3.out, hG3.out⟩
  case false =>
  by_cases hlt : n < l.length
  · obtain ⟨T, hTn⟩ : ∃ T, l[n]? = some T := ⟨_, List.getElem?_eq_getElem hlt⟩
    have hTnH := Lib.hid hTn
    have d2 : decide ((l.length : Int) ≤ (n : Int)) = false := decide_eq_false (by omega)
    have d3 : decide (l.length ≤ n) = false := decide_eq_false (by omega)
    have q0 : (0 : Int) ≤ (n : Int) := by omega
    have q1 : (n : Int) < (l.length : Int) := by omega
    obtain ⟨b, o, rfl, hbB0, -, -, -, -⟩ := HT.out.at_ n T hTn
    cases hkk : (T.kind == k)
    case false =>
      have d4 : ((T.kind : Int) == (k : Int)) = false := by rw [beq_eq_false_iff_ne] at hkk ⊢; omega
      have hRH := Lib.hid (HK.out.no (p := p) (fun t ht => by rw [hTn] at ht; cases ht; rw [hpk, hkk]))
      clear hTn hlt hkk hpk
      go_enter Tryd.func28, Tryd.ntmps28
      go_upto_region 1 with fail
      refine world_is (P := fun W => Code.wp _ _ _ _ W) (fun W0 hW0 => ?_)
      have hB0 : Hid (Below w.heap.size w W0) := by unfold Hid; rw [← hW0]; exact (Below.refl _ _).alloc (Nat.le_refl _) _
      have hR0 : Hid (Blk W0 w.heap.size 47 #[.int .i64 0, .string ⟨#[]⟩, .int .i64 0, .int .i64 0]) := by unfold Hid; rw [← hW0]; exact Blk.new _ _ _
      clear hW0
      have hP0 := Lib.hid (HB.out.below hB0.out hgl)
      have y0 := hP0.out.cell 0
      have y1 := hP0.out.cell 1
      have y2 := hP0.out.cell 2
      obtain ⟨q, hq⟩ : ∃ q, w.heap.size = q := ⟨_, rfl⟩
      rw [hq] at hR0 hne ⊢
      have hqg : q ≠ g := Ne.symm hne
      have hqH := Lib.hid hq
      clear hq
      obtain ⟨b', o', hbo, -, u0, -, -, -⟩ := (HT.out.below (hB0.out.mono (Nat.le_trans hgH.out (Nat.le_of_lt hgl)))).at_ n T hTnH.out
      cases hbo
      go_quiet (fail)
      go_upto_region 2 with fail
      refine world_is (P := fun W => Code.wp _ _ _ _ W) (fun W1 hW1 => ?_)
      have hP1 : Hid (Blk W1 g 71 #[.slice (some ⟨b, o, none⟩) l.length c, .int .i64 n, .bool false, c3, c4, c5, c6, c7, c8, c9, c10]) := by unfold Hid; rw [← hW1]; exact hP0.out
      have hR1 : Hid (Blk W1 q 47 #[.int .i64 0, .string ⟨#[]⟩, .int .i64 0, .int .i64 0]) := by unfold Hid; rw [← hW1]; exact hR0.out
      have hB1 : Hid (Below w.heap.size w W1) := by unfold Hid; rw [← hW1]; exact ⟨hB0.out.os, hB0.out.tape, hB0.out.output, hB0.out.size, hB0.out.block⟩
      clear hW1 hP0 hR0 hB0 y0 y1 y2 u0
      have z2 := hP1.out.cell 2
      have f2 := hP1.out.frozen 2
      go_upto_region 3 with fail
      refine world_is (P := fun W => Code.wp _ _ _ _ W) (fun W2 hW2 => ?_)
      have hP2 : Hid (Blk W2 g 71 #[.slice (some ⟨b, o, none⟩) l.length c, .int .i64 n, .bool true, c3, c4, c5, c6, c7, c8, c9, c10]) := by unfold Hid; rw [← hW2]; exact hP1.out.set_ 2 _
      have hR2 : Hid (Blk W2 q 47 #[.int .i64 0, .string ⟨#[]⟩, .int .i64 0, .int .i64 0]) := by unfold Hid; rw [← hW2]; exact hR1.out.other (a := ⟨g, 2, none⟩) hqg _
      have hG2 : Hid (w.grownBy W2 (some g)) := by unfold Hid; rw [← hW2]; exact grown_trans (grown_ofBelow hB1.out _) (grown_ofSet _ _ _ _)
      clear hW2 hP1 hR1 z2 f2
      have k0 := hR2.out.cell 0
      have k1 := hR2.out.cell 1
      have k2 := hR2.out.cell 2
      have k3 := hR2.out.cell 3
      have g0 := hR2.out.frozen 0
      have g1 := hR2.out.frozen 1
      have g2 := hR2.out.frozen 2
      have g3 := hR2.out.frozen 3
      go_wp2_with fail
      refine world_is (P := fun W => bodyPost _ _ _ _ _ W) (fun W3 hW3 => ?_)
      have hP3 : Hid (Blk W3 g 71 #[.slice (some ⟨b, o, none⟩) l.length c, .int .i64 n, .bool true, c3, c4, c5, c6, c7, c8, c9, c10]) := by unfold Hid; rw [← hW3]; exact (((hP2.out.other (a := ⟨q, 0, none⟩) hne _).other (a := ⟨q, 1, none⟩) hne _).other (a := ⟨q, 2, none⟩) hne _).other (a := ⟨q, 3, none⟩) hne _
      have hR3 : Blk W3 q 47 #[.int .i64 0, .string ⟨#[]⟩, .int .i64 0, .int .i64 0] := by rw [← hW3]; exact (((hR2.out.set_ 0 _).set_ 1 _).set_ 2 _).set_ 3 _
      have hG3 : Hid (w.grownBy W3 (some g)) := by
        unfold Hid
        rw [← hW3]
        have hq9 := hqH.out
        refine grown_setN (grown_setN (grown_setN (grown_setN hG2.out ?_ _ _) ?_ _ _) ?_ _ _) ?_ _ _ <;> omega
      clear hW3
      refine bodyPost_ret (results_c (P := Tryd.prog) rfl _ _ q 47 _ _ rfl hR3 Tryd.underlying47 rfl (by kernel_rfl)) rfl ?_
      have e9 := hRH.out.2
      rw [e9]
      exact ⟨rfl, n, true, hRH.out.1, hP3.out, hG3.out⟩
    case true =>
      have d4 : ((T.kind : Int) == (k : Int)) = true := by rw [beq_iff_eq] at hkk ⊢; omega
      have hRH := Lib.hid (HK.out.yes (p := p) hTn (by rw [hpk, hkk]))
      clear hTn hlt hkk hpk
      go_enter Tryd.func28, Tryd.ntmps28
      go_upto_region 1 with fail
      refine world_is (P := fun W => Code.wp _ _ _ _ W) (fun W0 hW0 => ?_)
      have hB0 : Hid (Below w.heap.size w W0) := by unfold Hid; rw [← hW0]; exact (Below.refl _ _).alloc (Nat.le_refl _) _
      have hR0 : Hid (Blk W0 w.heap.size 47 #[.int .i64 0, .string ⟨#[]⟩, .int .i64 0, .int .i64 0]) := by unfold Hid; rw [← hW0]; exact Blk.new _ _ _
      clear hW0
      have hP0 := Lib.hid (HB.out.below hB0.out hgl)
      have y0 := hP0.out.cell 0
      have y1 := hP0.out.cell 1
      have y2 := hP0.out.cell 2
      obtain ⟨q, hq⟩ : ∃ q, w.heap.size = q := ⟨_, rfl⟩
      rw [hq] at hR0 hne ⊢
      have hqg : q ≠ g := Ne.symm hne
      have hqH := Lib.hid hq
      clear hq
      obtain ⟨b', o', hbo, -, u0, -, -, -⟩ := (HT.out.below (hB0.out.mono (Nat.le_trans hgH.out (Nat.le_of_lt hgl)))).at_ n T hTnH.out
      cases hbo
      go_quiet (fail)
      go_upto_region 4 with fail
      refine world_is (P := fun W => Code.wp _ _ _ _ W) (fun W1 hW1 => ?_)
      have hP1 : Hid (Blk W1 g 71 #[.slice (some ⟨b, o, none⟩) l.length c, .int .i64 n, .bool false, c3, c4, c5, c6, c7, c8, c9, c10]) := by unfold Hid; rw [← hW1]; exact hP0.out
      have hR1 : Hid (Blk W1 q 47 #[.int .i64 0, .string ⟨#[]⟩, .int .i64 0, .int .i64 0]) := by unfold Hid; rw [← hW1]; exact hR0.out
      have hB1 : Hid (Below w.heap.size w W1) := by unfold Hid; rw [← hW1]; exact ⟨hB0.out.os, hB0.out.tape, hB0.out.output, hB0.out.size, hB0.out.block⟩
      clear hW1 hP0 hR0 hB0 y0 y1 y2 u0
      have z1 := hP1.out.cell 1
      have f1 := hP1.out.frozen 1
      go_upto_region 5 with fail
      obtain ⟨m, hm⟩ : ∃ m, n + 1 = m := ⟨_, rfl⟩
      rw [show (n : Int) + 1 = (m : Int) from by rw [← hm]; rfl]
      refine world_is (P := fun W => Code.wp _ _ _ _ W) (fun W2 hW2 => ?_)
      have hP2 : Hid (Blk W2 g 71 #[.slice (some ⟨b, o, none⟩) l.length c, .int .i64 (m : Int), .bool false, c3, c4, c5, c6, c7, c8, c9, c10]) := by unfold Hid; rw [← hW2]; exact hP1.out.set_ 1 _
      have hR2 : Hid (Blk W2 q 47 #[.int .i64 0, .string ⟨#[]⟩, .int .i64 0, .int .i64 0]) := by unfold Hid; rw [← hW2]; exact hR1.out.other (a := ⟨g, 1, none⟩) hqg _
      have hG2 : Hid (w.grownBy W2 (some g)) := by unfold Hid; rw [← hW2]; exact grown_trans (grown_ofBelow hB1.out _) (grown_ofSet _ _ _ _)
      clear hW2 hP1 hR1 z1 f1
      obtain ⟨b', o', hbo, hbB, v0, v1, v2, v3⟩ := (HT.out.below (grown_below hG2.out hgH.out hgl)).at_ n T hTnH.out
      cases hbo
      have x0 := hP2.out.cell 0
      have x1 := hP2.out.cell 1
      have k0 := hR2.out.cell 0
      have k1 := hR2.out.cell 1
      have k2 := hR2.out.cell 2
      have k3 := hR2.out.cell 3
      have g0 := hR2.out.frozen 0
      have g1 := hR2.out.frozen 1
      have g2 := hR2.out.frozen 2
      have g3 := hR2.out.frozen 3
      have hbq : b ≠ q := by have := hqH.out; have := hgH.out; omega
      have s1 : wrap64 ((m : Int) - 1) = (n : Int) := by rw [← hm, wrap64]; omega
      have s2 : (m : Int) - 1 = (n : Int) := by omega
      go_region
      refine world_is (P := fun W => Exit.then _ _ Exit.normal _ W) (fun W3 hW3 => ?_)
      have hP3 : Hid (Blk W3 g 71 #[.slice (some ⟨b, o, none⟩) l.length c, .int .i64 (m : Int), .bool false, c3, c4, c5, c6, c7, c8, c9, c10]) := by unfold Hid; rw [← hW3]; exact ((((hP2.out.other (a := ⟨q, 0, none⟩) hne _).other (a := ⟨q, 1, none⟩) hne _).other (a := ⟨q, 2, none⟩) hne _).other (a := ⟨q, 3, none⟩) hne _).drew
      have hR3 : Blk W3 q 47 #[.int .i64 T.kind, .string T.text, .int .i64 T.n, .int .i64 T.pos] := by rw [← hW3]; exact ((((hR2.out.set_ 0 _).set_ 1 _).set_ 2 _).set_ 3 _).drew
      have hG3 : Hid (w.grownBy W3 (some g)) := by
        unfold Hid
        rw [← hW3]
        have hq9 := hqH.out
        refine grown_drew (grown_setN (grown_setN (grown_setN (grown_setN hG2.out ?_ _ _) ?_ _ _) ?_ _ _) ?_ _ _) <;> omega
      clear hW3
      go_wp2_with fail
      refine bodyPost_ret (results_c (P := Tryd.prog) rfl _ _ q 47 _ _ rfl hR3 Tryd.underlying47 rfl (by kernel_rfl)) rfl ?_
      have e9 := hRH.out.2
      rw [e9]
      exact ⟨rfl, m, false, (by rw [← hm]; exact hRH.out.1), hP3.out, hG3.out⟩
  · have d2 : decide ((l.length : Int) ≤ (n : Int)) = true := decide_eq_true (by omega)
    have d3 : decide (l.length ≤ n) = true := decide_eq_true (by omega)
    have hRH := Lib.hid (HK.out.no (p := p) (fun t ht => by rw [List.getElem?_eq_none (Nat.le_of_not_lt hlt)] at ht; cases ht))
    clear hlt
    go_enter Tryd.func28, Tryd.ntmps28
    go_upto_region 1 with fail
    refine world_is (P := fun W => Code.wp _ _ _ _ W) (fun W0 hW0 => ?_)
    have hB0 : Hid (Below w.heap.size w W0) := by unfold Hid; rw [← hW0]; exact (Below.refl _ _).alloc (Nat.le_refl _) _
    have hR0 : Hid (Blk W0 w.heap.size 47 #[.int .i64 0, .string ⟨#[]⟩, .int .i64 0, .int .i64 0]) := by unfold Hid; rw [← hW0]; exact Blk.new _ _ _
    clear hW0
    have hP0 := Lib.hid (HB.out.below hB0.out hgl)
    have y0 := hP0.out.cell 0
    have y1 := hP0.out.cell 1
    have y2 := hP0.out.cell 2
    obtain ⟨q, hq⟩ : ∃ q, w.heap.size = q := ⟨_, rfl⟩
    rw [hq] at hR0 hne ⊢
    have hqg : q ≠ g := Ne.symm hne
    have hqH := Lib.hid hq
    clear hq
    go_quiet (fail)
    go_upto_region 2 with fail
    refine world_is (P := fun W => Code.wp _ _ _ _ W) (fun W1 hW1 => ?_)
    have hP1 : Hid (Blk W1 g 71 #[.slice A l.length c, .int .i64 n, .bool false, c3, c4, c5, c6, c7, c8, c9, c10]) := by unfold Hid; rw [← hW1]; exact hP0.out
    have hR1 : Hid (Blk W1 q 47 #[.int .i64 0, .string ⟨#[]⟩, .int .i64 0, .int .i64 0]) := by unfold Hid; rw [← hW1]; exact hR0.out
    have hB1 : Hid (Below w.heap.size w W1) := by unfold Hid; rw [← hW1]; exact ⟨hB0.out.os, hB0.out.tape, hB0.out.output, hB0.out.size, hB0.out.block⟩
    clear hW1 hP0 hR0 hB0 y0 y1 y2
    have z2 := hP1.out.cell 2
    have f2 := hP1.out.frozen 2
    go_upto_region 3 with fail
    refine world_is (P := fun W => Code.wp _ _ _ _ W) (fun W2 hW2 => ?_)
    have hP2 : Hid (Blk W2 g 71 #[.slice A l.length c, .int .i64 n, .bool true, c3, c4, c5, c6, c7, c8, c9, c10]) := by unfold Hid; rw [← hW2]; exact hP1.out.set_ 2 _
    have hR2 : Hid (Blk W2 q 47 #[.int .i64 0, .string ⟨#[]⟩, .int .i64 0, .int .i64 0]) := by unfold Hid; rw [← hW2]; exact hR1.out.other (a := ⟨g, 2, none⟩) hqg _
    have hG2 : Hid (w.grownBy W2 (some g)) := by unfold Hid; rw [← hW2]; exact grown_trans (grown_ofBelow hB1.out _) (grown_ofSet _ _ _ _)
    clear hW2 hP1 hR1 z2 f2
    have k0 := hR2.out.cell 0
    have k1 := hR2.out.cell 1
    have k2 := hR2.out.cell 2
    have k3 := hR2.out.cell 3
    have g0 := hR2.out.frozen 0
    have g1 := hR2.out.frozen 1
    have g2 := hR2.out.frozen 2
    have g3 := hR2.out.frozen 3
    go_wp2_with fail
    refine world_is (P := fun W => bodyPost _ _ _ _ _ W) (fun W3 hW3 => ?_)
    have hP3 : Hid (Blk W3 g 71 #[.slice A l.length c, .int .i64 n, .bool true, c3, c4, c5, c6, c7, c8, c9, c10]) := by unfold Hid; rw [← hW3]; exact (((hP2.out.other (a := ⟨q, 0, none⟩) hne _).other (a := ⟨q, 1, none⟩) hne _).other (a := ⟨q, 2, none⟩) hne _).other (a := ⟨q, 3, none⟩) hne _
    have hR3 : Blk W3 q 47 #[.int .i64 0, .string ⟨#[]⟩, .int .i64 0, .int .i64 0] := by rw [← hW3]; exact (((hR2.out.set_ 0 _).set_ 1 _).set_ 2 _).set_ 3 _
    have hG3 : Hid (w.grownBy W3 (some g)) := by
      unfold Hid
      rw [← hW3]
      have hq9 := hqH.out
      refine grown_setN (grown_setN (grown_setN (grown_setN hG2.out ?_ _ _) ?_ _ _) ?_ _ _) ?_ _ _ <;> omega
    clear hW3
    refine bodyPost_ret (results_c (P := Tryd.prog) rfl _ _ q 47 _ _ rfl hR3 Tryd.underlying47 rfl (by kernel_rfl)) rfl ?_
    have e9 := hRH.out.2
    rw [e9]
    exact ⟨rfl, n, true, hRH.out.1, hP3.out, hG3.out⟩
end Go.Proofs.YtemhiiignamkjaaDoor
namespace Go.Proofs.YtemhiiignamkjaaDoor
open Go.RowKit LexP ParP
attribute [local go_sem] Oper.semAt_some

structure RowD where
  el : TypeId
  k : Nat
  v : Value
  n : Nat
  xs : List Value
/-- Rows of the call's own, apart from each other. -/
structure RowsA (w : World) (B : Nat) (L : List RowD) : Prop where
  own : ∀ (i : Nat) (r : RowD), L[i]? = some r → w.ownsRow B r.el r.k r.v r.n r.xs
  apart : ∀ (i j : Nat) (a b : RowD), L[i]? = some a → L[j]? = some b → i ≠ j → ∀ c, a.v.ownBlock = some c → b.v.ownBlock ≠ some c
section
variable {w w' : World} {B g : Nat} {L : List RowD}
theorem RowsA.kept (h : RowsA w B L) {b : Option Nat} (hG : w.grownBy w' b) (hne : ∀ (i : Nat) (r : RowD), L[i]? = some r → r.v.ownBlock = none ∨ r.v.ownBlock ≠ b) : RowsA w' B L :=
  ⟨fun i r hr => (h.own i r hr).kept hG (hne i r hr), h.apart⟩
theorem RowsA.below (h : RowsA w B L) (hb : Below w.heap.size w w') : RowsA w' B L :=
  ⟨fun i r hr => (h.own i r hr).kept (grown_ofBelow hb none) (by cases r.v.ownBlock with | none => exact .inl rfl | some c => exact .inr (fun e => by cases e)), h.apart⟩
theorem RowsA.ne (h : RowsA w B L) {t : TypeId} {cs : Array Value} (hg : Blk w g t cs) (ht : (L.all fun r => r.el != t) = true) : ∀ (i : Nat) (r : RowD), L[i]? = some r → r.v.ownBlock ≠ some g := fun i r hr =>
  own_blk_ne (h.own i r hr) hg (by
    have := List.all_eq_true.1 ht r (List.mem_iff_getElem?.2 ⟨i, hr⟩)
    simpa using this)
theorem RowsA.set (h : RowsA w B L) {t : TypeId} {cs : Array Value} (hg : Blk w g t cs) (ht : (L.all fun r => r.el != t) = true) (hG : w.grownBy w' (some g)) : RowsA w' B L :=
  h.kept hG fun i r hr => .inr (h.ne hg ht i r hr)
theorem RowsA.fresh (h : RowsA w B L) {a : Nat} (ha : w.heap.size ≤ a) : ∀ (i : Nat) (r : RowD), L[i]? = some r → r.v.ownBlock ≠ some a := fun i r hr e =>
  Nat.lt_irrefl _ (Nat.lt_of_lt_of_le ((h.own i r hr).lt a e).2 ha)
theorem RowsA.other (h : RowsA w B L) {a : Nat} (ha : ∀ (i : Nat) (r : RowD), L[i]? = some r → r.v.ownBlock ≠ some a) (hG : w.grownBy w' (some a)) : RowsA w' B L :=
  h.kept hG fun i r hr => .inr (ha i r hr)
theorem RowsA.push (h : RowsA w B L) {i : Nat} {r : RowD} {v' : Value} {n' : Nat} {xs' : List Value} (hi : L[i]? = some r) (hrow : w'.ownsRow B r.el r.k v' n' xs') (hG : w.grownBy w' r.v.ownBlock) (hO : v'.ownBlock = r.v.ownBlock ∨ v'.ownBlock = some w.heap.size) :
    RowsA w' B (L.set i ⟨r.el, r.k, v', n', xs'⟩) := by
  have hil := (List.getElem?_eq_some_iff.1 hi).1
  have hne : ∀ (j : Nat) (b : RowD), L[j]? = some b → j ≠ i → b.v.ownBlock = none ∨ b.v.ownBlock ≠ r.v.ownBlock := fun j b hj hji => by
    cases e : b.v.ownBlock with
    | none => exact .inl rfl
    | some c => exact .inr (fun e2 => h.apart i j r b hi hj (Ne.symm hji) c e2.symm e)
  have hnew : ∀ (j : Nat) (b : RowD), L[j]? = some b → j ≠ i → ∀ c, v'.ownBlock = some c → b.v.ownBlock ≠ some c := fun j b hj hji c hc e => by
    rcases hO with hO | hO
    · exact h.apart i j r b hi hj (Ne.symm hji) c (hO ▸ hc) e
    · rw [hO] at hc
      cases hc
      exact Nat.lt_irrefl _ ((h.own j b hj).lt _ e).2
  refine ⟨fun j b hj => ?_, fun j1 j2 a b h1 h2 hjj c hc e => ?_⟩
  · rw [List.getElem?_set] at hj
    by_cases hij : i = j
    · rw [if_pos hij, if_pos hil] at hj
      cases hj
      exact hrow
    · rw [if_neg hij] at hj
      exact (h.own j b hj).kept hG (hne j b hj (Ne.symm hij))
  · rw [List.getElem?_set] at h1 h2
    by_cases e1 : i = j1
    · rw [if_pos e1, if_pos hil] at h1
      cases h1
      have e2 : ¬ i = j2 := fun e2 => hjj (e1.symm.trans e2)
      rw [if_neg e2] at h2
      exact hnew j2 b h2 (Ne.symm e2) c hc e
    · rw [if_neg e1] at h1
      by_cases e2 : i = j2
      · rw [if_pos e2, if_pos hil] at h2
        cases h2
        exact hnew j1 a h1 (Ne.symm e1) c e hc
      · rw [if_neg e2] at h2
        exact h.apart j1 j2 a b h1 h2 hjj c hc e
theorem RowsA.cast {L2 : List RowD} (h : RowsA w B L) (e : L = L2) : RowsA w B L2 := e ▸ h
theorem RowsA.slice (h : RowsA w B L) {i : Nat} {r : RowD} (hi : L[i]? = some r) : ∃ A c, r.v = .slice A r.n c := own_slice (h.own i r hi)
end
section
variable {w : World}
theorem wp_gcat_own {o : Oper} {a : Act} {K : Act → World → Prop} {Q : Exit → Act → World → Prop} (t el : TypeId) (z : Value) (k by' : Nat) (ht : Tryd.prog.underlying t = some (.slice el)) (hinfo : (Tryd.prog.info? el).map (fun i => (i.zero, i.size, i.bytes)) = some (some z, k, by')) (hzs : z.cells.size = k) (hk : 0 < k) (hby : by' ≤ 10000)
    (d s : Operand) (ho : o.op = .call { callee := .builtin .append, args := #[d, s], argTypes := #[t, t] }) (base : Nat) (v : Value) (n : Nat) (xs : List Value) (hd : a.eval d = v) (hrow : w.ownsRow base el k v n xs)
    (g m c : Nat) (news : List Value) (hs : a.eval s = .slice (some ⟨g, 0, none⟩) m c) (hl : news.length = m * k) (hnews : Blk w g el news.toArray) (h1 : ∀ u ∈ news, u.oneCell' = true) (hlen : n + m ≤ 1000000) (hb : base ≤ w.heap.size)
    (h : ∀ v' w', w'.ownsRow base el k v' (n + m) (xs ++ news) → w.grownBy w' v.ownBlock → (v'.ownBlock = v.ownBlock ∨ v'.ownBlock = some w.heap.size) → K (a.put o.dst v') w') : o.wp Tryd.prog a w K Q := by
  obtain ⟨i0, hi, hz0, hz1, hz2⟩ := info_parts hinfo
  have hmul : (n + m) * by' ≤ 1000000 * 10000 := Nat.mul_le_mul hlen hby
  obtain ⟨v', w', hr, h2, h3, _, h5⟩ := run_append_own_at (P := Tryd.prog) w base t o.type el i0 z k by' ht hi hz0 hz1 hz2 hzs hk v n xs hrow ⟨g, 0, none⟩ m c news hl (news_cells hnews) h1 (by unfold maxLen; omega) (by omega) hb
  unfold Oper.wp execOp
  simp only [ho, resolve, invoke, builtin, Sem.run_bind, Sem.run_pure, Result.andThen_ok, List.map_toArray, List.map_cons, List.map_nil, hd, hs, hr]
  exact h v' w' h2 h3 h5
theorem wpList_gcat_own {ops : Array Oper} {rest : List Oper} {o : Oper} {a : Act} {Q : Exit → Act → World → Prop} (t el : TypeId) (z : Value) (k by' : Nat) (ht : Tryd.prog.underlying t = some (.slice el)) (hinfo : (Tryd.prog.info? el).map (fun i => (i.zero, i.size, i.bytes)) = some (some z, k, by')) (hzs : z.cells.size = k) (hk : 0 < k) (hby : by' ≤ 10000)
    (hgd : o.guard = none) (d s : Operand) (ho : o.op = .call { callee := .builtin .append, args := #[d, s], argTypes := #[t, t] }) (base : Nat) (v : Value) (n : Nat) (xs : List Value) (hd : a.eval d = v) (hrow : w.ownsRow base el k v n xs)
    (g m c : Nat) (news : List Value) (hs : a.eval s = .slice (some ⟨g, 0, none⟩) m c) (hl : news.length = m * k) (hnews : Blk w g el news.toArray) (h1 : ∀ u ∈ news, u.oneCell' = true) (hlen : n + m ≤ 1000000) (hb : base ≤ w.heap.size)
    (h : ∀ v' w', w'.ownsRow base el k v' (n + m) (xs ++ news) → w.grownBy w' v.ownBlock → (v'.ownBlock = v.ownBlock ∨ v'.ownBlock = some w.heap.size) → wpList Tryd.prog ops Q rest (a.put o.dst v') w') : wpList Tryd.prog ops Q (o :: rest) a w :=
  wpList_plain hgd fun _ hK => wp_gcat_own t el z k by' ht hinfo hzs hk hby d s ho base v n xs hd hrow g m c news hs hl hnews h1 hlen hb fun v' w' h2 h3 h4 => hK _ _ (h v' w' h2 h3 h4)
end
/-- What an append to one of the rows leaves. -/
structure PushA (w0 w' : World) (B : Nat) (L : List RowD) (i : Nat) (r : RowD) (v' : Value) (news : List Value) : Prop where
  rows : RowsA w' B (L.set i ⟨r.el, r.k, v', r.n + 1, r.xs ++ news⟩)
  blk : ∀ (g : Nat) (t : TypeId) (cs : Array Value), Blk w0 g t cs → r.v.ownBlock ≠ some g → Blk w' g t cs
  bel : ∀ wA, Below B wA w0 → Below B wA w'
theorem wpList_rpush {ops : Array Oper} {rest : List Oper} {o : Oper} {a : Act} {Q : Exit → Act → World → Prop} {w0 w1 : World} {B : Nat} {L : List RowD} (hR : RowsA w0 B L) {i : Nat} {r : RowD} (hi : L[i]? = some r)
    (t : TypeId) (z : Value) (by' : Nat) (ht : Tryd.prog.underlying t = some (.slice r.el)) (hinfo : (Tryd.prog.info? r.el).map (fun i => (i.zero, i.size, i.bytes)) = some (some z, r.k, by')) (hzs : z.cells.size = r.k) (hk : 0 < r.k) (hby : by' ≤ 10000)
    (hgd : o.guard = none) (d s : Operand) (ho : o.op = .call { callee := .builtin .append, args := #[d, s], argTypes := #[t, t] }) (hd : a.eval d = r.v)
    (c : Nat) (news : Array Value) (hs : a.eval s = .slice (some ⟨w0.heap.size, 0, none⟩) 1 c) (hl : news.size = 1 * r.k) (h1 : ∀ u ∈ news.toList, u.oneCell' = true) (hlen : r.n + 1 ≤ 1000000) (hb : B ≤ w0.heap.size) (hw1 : w1 = w0.alloc (.cells news r.el))
    (h : ∀ v' w', PushA w0 w' B L i r v' news.toList → wpList Tryd.prog ops Q rest (a.put o.dst v') w') : wpList Tryd.prog ops Q (o :: rest) a w1 := by
  subst hw1
  have hB6 : Below w0.heap.size w0 (w0.alloc (.cells news r.el)) := (Below.refl _ _).alloc (Nat.le_refl _) _
  have hR2 := hR.below hB6
  have hb2 : B ≤ (w0.alloc (.cells news r.el)).heap.size := by rw [World.size_alloc]; exact Nat.le_succ_of_le hb
  refine wpList_gcat_own t r.el z r.k by' ht hinfo hzs hk hby hgd d s ho B r.v r.n r.xs hd (hR2.own i r hi) w0.heap.size 1 c news.toList hs (by rw [Array.length_toList]; exact hl) (Blk.new _ _ _) h1 hlen hb2 ?_
  intro v' w' hrow hG hO
  exact h v' w' ⟨hR2.push hi hrow hG hO, fun g t cs hg hne => (hg.below hB6 hg.lt).grown hG (Ne.symm hne), fun wA hA => (hA.alloc hb _).grown hG hb2 (fun j e => ((hR2.own i r hi).lt j e).1)⟩
/-- Halt the walk ahead of an append. -/
theorem wpList_halt {ops : Array Oper} {rest : List Oper} {o : Oper} {a : Act} {Q : Exit → Act → World → Prop} {w0 : World} (ho : ∃ d s t, o.op = .call { callee := .builtin .append, args := #[d, s], argTypes := #[t, t] })
    (h : Hid (wpList Tryd.prog ops Q (o :: rest) a w0)) : wpList Tryd.prog ops Q (o :: rest) a w0 := by
  obtain ⟨_, _, _, _⟩ := ho
  exact h
def posC (l : List Tok) : List Value := l.map fun t => .int .i64 t.pos
def menC (l : List Tok) : List Value := l.flatMap fun t => [.string t.text, .int .i64 t.pos]
def kinC (l : List Nat) : List Value := l.map fun (k : Nat) => .int .i64 (k : Int)
/-- The reader's rows: the types, rules and quorums, the types' places, the rules' names and kinds. -/
def rdRows (vt vr vq va vf vs vk : Value) (T : List PTyp) (R : List Rul) (Q : List PQuo) (P F S : List Tok) (K : List Nat) : List RowD :=
  [⟨51, 3, vt, T.length, typsC T⟩, ⟨53, 3, vr, R.length, rulC R⟩, ⟨55, 5, vq, Q.length, quosC Q⟩, ⟨3, 1, va, P.length, posC P⟩,
   ⟨80, 2, vf, F.length, menC F⟩, ⟨80, 2, vs, S.length, menC S⟩, ⟨3, 1, vk, K.length, kinC K⟩]
/-- What was read lies in the reader's rows. -/
def RdIs (w : World) (B g n : Nat) (bad : Bool) (tv nm : Value) (st : St) : Prop :=
  ∃ vt vr vq va vf vs vk, Blk w g 71 #[tv, .int .i64 n, .bool bad, nm, vt, vr, vq, va, vf, vs, vk] ∧ RowsA w B (rdRows vt vr vq va vf vs vk st.typs [] st.quos (st.typs.map PTyp.name) (st.ruls.map PRul.a) (st.ruls.map PRul.b) (st.ruls.map PRul.kind))
/-- What the reading of an item leaves. -/
def RdPost (w : World) (B g : Nat) (tv nm : Value) (l : List Tok) (r : Rd St) (e : Ending) (w' : World) : Prop :=
  Below B w w' ∧ e = .returned (.tuple #[]) ∧ ∃ n, n ≤ l.length ∧ match r with
  | .ok rest st => rest = l.drop n ∧ RdIs w' B g n false tv nm st
  | .bad rest => rest = l.drop n ∧ ∃ c3 c4 c5 c6 c7 c8 c9 c10, Blk w' g 71 #[tv, .int .i64 n, .bool true, c3, c4, c5, c6, c7, c8, c9, c10]
theorem rdPost_sk {w w' : World} {B g n : Nat} {bad : Bool} {tv nm : Value} {l : List Tok} {r : Rd St} (hB : Below B w w') (hk : Sk l n bad r)
    (hb : bad = true → ∃ c3 c4 c5 c6 c7 c8 c9 c10, Blk w' g 71 #[tv, .int .i64 n, .bool true, c3, c4, c5, c6, c7, c8, c9, c10])
    (ho : ∀ st, bad = false → r = .ok (l.drop n) st → RdIs w' B g n false tv nm st) : RdPost w B g tv nm l r (.returned (.tuple #[])) w' := by
  refine ⟨hB, rfl, n, hk.1, ?_⟩
  cases bad with
  | true =>
    rw [hk.isBad]
    exact ⟨rfl, hb rfl⟩
  | false =>
    obtain ⟨st, hst⟩ := hk.isOk
    rw [hst]
    exact ⟨rfl, ho st rfl hst⟩
theorem typsC_more (l : List PTyp) (t : PTyp) : typsC (l ++ [t]) = typsC l ++ [.string t.name.text, .int .i64 t.flags, .int .i64 t.life] := typsC_snoc l t
theorem menC_snoc (l : List Tok) (t : Tok) : menC (l ++ [t]) = menC l ++ [.string t.text, .int .i64 t.pos] := by simp [menC]
theorem posC_snoc (l : List Tok) (t : Tok) : posC (l ++ [t]) = posC l ++ [.int .i64 t.pos] := by simp [posC]
theorem kinC_snoc (l : List Nat) (k : Nat) : kinC (l ++ [k]) = kinC l ++ [.int .i64 k] := by simp [kinC]
end Go.Proofs.YtemhiiignamkjaaDoor
