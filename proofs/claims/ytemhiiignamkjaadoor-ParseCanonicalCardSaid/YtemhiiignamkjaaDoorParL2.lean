/-
  Layer 12 (parse): the walk of the statement that a printed policy that was read is read and printed again.
-/
import Derived.Test.YtemhiiignamkjaaDoorParL1
import Derived.Test.YtemhiiignamkjaaDoorParQ7
namespace Go.Proofs.YtemhiiignamkjaaDoor
open Go.RowKit LexP ParP
attribute [local go_sem] Oper.semAt_some

/-- A call of Parse, its policy under letters. -/
theorem Parse_box (s : ByteArray) (w W : World) (hs : s.size ≤ maxLen) (hW : Tabs w) (hB : Below w.heap.size w W) (o : Out) (ho : parse s = o) : Calls Tryd.prog 10 #[.string s] W fun e w' =>
    ∃ nm At T ct Ar R cr Aq Q cq, e = .returned (.tuple #[.agg #[.string nm, .slice At T ct, .slice Ar R cr, .slice Aq Q cq], .int .i64 o.pos, .int .i64 o.err]) ∧
      PolAt w' w'.heap.size (.agg #[.string nm, .slice At T ct, .slice Ar R cr, .slice Aq Q cq]) o.pol ∧ Below W.heap.size W w' := by
  refine (Parse_at s W hs (hW.below hB) o ho).mono ?_
  rintro e w' ⟨At, ct, Ar, cr, Aq, cq, rfl, h1, h2⟩
  exact ⟨_, _, _, _, _, _, _, _, _, _, rfl, h1, h2⟩
theorem printP_lim {p : Pol} (h : printableB p = true) (h2 : (printP p).2 ≠ 0) : (printP p).1 = ⟨#[]⟩ ∧ (printP p).2 = 2 := by
  unfold printP at h2 ⊢
  rw [if_pos h] at h2 ⊢
  split
  · exact ⟨rfl, rfl⟩
  · next c => rw [if_neg c] at h2; exact absurd rfl h2
set_option maxRecDepth 100000 in
set_option maxHeartbeats 12800000 in
theorem law_canon (s : ByteArray) (w : World) (hs : s.size ≤ maxLen) (hW : Tabs w) (hpow : PowAt w) :
    Calls Tryd.prog 6 #[.string s] w fun e w' => e = .returned (.bool true) ∧ Below w.heap.size w w' := by
  have HW := Lib.hid hW
  have HP := Lib.hid hpow
  have HS := Lib.hid (fun W (h : Below w.heap.size w W) => sanity_any W (hW.below h) (hpow.below h))
  have hsH := Lib.hid hs
  by_cases hbig : 4000 < s.size
  · have d1 : decide (4000 < s.size) = true := decide_eq_true hbig
    have d2 : decide ((4000 : Int) < (s.size : Int)) = true := decide_eq_true (by omega)
    clear hs hW hpow hbig
    go_enter Tryd.func6, Tryd.ntmps6
    go_wp2_with fail
    refine (HS.out w (Below.refl _ _)).mono ?_
    rintro e w1 ⟨rfl, hB1⟩
    have B1 := Lib.hid hB1
    clear hB1
    go_wp2_with fail
    go_ret
    exact ⟨rfl, B1.out⟩
  · have d1 : decide (4000 < s.size) = false := decide_eq_false hbig
    have d2 : decide ((4000 : Int) < (s.size : Int)) = false := decide_eq_false (by omega)
    obtain ⟨o, ho⟩ : ∃ o, parse s = o := ⟨_, rfl⟩
    have HPA := Lib.hid (fun W (h : Below w.heap.size w W) => Parse_box s w W hs hW h o ho)
    have hok : Hid (o.err = 0 → printableB o.pol = true ∧ PolOk o.pol) := fun h => by
      rw [← ho] at h ⊢
      exact parsed_ok h
    clear hs hW hpow hbig ho
    obtain ⟨p, ps, er⟩ := o
    dsimp only at hok
    go_enter Tryd.func6, Tryd.ntmps6
    go_wp2_with fail
    refine (HPA.out w (Below.refl _ _)).mono ?_
    rintro e w1 ⟨nm, At, T, ct, Ar, R, cr, Aq, Q, cq, rfl, hp1, hB1⟩
    have P1 := Lib.hid hp1
    have B1 := Lib.hid hB1
    clear hp1 hB1 HPA
    go_upto_region 4 with fail
    refine world_is (P := fun W => Code.wp _ _ _ _ W) (fun W2 hW2 => ?_)
    have X2 : Hid (BoxAt w W2 w1.heap.size p nm At T ct Ar R cr Aq Q cq) := by
      have hB : Below w1.heap.size w1 W2 := by rw [← hW2]; exact (Below.refl _ _).alloc (Nat.le_refl _) _
      exact ⟨B1.out.trans (hB.mono B1.out.size), by rw [← hW2]; exact Blk.new _ _ _, (P1.out.below hB).mono hB.size⟩
    obtain ⟨g, hg⟩ : ∃ g, w1.heap.size = g := ⟨_, rfl⟩
    rw [hg] at X2 ⊢
    clear hW2 hg P1 B1
    by_cases he : er = 0
    · subst he
      obtain ⟨hpr, hOK⟩ := hok.out rfl
      have hOK := Lib.hid hOK
      have c0 := X2.out.box.cell 0
      have c1 := X2.out.box.cell 1
      have c2 := X2.out.box.cell 2
      have c3 := X2.out.box.cell 3
      have hprH := Lib.hid hpr
      clear hpr hok
      go_wp2_with fail
      refine (Print_any p _ W2 X2.out.pol hOK.out (HW.out.below X2.out.bel) (HP.out.below X2.out.bel)).mono ?_
      rintro e w3 ⟨rfl, hB3⟩
      have X3 := Lib.hid (X2.out.below hB3)
      clear hB3 X2 c0 c1 c2 c3
      by_cases he : (printP p).2 = 0
      · obtain ⟨h1, h2, h3⟩ := printP_ok he
        obtain ⟨J, hJ⟩ : ∃ J, (printP p).1 = J := ⟨_, rfl⟩
        have hJl : J.data.toList = printL p := by rw [← hJ, h3]
        have hJs : J.size ≤ 4000 := by rw [← blen, hJl]; exact h2
        obtain ⟨r1, r2⟩ := round_trip hOK.out h1 hJl hJs
        have ha : parse J = ⟨p, (parse J).pos, 0⟩ := out_is r1 r2
        obtain ⟨a, hax⟩ : ∃ a, (parse J).pos = a := ⟨_, rfl⟩
        rw [hax] at ha
        have HPA := Lib.hid (fun W (h : Below w.heap.size w W) => Parse_box J w W (by unfold maxLen; omega) HW.out h _ ha)
        have hPP : printP p = (J, 0) := Prod.ext hJ he
        have hPPH := Lib.hid hPP
        rw [hPP]
        clear h1 h2 h3 hJ hJl hJs r1 r2 ha hax he hPP
        go_wp2_with fail
        refine (HPA.out w3 X3.out.bel).mono ?_
        rintro e w4 ⟨nm2, At2, T2, ct2, Ar2, R2, cr2, Aq2, Q2, cq2, rfl, hp4, hB4⟩
        have X4 := Lib.hid (X3.out.below hB4)
        have P4 := Lib.hid hp4
        clear hB4 hp4 X3 HPA
        go_upto_region 10 with fail
        refine world_is (P := fun W => Code.wp _ _ _ _ W) (fun W5 hW5 => ?_)
        have hB5 : Below w4.heap.size w4 W5 := by rw [← hW5]; exact (Below.refl _ _).alloc (Nat.le_refl _) _
        have X5 := Lib.hid (X4.out.below hB5)
        have Y5 : Hid (BoxAt w W5 w4.heap.size p nm2 At2 T2 ct2 Ar2 R2 cr2 Aq2 Q2 cq2) := ⟨X5.out.bel, by rw [← hW5]; exact Blk.new _ _ _, (P4.out.below hB5).mono hB5.size⟩
        obtain ⟨k, hk⟩ : ∃ k, w4.heap.size = k := ⟨_, rfl⟩
        rw [hk] at Y5 ⊢
        clear hW5 hB5 X4 P4 hk
        have e0 := Y5.out.box.cell 0
        have e1 := Y5.out.box.cell 1
        have e2 := Y5.out.box.cell 2
        have e3 := Y5.out.box.cell 3
        go_wp2_with fail
        refine (Print_any p _ W5 Y5.out.pol hOK.out (HW.out.below Y5.out.bel) (HP.out.below Y5.out.bel)).mono ?_
        rintro e w6 ⟨rfl, hB6⟩
        rw [hPPH.out]
        have X6 := Lib.hid (X5.out.below hB6)
        have Y6 := Lib.hid (Y5.out.below hB6)
        clear hB6 X5 Y5 e0 e1 e2 e3
        go_wp2_with fail
        refine (HS.out w6 X6.out.bel).mono ?_
        rintro e w7 ⟨rfl, hB7⟩
        have X7 := Lib.hid (X6.out.below hB7)
        have Y7 := Lib.hid (Y6.out.below hB7)
        clear hB7 X6 Y6
        have c0 := X7.out.box.cell 0
        have c1 := X7.out.box.cell 1
        have c2 := X7.out.box.cell 2
        have c3 := X7.out.box.cell 3
        have e0 := Y7.out.box.cell 0
        have e1 := Y7.out.box.cell 1
        have e2 := Y7.out.box.cell 2
        have e3 := Y7.out.box.cell 3
        have HSM := Lib.hid (same_any p _ _ w7 X7.out.pol Y7.out.pol hOK.out)
        go_wp2_with fail
        refine HSM.out.mono ?_
        rintro e w8 ⟨rfl, hB8⟩
        have X8 := Lib.hid (X7.out.below hB8)
        clear hB8
        go_wp2_with fail
        go_ret
        exact ⟨rfl, X8.out.bel⟩
      · obtain ⟨h1, h2⟩ := printP_lim hprH.out he
        rw [h1, h2]
        clear h1 h2 he
        go_wp2_with fail
        refine (HS.out w3 X3.out.bel).mono ?_
        rintro e w4 ⟨rfl, hB4⟩
        have X4 := Lib.hid (X3.out.below hB4)
        clear hB4 X3
        go_wp2_with fail
        go_ret
        exact ⟨rfl, X4.out.bel⟩
    · have t0 : (er != 0) = true := by rw [bne_iff_ne]; exact he
      clear hok he
      go_wp2_with fail
      refine (HS.out W2 X2.out.bel).mono ?_
      rintro e w3 ⟨rfl, hB3⟩
      have X3 := Lib.hid (X2.out.below hB3)
      clear hB3 X2
      go_wp2_with fail
      go_ret
      exact ⟨rfl, X3.out.bel⟩
end Go.Proofs.YtemhiiignamkjaaDoor
