/-
  Layer 12 (parse): the sanity example that every statement plays first.
-/
import Derived.Test.YtemhiiignamkjaaDoorParX6
import Derived.Test.YtemhiiignamkjaaDoorParS1
import Derived.Test.YtemhiiignamkjaaDoorParP6
namespace Go.Proofs.YtemhiiignamkjaaDoor
open Go.RowKit LexP ParP
attribute [local go_sem] Oper.semAt_some

/-- A call of Parse: the policy wherever it lies. -/
theorem Parse_at (s : ByteArray) (w : World) (hs : s.size ≤ maxLen) (hW : Tabs w) (o : Out) (ho : parse s = o) : Calls Tryd.prog 10 #[.string s] w fun e w' =>
    ∃ At ct Ar cr Aq cq, e = .returned (.tuple #[.agg #[.string o.pol.name, .slice At o.pol.typs.length ct, .slice Ar o.pol.ruls.length cr, .slice Aq o.pol.quos.length cq], .int .i64 o.pos, .int .i64 o.err]) ∧
      PolAt w' w'.heap.size (.agg #[.string o.pol.name, .slice At o.pol.typs.length ct, .slice Ar o.pol.ruls.length cr, .slice Aq o.pol.quos.length cq]) o.pol ∧ Below w.heap.size w w' := by
  refine (Parse_any s w hs hW).mono ?_
  rintro e w' ⟨v, rfl, hp, hB⟩
  rw [ho] at hp ⊢
  have h := polAt_own hp
  obtain ⟨vt, vr, vq, rfl, h1, h2, h3⟩ := hp
  obtain ⟨At, ct, rfl⟩ := own_slice h1
  obtain ⟨Ar, cr, rfl⟩ := own_slice h2
  obtain ⟨Aq, cq, rfl⟩ := own_slice h3
  exact ⟨At, ct, Ar, cr, Aq, cq, rfl, h, hB⟩
theorem rowAt_blk {w : World} {b : Nat} {t : TypeId} {cs : List Value} (h : Blk w b t cs.toArray) (n c : Nat) : RowAt w w.heap.size (.slice (some ⟨b, 0, none⟩) n c) n cs :=
  ⟨some ⟨b, 0, none⟩, c, rfl, fun _ => ⟨b, 0, rfl, h.lt, fun j x hx => by rw [Nat.zero_add, h.cell j]; simpa using hx⟩⟩
set_option maxRecDepth 100000 in
set_option maxHeartbeats 12800000 in
theorem sanity_any (w : World) (hW : Tabs w) (hpow : PowAt w) : Calls Tryd.prog 9 #[] w fun e w' => e = .returned (.bool true) ∧ Below w.heap.size w w' := by
  have HW := Lib.hid hW
  have HP := Lib.hid hpow
  have H0 := Lib.hid (fun W (h : Below w.heap.size w W) => Parse_at sn0 W (by unfold maxLen; decide) (HW.out.below h) _ parse_sn0)
  have H1 := Lib.hid (fun W (h : Below w.heap.size w W) => Parse_at sn1 W (by unfold maxLen; decide) (HW.out.below h) _ parse_sn1)
  have H2 := Lib.hid (fun W (h : Below w.heap.size w W) => Parse_at sn2 W (by unfold maxLen; decide) (HW.out.below h) _ parse_sn2)
  have H3 := Lib.hid (fun W (h : Below w.heap.size w W) => Parse_at sn3 W (by unfold maxLen; decide) (HW.out.below h) _ parse_sn3)
  clear hW hpow
  go_enter Tryd.func9, Tryd.ntmps9
  go_wp2_with fail
  refine (H0.out w (Below.refl _ _)).mono ?_
  rintro e w1 ⟨At, ct, Ar, cr, Aq, cq, rfl, hp1, hB1⟩
  have P1 := Lib.hid hp1
  have B1 := Lib.hid hB1
  clear hp1 hB1 H0
  go_upto_region 2 with fail
  refine world_is (P := fun W => Code.wp _ _ _ _ W) (fun W1 hW1 => ?_)
  have B2 : Hid (Below w.heap.size w W1) := by unfold Hid; rw [← hW1]; exact B1.out.alloc B1.out.size _
  have X2 : Hid (Blk W1 w1.heap.size 27 #[.string polWant.name, .slice At 1 ct, .slice Ar 1 cr, .slice Aq 1 cq]) := by unfold Hid; rw [← hW1]; exact Blk.new _ _ _
  have P2 : Hid (PolAt W1 W1.heap.size (.agg #[.string polWant.name, .slice At 1 ct, .slice Ar 1 cr, .slice Aq 1 cq]) polWant) := by
    have hB : Below w1.heap.size w1 W1 := by rw [← hW1]; exact (Below.refl _ _).alloc (Nat.le_refl _) _
    exact (P1.out.below hB).mono hB.size
  obtain ⟨g, hg⟩ : ∃ g, w1.heap.size = g := ⟨_, rfl⟩
  rw [hg] at X2 ⊢
  clear hW1 hg P1 B1
  go_wp2_with fail
  refine (H1.out W1 B2.out).mono ?_
  rintro e w3 ⟨At1, ct1, Ar1, cr1, Aq1, cq1, rfl, _, hB3⟩
  have B3 : Hid (Below w.heap.size w w3) := B2.out.trans (hB3.mono B2.out.size)
  have X3 := Lib.hid (X2.out.below hB3 X2.out.lt)
  have P3 := Lib.hid ((P2.out.below hB3).mono hB3.size)
  clear hB3 B2 X2 P2 H1
  go_upto_region 3 with fail
  refine world_is (P := fun W => Code.wp _ _ _ _ W) (fun W3 hW3 => ?_)
  have hB4 : Below w3.heap.size w3 W3 := by rw [← hW3]; exact (Below.refl _ _).alloc (Nat.le_refl _) _
  have B4 : Hid (Below w.heap.size w W3) := B3.out.trans (hB4.mono B3.out.size)
  have X4 := Lib.hid (X3.out.below hB4 X3.out.lt)
  have P4 := Lib.hid ((P3.out.below hB4).mono hB4.size)
  clear hB4 hW3 B3 X3 P3
  go_wp2_with fail
  refine (H2.out W3 B4.out).mono ?_
  rintro e w5 ⟨At2, ct2, Ar2, cr2, Aq2, cq2, rfl, _, hB5⟩
  have B5 : Hid (Below w.heap.size w w5) := B4.out.trans (hB5.mono B4.out.size)
  have X5 := Lib.hid (X4.out.below hB5 X4.out.lt)
  have P5 := Lib.hid ((P4.out.below hB5).mono hB5.size)
  clear hB5 B4 X4 P4 H2
  go_upto_region 4 with fail
  refine world_is (P := fun W => Code.wp _ _ _ _ W) (fun W5 hW5 => ?_)
  have hB6 : Below w5.heap.size w5 W5 := by rw [← hW5]; exact (Below.refl _ _).alloc (Nat.le_refl _) _
  have B6 : Hid (Below w.heap.size w W5) := B5.out.trans (hB6.mono B5.out.size)
  have X6 := Lib.hid (X5.out.below hB6 X5.out.lt)
  have P6 := Lib.hid ((P5.out.below hB6).mono hB6.size)
  clear hB6 hW5 B5 X5 P5
  go_wp2_with fail
  refine (H3.out W5 B6.out).mono ?_
  rintro e w7 ⟨At3, ct3, Ar3, cr3, Aq3, cq3, rfl, _, hB7⟩
  have B7 : Hid (Below w.heap.size w w7) := B6.out.trans (hB7.mono B6.out.size)
  have X7 := Lib.hid (X6.out.below hB7 X6.out.lt)
  have P7 := Lib.hid ((P6.out.below hB7).mono hB7.size)
  clear hB7 B6 X6 P6 H3
  go_upto_region 5 with fail
  refine world_is (P := fun W => Code.wp _ _ _ _ W) (fun W7 hW7 => ?_)
  have hB8 : Below w7.heap.size w7 W7 := by rw [← hW7]; exact (Below.refl _ _).alloc (Nat.le_refl _) _
  have B8 : Hid (Below w.heap.size w W7) := B7.out.trans (hB8.mono B7.out.size)
  have X8 := Lib.hid (X7.out.below hB8 X7.out.lt)
  have P8 := Lib.hid ((P7.out.below hB8).mono hB8.size)
  clear hB8 hW7 B7 X7 P7
  go_upto_region 6 with fail
  refine world_is (P := fun W => Code.wp _ _ _ _ W) (fun W8 hW8 => ?_)
  obtain ⟨a, ha⟩ : ∃ a, W7.heap.size = a := ⟨_, rfl⟩
  have hB9 : Below W7.heap.size W7 W8 := by
    rw [← hW8]
    exact ((((Below.refl _ _).alloc (Nat.le_refl _) _).alloc (by rw [World.size_alloc]; omega) _).alloc (by rw [World.size_alloc, World.size_alloc]; omega) _).alloc (by rw [World.size_alloc, World.size_alloc, World.size_alloc]; omega) _
  have R1 : Hid (Blk W8 a 51 (typC polWant.typs).toArray) := by unfold Hid; rw [← hW8, ← ha]; exact (((Blk.new _ _ _).alloc _).alloc _).alloc _
  have R2 : Hid (Blk W8 (a + 1) 53 (rulC polWant.ruls).toArray) := by
    unfold Hid
    rw [← hW8, ← ha]
    have h := (Blk.new (W7.alloc (.cells #[.string ⟨#[97]⟩, .int .i64 4, .int .i64 120] 51)) 53 #[.int .i64 1, .int .i64 0, .int .i64 0])
    rw [World.size_alloc] at h
    exact (h.alloc _).alloc _
  have R3 : Hid (Blk W8 (a + 1 + 1) 55 (quoC polWant.quos).toArray) := by
    unfold Hid
    rw [← hW8, ← ha]
    have h := (Blk.new ((W7.alloc (.cells #[.string ⟨#[97]⟩, .int .i64 4, .int .i64 120] 51)).alloc (.cells #[.int .i64 1, .int .i64 0, .int .i64 0] 53)) 55 #[.int .i64 3, .int .i64 2, .int .i64 0, .int .i64 3600, .int .i64 1])
    rw [World.size_alloc, World.size_alloc] at h
    exact h.alloc _
  have X9 : Hid (Blk W8 (a + 1 + 1 + 1) 27 #[.string ⟨#[112]⟩, .slice (some ⟨a, 0, none⟩) 1 1, .slice (some ⟨a + 1, 0, none⟩) 1 1, .slice (some ⟨a + 1 + 1, 0, none⟩) 1 1]) := by
    unfold Hid
    rw [← hW8, ← ha]
    have h := (Blk.new (((W7.alloc (.cells #[.string ⟨#[97]⟩, .int .i64 4, .int .i64 120] 51)).alloc (.cells #[.int .i64 1, .int .i64 0, .int .i64 0] 53)).alloc (.cells #[.int .i64 3, .int .i64 2, .int .i64 0, .int .i64 3600, .int .i64 1] 55)) 27 #[.string ⟨#[112]⟩, .slice (some ⟨W7.heap.size, 0, none⟩) 1 1, .slice (some ⟨W7.heap.size + 1, 0, none⟩) 1 1, .slice (some ⟨W7.heap.size + 1 + 1, 0, none⟩) 1 1])
    rw [World.size_alloc, World.size_alloc, World.size_alloc] at h
    exact h
  have B9 : Hid (Below w.heap.size w W8) := B8.out.trans (hB9.mono B8.out.size)
  have X10 := Lib.hid (X8.out.below hB9 X8.out.lt)
  have P9 := Lib.hid ((P8.out.below hB9).mono hB9.size)
  have PW : Hid (PolAt W8 W8.heap.size (.agg #[.string ⟨#[112]⟩, .slice (some ⟨a, 0, none⟩) 1 1, .slice (some ⟨a + 1, 0, none⟩) 1 1, .slice (some ⟨a + 1 + 1, 0, none⟩) 1 1]) polWant) :=
    ⟨_, _, _, rfl, rowAt_blk R1.out 1 1, rowAt_blk R2.out 1 1, rowAt_blk R3.out 1 1⟩
  rw [ha]
  obtain ⟨b, hb⟩ : ∃ b, a + 1 + 1 + 1 = b := ⟨_, rfl⟩
  rw [hb] at X9 ⊢
  have x0 := X9.out.cell 0
  have x1 := X9.out.cell 1
  have x2 := X9.out.cell 2
  have x3 := X9.out.cell 3
  clear hB9 hW8 B8 X8 P8 R1 R2 R3 ha hb
  go_wp2_with fail
  refine (Print_any polWant _ W8 PW.out polOk_want (HW.out.below B9.out) (HP.out.below B9.out)).mono ?_
  rintro e w9 ⟨rfl, hB10⟩
  rw [print_want]
  have B10 : Hid (Below w.heap.size w w9) := B9.out.trans (hB10.mono B9.out.size)
  have X11 := Lib.hid (X10.out.below hB10 X10.out.lt)
  have X12 := Lib.hid (X9.out.below hB10 X9.out.lt)
  have P10 := Lib.hid ((P9.out.below hB10).mono hB10.size)
  have PW10 := Lib.hid ((PW.out.below hB10).mono hB10.size)
  have z0 := X11.out.cell 0
  have z1 := X11.out.cell 1
  have z2 := X11.out.cell 2
  have z3 := X11.out.cell 3
  have y0 := X12.out.cell 0
  have y1 := X12.out.cell 1
  have y2 := X12.out.cell 2
  have y3 := X12.out.cell 3
  have hSM := Lib.hid (fun W (h : Below w9.heap.size w9 W) => same_any polWant _ _ W ((P10.out.below h).mono h.size) ((PW10.out.below h).mono h.size) polOk_want)
  have hWD := Lib.hid (fun W (h : Below w.heap.size w W) => Word_any 9 (by decide) (by decide) W (HW.out.below h).commands)
  have hCP := Lib.hid (fun W (h : Below w.heap.size w W) => Command_any ⟨#[112, 105, 101, 99, 101]⟩ W (HW.out.below h).commands)
  have hCL := Lib.hid (fun W (h : Below w.heap.size w W) => Command_any ⟨#[108, 105, 102, 101]⟩ W (HW.out.below h).commands)
  rw [word_9] at hWD
  rw [command_piece] at hCP
  rw [command_life] at hCL
  clear hB10 B9 X10 X9 P9 PW x0 x1 x2 x3
  have e1 : snP.toList = [112, 111, 108, 105, 99, 121, 32, 112, 32, 123, 10, 9, 116, 121, 112, 101, 32, 97, 32, 123, 32, 101, 120, 112, 111, 114, 116, 59, 32, 108, 105, 102, 101, 32, 49, 50, 48, 59, 32, 125, 10, 9, 119, 114, 97, 112, 32, 97, 32, 45, 62, 32, 97, 59, 10, 9, 113, 117, 111, 114, 117, 109, 32, 101, 120, 112, 111, 114, 116, 32, 50, 32, 119, 105, 116, 104, 105, 110, 32, 51, 54, 48, 48, 59, 10, 125, 10] := by kernel_rfl
  have e2 : (snP.toList == [112, 111, 108, 105, 99, 121, 32, 112, 32, 123, 10, 9, 116, 121, 112, 101, 32, 97, 32, 123, 32, 101, 120, 112, 111, 114, 116, 59, 32, 108, 105, 102, 101, 32, 49, 50, 48, 59, 32, 125, 10, 9, 119, 114, 97, 112, 32, 97, 32, 45, 62, 32, 97, 59, 10, 9, 113, 117, 111, 114, 117, 109, 32, 101, 120, 112, 111, 114, 116, 32, 50, 32, 119, 105, 116, 104, 105, 110, 32, 51, 54, 48, 48, 59, 10, 125, 10]) = true := by rw [e1]; kernel_rfl
  go_wp2_with (first
    | (have hmk := B13; clear hmk; go_at_call 18; refine (hCL.out _ B13.out).mono ?_; rintro e w14 ⟨rfl, rfl⟩; have B14 := B13)
    | (have hmk := B12; clear hmk; go_at_call 18; refine (hCP.out _ B12.out).mono ?_; rintro e w13 ⟨rfl, rfl⟩; have B13 := B12)
    | (have hmk := B11; clear hmk; go_at_call 16; refine (hWD.out _ B11.out).mono ?_; rintro e w12 ⟨rfl, hb12⟩; have B12 : Hid (Below w.heap.size w w12) := B11.out.trans (hb12.mono B11.out.size); clear hb12)
    | (go_at_call 12; refine (hSM.out _ (Below.refl _ _)).mono ?_; rintro e w11 ⟨rfl, hb11⟩; have B11 : Hid (Below w.heap.size w w11) := B10.out.trans (hb11.mono B10.out.size); clear hb11))
  go_ret
  exact ⟨rfl, B14.out⟩
end Go.Proofs.YtemhiiignamkjaaDoor
