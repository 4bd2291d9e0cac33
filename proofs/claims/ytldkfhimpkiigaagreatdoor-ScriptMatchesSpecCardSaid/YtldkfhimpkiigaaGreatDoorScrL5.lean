/-
  Layer 46 (script): the law MatchesSpec.
-/
import Derived.Test.YtldkfhimpkiigaaGreatDoorR46W9
import Derived.Test.YtldkfhimpkiigaaGreatDoorScrW17
import Derived.Test.YtldkfhimpkiigaaGreatDoorScrW18
import Derived.Test.YtldkfhimpkiigaaGreatDoorRegionSeg2
namespace Go.Proofs.YtldkfhimpkiigaaGreatDoor
open Go.RowKit ScrP
attribute [local go_sem] Oper.semAt_some

theorem row_form5 {w : World} {B n : Nat} {v : Value} {cs : List Value} (h : RowAt w B v n cs) : ∃ A c, v = .slice A n c := ⟨h.choose, h.choose_spec.choose, h.choose_spec.choose_spec.1⟩
set_option maxRecDepth 100000 in
set_option maxHeartbeats 12800000 in
theorem matches_any (a b : Scr) (va vb : Value) (n2 : Int) (s3 s4 : ByteArray) (B : Nat) (w : World) (ha : ScrAt w B va a) (hb : ScrAt w B vb b) (hB : B ≤ w.heap.size) (hia : ScrIn a) (hib : ScrIn b) (_hn2 : InI n2) (h3 : s3.size ≤ 140737488351232) (h4 : s4.size ≤ 140737488351232) (hK : KTab w) (hL : LibAt w)
    (hSan : ∀ W, Below w.heap.size w W → Calls Tryz.prog 10 #[] W fun e w' => e = .returned (.bool true) ∧ Below W.heap.size W w') :
    Calls Tryz.prog 3 #[va, vb, .int .i64 n2, .string s3, .string s4] w fun e w' => e = .returned (.bool true) ∧ Below w.heap.size w w' := by
  have hallA := Lib.hid ha
  have hallB := Lib.hid hb
  obtain ⟨vta, vsa, rfl, hta, hsa⟩ := ha
  obtain ⟨vtb, vsb, rfl, htb, hsb⟩ := hb
  obtain ⟨Ata, cta, rfl⟩ := row_form5 hta
  obtain ⟨Asa, csa, rfl⟩ := row_form5 hsa.choose_spec.2.1
  obtain ⟨Atb, ctb, rfl⟩ := row_form5 htb
  obtain ⟨Asb, csb, rfl⟩ := row_form5 hsb.choose_spec.2.1
  have HS := Lib.hid hSan
  have hs3 := Lib.hid h3
  have hs4 := Lib.hid h4
  obtain ⟨T1, hT1⟩ : ∃ n, a.texts.length = n := ⟨_, rfl⟩
  obtain ⟨N1, hN1⟩ : ∃ n, a.steps.length = n := ⟨_, rfl⟩
  obtain ⟨T2, hT2⟩ : ∃ n, b.texts.length = n := ⟨_, rfl⟩
  obtain ⟨N2, hN2⟩ : ∃ n, b.steps.length = n := ⟨_, rfl⟩
  rw [hT1, hN1] at hallA
  rw [hT2, hN2] at hallB
  rw [hT1, hN1, hT2, hN2]
  have HA : Hid (∀ W, Below w.heap.size w W → ScrAt W B (.agg #[.slice Ata T1 cta, .slice Asa N1 csa]) a ∧ B ≤ W.heap.size) := fun W hb => ⟨hallA.out.below (hb.mono hB), Nat.le_trans hB hb.size⟩
  have HB : Hid (∀ W, Below w.heap.size w W → ScrAt W B (.agg #[.slice Atb T2 ctb, .slice Asb N2 csb]) b ∧ B ≤ W.heap.size) := fun W hb => ⟨hallB.out.below (hb.mono hB), Nat.le_trans hB hb.size⟩
  have HFA := Lib.hid (fun W (hb : Below w.heap.size w W) => few_any a _ B W (HA.out W hb).1 (HA.out W hb).2 hia)
  have HFB := Lib.hid (fun W (hb : Below w.heap.size w W) => few_any b _ B W (HB.out W hb).1 (HB.out W hb).2 hib)
  have HK1 := Lib.hid (fun W (hb : Below w.heap.size w W) => Kind_any s3 W (hK.below hb))
  have HK2 := Lib.hid (fun W (_ : Below w.heap.size w W) => rKind_any s3 W)
  have HD1 : Hid (∀ W, Below w.heap.size w W → Calls Tryz.prog 13 #[.string s4] W fun e w' => e = .returned (.tuple #[.string (dataR s4).text, .int .i64 (dataR s4).num, .int .i64 (dataR s4).err]) ∧ Below W.heap.size W w') := fun W hb => Data_any s4 W (by omega) (hL.below hb)
  have HD2 := Lib.hid (fun W => rData_any s4 W (by omega))
  have HC1 : Hid (∀ W, Below w.heap.size w W → Calls Tryz.prog 15 #[.agg #[.slice Ata T1 cta, .slice Asa N1 csa]] W fun e w' => e = .returned (.tuple #[.int .i64 (checkS a).1, .int .i64 (checkS a).2]) ∧ Below W.heap.size W w') := fun W hb => Check_any a _ B W (HA.out W hb).1 (HA.out W hb).2 hia (hK.below hb) (hL.below hb)
  have HC2 : Hid (∀ W, Below w.heap.size w W → Calls Tryz.prog 16 #[.agg #[.slice Ata T1 cta, .slice Asa N1 csa]] W fun e w' => e = .returned (.tuple #[.int .i64 (checkS a).1, .int .i64 (checkS a).2]) ∧ Below W.heap.size W w') := fun W hb => rCheck_any a _ B W (HA.out W hb).1 (HA.out W hb).2 hia
  have HP1 : Hid (∀ W, Below w.heap.size w W → Calls Tryz.prog 17 #[.agg #[.slice Ata T1 cta, .slice Asa N1 csa]] W fun e w' => Below W.heap.size W w' ∧ ∃ t : ByteArray, e = .returned (.tuple #[.string t, .int .i64 (printS a).2]) ∧ t.data.toList = (printS a).1) := fun W hb => Print_any a _ B W (HA.out W hb).1 (HA.out W hb).2 hia (hK.below hb) (hL.below hb)
  have HP2 : Hid (∀ W, Below w.heap.size w W → Calls Tryz.prog 18 #[.agg #[.slice Ata T1 cta, .slice Asa N1 csa]] W fun e w' => Below W.heap.size W w' ∧ ∃ t : ByteArray, e = .returned (.tuple #[.string t, .int .i64 (printS a).2]) ∧ t.data.toList = (printS a).1) := fun W hb => rPrint_any a _ B W (HA.out W hb).1 (HA.out W hb).2 hia
  have HN1 := Lib.hid (fun W (hb : Below w.heap.size w W) => Name_any n2 W (hK.below hb))
  have HN2 := Lib.hid (fun W => rName_any n2 W)
  have HM1 := Lib.hid (fun W (hb : Below w.heap.size w W) => Same_any a b _ _ B W (HA.out W hb).1 (HB.out W hb).1 (HA.out W hb).2 hia hib)
  have HM2 := Lib.hid (fun W (hb : Below w.heap.size w W) => rSame_any a b _ _ B W (HA.out W hb).1 (HB.out W hb).1 (HA.out W hb).2 hia hib)
  obtain ⟨K1, hk1⟩ : ∃ k, kindN s3 = k := ⟨_, rfl⟩
  obtain ⟨IB, hib1⟩ : ∃ k, decide (0 < kindN s3) = k := ⟨_, rfl⟩
  rw [hib1, hk1] at HK1 HK2
  obtain ⟨DT, hdt⟩ : ∃ k, (dataR s4).text = k := ⟨_, rfl⟩
  obtain ⟨DN, hdn⟩ : ∃ k, (dataR s4).num = k := ⟨_, rfl⟩
  obtain ⟨DE, hde⟩ : ∃ k, (dataR s4).err = k := ⟨_, rfl⟩
  rw [hdt, hdn, hde] at HD1 HD2
  obtain ⟨CA, hca⟩ : ∃ k, (checkS a).1 = k := ⟨_, rfl⟩
  obtain ⟨CB, hcb⟩ : ∃ k, (checkS a).2 = k := ⟨_, rfl⟩
  rw [hca, hcb] at HC1 HC2
  obtain ⟨PE, hpe⟩ : ∃ k, (printS a).2 = k := ⟨_, rfl⟩
  rw [hpe] at HP1 HP2
  obtain ⟨NM, hnm⟩ : ∃ k, nameN n2 = k := ⟨_, rfl⟩
  rw [hnm] at HN1 HN2
  obtain ⟨SE, hse⟩ : ∃ k, sameE a b = k := ⟨_, rfl⟩
  rw [hse] at HM1 HM2
  clear hta htb hsa hsb hia hib hK hL hB hT1 hT2 hN1 hN2 hSan h3 h4 hk1 hib1 hdt hdn hde hca hcb hpe hnm hse hallA hallB HA HB _hn2
  go_enter Tryz.func3, Tryz.ntmps3
  go_upto_region 1 with fail
  refine world_is (P := fun W => Code.wp _ _ _ _ W) (fun w0 hW0 => ?_)
  have B0 : Hid (Below w.heap.size w w0) := by unfold Hid; rw [← hW0]; exact ((Below.refl _ _).alloc (Nat.le_refl _) _).alloc (by rw [World.size_alloc]; omega) _
  have X0 : Hid (Blk w0 w.heap.size 25 #[.slice Ata T1 cta, .slice Asa N1 csa]) := by unfold Hid; rw [← hW0]; exact (Blk.new _ _ _).alloc _
  have Y0 : Hid (Blk w0 (w.heap.size + 1) 25 #[.slice Atb T2 ctb, .slice Asb N2 csb]) := by
    unfold Hid
    rw [← hW0]
    have h := Blk.new (w.alloc (.cells #[.slice Ata T1 cta, .slice Asa N1 csa] 25)) 25 #[.slice Atb T2 ctb, .slice Asb N2 csb]
    rw [World.size_alloc] at h
    exact h
  obtain ⟨g, hg⟩ : ∃ g, w.heap.size = g := ⟨_, rfl⟩
  rw [hg] at X0 Y0
  try rw [hg]
  obtain ⟨g2, hg2⟩ : ∃ g2, g + 1 = g2 := ⟨_, rfl⟩
  rw [hg2] at Y0
  try rw [hg2]
  clear hW0 hg hg2
  have x0 := X0.out.cell 0
  have x1 := X0.out.cell 1
  have y0 := Y0.out.cell 0
  have y1 := Y0.out.cell 1
  go_wp2_with fail
  refine (HFA.out w0 B0.out).mono ?_
  rintro e w1 ⟨fa, rfl, hb⟩
  have B1 := Lib.hid (B0.out.trans (hb.mono B0.out.size))
  have X1 := Lib.hid (X0.out.below hb X0.out.lt)
  have Y1 := Lib.hid (Y0.out.below hb Y0.out.lt)
  clear hb B0 X0 Y0 x0 x1 y0 y1 HFA
  cases fa
  case false =>
    have x0 := X1.out.cell 0
    have x1 := X1.out.cell 1
    have y0 := Y1.out.cell 0
    have y1 := Y1.out.cell 1
    go_wp2_with fail
    refine (HS.out w1 B1.out).mono ?_
    rintro e wz ⟨rfl, hb⟩
    have BZ := Lib.hid (B1.out.trans (hb.mono B1.out.size))
    clear hb
    go_wp2_with fail
    go_ret
    exact ⟨rfl, BZ.out⟩
  case true =>
  have x0 := X1.out.cell 0
  have x1 := X1.out.cell 1
  have y0 := Y1.out.cell 0
  have y1 := Y1.out.cell 1
  go_wp2_with fail
  refine (HFB.out w1 B1.out).mono ?_
  rintro e w2 ⟨fb, rfl, hb⟩
  have B2 := Lib.hid (B1.out.trans (hb.mono B1.out.size))
  have X2 := Lib.hid (X1.out.below hb X1.out.lt)
  have Y2 := Lib.hid (Y1.out.below hb Y1.out.lt)
  clear hb B1 X1 Y1 x0 x1 y0 y1 HFB
  cases fb
  case false =>
    have x0 := X2.out.cell 0
    have x1 := X2.out.cell 1
    have y0 := Y2.out.cell 0
    have y1 := Y2.out.cell 1
    go_wp2_with fail
    refine (HS.out w2 B2.out).mono ?_
    rintro e wz ⟨rfl, hb⟩
    have BZ := Lib.hid (B2.out.trans (hb.mono B2.out.size))
    clear hb
    go_wp2_with fail
    go_ret
    exact ⟨rfl, BZ.out⟩
  case true =>
  by_cases hlong : 5000 < s3.size + s4.size
  case pos =>
    have l1 : decide ((5000 : Int) < (s3.size : Int) + (s4.size : Int)) = true := decide_eq_true (by omega)
    have l2 : (5000 : Int) < (s3.size : Int) + (s4.size : Int) := by omega
    have l3 := hs3.out
    have l4 := hs4.out
    clear hlong
    have x0 := X2.out.cell 0
    have x1 := X2.out.cell 1
    have y0 := Y2.out.cell 0
    have y1 := Y2.out.cell 1
    go_wp2_with fail
    refine (HS.out w2 B2.out).mono ?_
    rintro e wz ⟨rfl, hb⟩
    have BZ := Lib.hid (B2.out.trans (hb.mono B2.out.size))
    clear hb
    go_wp2_with fail
    go_ret
    exact ⟨rfl, BZ.out⟩
  case neg =>
  have l1 : decide ((5000 : Int) < (s3.size : Int) + (s4.size : Int)) = false := decide_eq_false (by omega)
  have l2 : ¬ (5000 : Int) < (s3.size : Int) + (s4.size : Int) := by omega
  have l3 := hs3.out
  have l4 := hs4.out
  clear hlong
  have x0 := X2.out.cell 0
  have x1 := X2.out.cell 1
  have y0 := Y2.out.cell 0
  have y1 := Y2.out.cell 1
  go_wp2_with fail
  refine (HK1.out w2 B2.out).mono ?_
  rintro e w3 ⟨rfl, hb⟩
  have B3 := Lib.hid (B2.out.trans (hb.mono B2.out.size))
  have X3 := Lib.hid (X2.out.below hb X2.out.lt)
  have Y3 := Lib.hid (Y2.out.below hb Y2.out.lt)
  clear l1 l2 l3 l4
  clear hb B2 X2 Y2 x0 x1 y0 y1 HK1
  have x0 := X3.out.cell 0
  have x1 := X3.out.cell 1
  have y0 := Y3.out.cell 0
  have y1 := Y3.out.cell 1
  go_wp2_with fail
  refine (HK2.out w3 B3.out).mono ?_
  rintro e w4 ⟨rfl, hb⟩
  have B4 := Lib.hid (B3.out.trans (hb.mono B3.out.size))
  have X4 := Lib.hid (X3.out.below hb X3.out.lt)
  have Y4 := Lib.hid (Y3.out.below hb Y3.out.lt)
  clear hb B3 X3 Y3 x0 x1 y0 y1 HK2
  have x0 := X4.out.cell 0
  have x1 := X4.out.cell 1
  have y0 := Y4.out.cell 0
  have y1 := Y4.out.cell 1
  go_wp2_with fail
  refine (HD1.out w4 B4.out).mono ?_
  rintro e w5 ⟨rfl, hb⟩
  have B5 := Lib.hid (B4.out.trans (hb.mono B4.out.size))
  have X5 := Lib.hid (X4.out.below hb X4.out.lt)
  have Y5 := Lib.hid (Y4.out.below hb Y4.out.lt)
  clear hb B4 X4 Y4 x0 x1 y0 y1 HD1
  have x0 := X5.out.cell 0
  have x1 := X5.out.cell 1
  have y0 := Y5.out.cell 0
  have y1 := Y5.out.cell 1
  go_wp2_with fail
  refine (HD2.out w5).mono ?_
  rintro e w6 ⟨rfl, rfl⟩
  have B6 := Lib.hid B5.out
  have X6 := Lib.hid X5.out
  have Y6 := Lib.hid Y5.out
  clear B5 X5 Y5 x0 x1 y0 y1 HD2
  have x0 := X6.out.cell 0
  have x1 := X6.out.cell 1
  have y0 := Y6.out.cell 0
  have y1 := Y6.out.cell 1
  go_wp2_with fail
  refine (HC1.out w6 B6.out).mono ?_
  rintro e w7 ⟨rfl, hb⟩
  have B7 := Lib.hid (B6.out.trans (hb.mono B6.out.size))
  have X7 := Lib.hid (X6.out.below hb X6.out.lt)
  have Y7 := Lib.hid (Y6.out.below hb Y6.out.lt)
  clear hb B6 X6 Y6 x0 x1 y0 y1 HC1
  have x0 := X7.out.cell 0
  have x1 := X7.out.cell 1
  have y0 := Y7.out.cell 0
  have y1 := Y7.out.cell 1
  go_wp2_with fail
  refine (HC2.out w7 B7.out).mono ?_
  rintro e w8 ⟨rfl, hb⟩
  have B8 := Lib.hid (B7.out.trans (hb.mono B7.out.size))
  have X8 := Lib.hid (X7.out.below hb X7.out.lt)
  have Y8 := Lib.hid (Y7.out.below hb Y7.out.lt)
  clear hb B7 X7 Y7 x0 x1 y0 y1 HC2
  have x0 := X8.out.cell 0
  have x1 := X8.out.cell 1
  have y0 := Y8.out.cell 0
  have y1 := Y8.out.cell 1
  go_wp2_with fail
  refine (HP1.out w8 B8.out).mono ?_
  rintro e w9 ⟨hb, p1, rfl, hp1⟩
  have B9 := Lib.hid (B8.out.trans (hb.mono B8.out.size))
  have X9 := Lib.hid (X8.out.below hb X8.out.lt)
  have Y9 := Lib.hid (Y8.out.below hb Y8.out.lt)
  clear hb B8 X8 Y8 x0 x1 y0 y1 HP1
  have x0 := X9.out.cell 0
  have x1 := X9.out.cell 1
  have y0 := Y9.out.cell 0
  have y1 := Y9.out.cell 1
  go_wp2_with fail
  refine (HP2.out w9 B9.out).mono ?_
  rintro e w10 ⟨hb, p2, rfl, hp2⟩
  have B10 := Lib.hid (B9.out.trans (hb.mono B9.out.size))
  have X10 := Lib.hid (X9.out.below hb X9.out.lt)
  have Y10 := Lib.hid (Y9.out.below hb Y9.out.lt)
  obtain rfl : p2 = p1 := ByteArray.ext (Array.ext' (hp2.trans hp1.symm))
  clear hp1 hp2
  clear hb B9 X9 Y9 x0 x1 y0 y1 HP2
  go_upto_region 11 with fail
  have hC : Hid (∀ W, Below w10.heap.size w10 W → W.cell? ⟨g, 0, none⟩ = some (.slice Ata T1 cta) ∧ W.cell? ⟨g, 1, none⟩ = some (.slice Asa N1 csa) ∧ W.cell? ⟨g2, 0, none⟩ = some (.slice Atb T2 ctb) ∧ W.cell? ⟨g2, 1, none⟩ = some (.slice Asb N2 csb)) := fun W h => ⟨(X10.out.below h X10.out.lt).cell 0, (X10.out.below h X10.out.lt).cell 1, (Y10.out.below h Y10.out.lt).cell 0, (Y10.out.below h Y10.out.lt).cell 1⟩
  have r1 : ((K1 : Int) == (K1 : Int)) = true := beq_self_eq_true _
  have r2 : (IB == IB) = true := beq_self_eq_true _
  have r3 : (DT.toList == DT.toList) = true := beq_self_eq_true _
  have r4 : (DN == DN) = true := beq_self_eq_true _
  have r5 : (DE == DE) = true := beq_self_eq_true _
  have r6 : (CA == CA) = true := beq_self_eq_true _
  have r7 : (CB == CB) = true := beq_self_eq_true _
  have r8 : (p2.toList == p2.toList) = true := beq_self_eq_true _
  have r9 : (PE == PE) = true := beq_self_eq_true _
  have r10 : (NM.toList == NM.toList) = true := beq_self_eq_true _
  have r11 : (SE == SE) = true := beq_self_eq_true _
  refine wp_region_any (by kernel_rfl) ?_
  refine world_is (P := fun W => wpAny _ _ _ _ _ _ _ W) (fun W0 hW => ?_)
  have b0 : Below w10.heap.size w10 W0 := by rw [← hW]; exact (Below.refl _ _).drew
  clear hW
  refine Seg.runM (i := 0) (n := 3) (fuel := 60) (m := 63) (by kernel_rfl) (by kernel_rfl) (by kernel_rfl) (fun _ _ _ _ _ h => h) (by kernel_rfl) (by kernel_rfl) (fun Q2 hQ2 => ?_)
  simp only [List.drop_zero, List.take_succ_cons, List.take_zero]
  go_wp2_with fail
  refine (HS.out W0 (B10.out.trans (b0.mono B10.out.size))).mono ?_
  rintro e w11 ⟨rfl, hb⟩
  have b1 : Below w10.heap.size w10 w11 := b0.trans (hb.mono b0.size)
  clear hb
  go_wp2_with fail
  refine hQ2.out _ _ ?_
  clear hQ2 Q2
  try simp only [Act.put, List.setIfInBounds_toArray, List.set_cons_zero, List.set_cons_succ, List.getElem_toArray, List.getElem_cons_zero, List.getElem_cons_succ]
  refine' Seg.pairM (i := 4) (j := 3) (fuel := 58) (listed2 := Seg.front 5 63) (v := ?vA) (S := fun w' => Below w10.heap.size w10 w') (by kernel_rfl) rfl rfl (by kernel_rfl) (by kernel_rfl) (by kernel_rfl) (by kernel_rfl) (by kernel_rfl) (by kernel_rfl) (by decide) (fun _ _ _ h => h) (Or.inl ⟨by rfl, ?hyA⟩) b1 (fun K hK => ?restA)
  case hyA => intro w hSw; (try dsimp only at hSw); go_simp; all_goals with_reducible rfl
  go_simp
  go_at_call 19
  refine (HN1.out _ (B10.out.trans (b1.mono B10.out.size))).mono ?_
  rintro e w12 ⟨rfl, hw⟩
  have b2 : Below w10.heap.size w10 w12 := by rw [hw]; exact b1
  clear hw
  (try go_wp2_with fail)
  refine hK.out _ _ b2 ?_
  clear hK K
  try simp only [Act.put, List.setIfInBounds_toArray, List.set_cons_zero, List.set_cons_succ, List.getElem_toArray, List.getElem_cons_zero, List.getElem_cons_succ]
  refine Seg.runM (i := 5) (n := 49) (fuel := 9) (m := 63) (by kernel_rfl) (by kernel_rfl) (by kernel_rfl) (fun _ _ _ _ _ h => h) (by kernel_rfl) (by kernel_rfl) (fun Q2 hQ2 => ?_)
  simp only [List.drop_succ_cons, List.drop_zero, List.take_succ_cons, List.take_zero]
  go_wp2_with fail
  refine (HN2.out w12).mono ?_
  rintro e w13 ⟨rfl, hb⟩
  have b3 : Below w10.heap.size w10 w13 := b2.trans (hb.mono b2.size)
  clear hb
  go_wp2_with fail
  refine hQ2.out _ _ ?_
  clear hQ2 Q2 r1 r2 r3 r4 r5 r6 r7 r8 r9 r10
  try simp only [Act.put, List.setIfInBounds_toArray, List.set_cons_zero, List.set_cons_succ, List.getElem_toArray, List.getElem_cons_zero, List.getElem_cons_succ]
  refine wpAny_of_held (S := (fun w' => Below w10.heap.size w10 w' ∧ w'.cell? ⟨g, 0, none⟩ = some (.slice Ata T1 cta) ∧ w'.cell? ⟨g, 1, none⟩ = some (.slice Asa N1 csa) ∧ w'.cell? ⟨g2, 0, none⟩ = some (.slice Atb T2 ctb) ∧ w'.cell? ⟨g2, 1, none⟩ = some (.slice Asb N2 csb))) _ _ _ _ ?_
  have hHeld := (⟨b3, hC.out _ b3⟩ : Below w10.heap.size w10 w13 ∧ w13.cell? ⟨g, 0, none⟩ = some (.slice Ata T1 cta) ∧ w13.cell? ⟨g, 1, none⟩ = some (.slice Asa N1 csa) ∧ w13.cell? ⟨g2, 0, none⟩ = some (.slice Atb T2 ctb) ∧ w13.cell? ⟨g2, 1, none⟩ = some (.slice Asb N2 csb))
  refine' wpAnyH_take (i := 54) (v := ?v54h) rfl (by kernel_rfl) (by kernel_rfl) (by kernel_rfl) (fun _ _ _ h => h) (Or.inl ⟨by rfl, ?hy54h⟩) hHeld ?rest54h
  case hy54h => intro w hSw; (try dsimp only at hSw); go_simp; all_goals with_reducible rfl
  try simp only [Act.put, List.setIfInBounds_toArray, List.set_cons_zero, List.set_cons_succ, List.getElem_toArray, List.getElem_cons_zero, List.getElem_cons_succ]
  refine' wpAnyH_take (i := 55) (v := ?v55h) rfl (by kernel_rfl) (by kernel_rfl) (by kernel_rfl) (fun _ _ _ h => h) (Or.inl ⟨by rfl, ?hy55h⟩) hHeld ?rest55h
  case hy55h => intro w hSw; (try dsimp only at hSw); go_simp; all_goals with_reducible rfl
  try simp only [Act.put, List.setIfInBounds_toArray, List.set_cons_zero, List.set_cons_succ, List.getElem_toArray, List.getElem_cons_zero, List.getElem_cons_succ]
  refine' wpAnyH_take (i := 57) (v := ?v57h) rfl (by kernel_rfl) (by kernel_rfl) (by kernel_rfl) (fun _ _ _ h => h) (Or.inl ⟨by rfl, ?hy57h⟩) hHeld ?rest57h
  case hy57h => intro w hSw; (try dsimp only at hSw); go_simp; all_goals with_reducible rfl
  try simp only [Act.put, List.setIfInBounds_toArray, List.set_cons_zero, List.set_cons_succ, List.getElem_toArray, List.getElem_cons_zero, List.getElem_cons_succ]
  refine' wpAnyH_take (i := 58) (v := ?v58h) rfl (by kernel_rfl) (by kernel_rfl) (by kernel_rfl) (fun _ _ _ h => h) (Or.inl ⟨by rfl, ?hy58h⟩) hHeld ?rest58h
  case hy58h => intro w hSw; (try dsimp only at hSw); go_simp; all_goals with_reducible rfl
  try simp only [Act.put, List.setIfInBounds_toArray, List.set_cons_zero, List.set_cons_succ, List.getElem_toArray, List.getElem_cons_zero, List.getElem_cons_succ]
  refine wpAnyH_ready (rs := [56]) (by kernel_rfl) (by simp) ?_
  refine AllReadyH.cons rfl (fun K hK => ?_) AllReadyH.nil
  go_simp
  go_at_call 21
  refine (HM1.out _ (B10.out.trans (b3.mono B10.out.size))).mono ?_
  rintro e w14 ⟨rfl, hb⟩
  have b4 : Below w10.heap.size w10 w14 := b3.trans (hb.mono b3.size)
  clear hb
  (try go_wp2_with fail)
  refine hK.out _ _ ⟨b4, hC.out _ b4⟩ (fun hHeld2 => ?_)
  clear hK K hHeld
  have hHeld := hHeld2
  clear hHeld2
  try simp only [Act.put, List.setIfInBounds_toArray, List.set_cons_zero, List.set_cons_succ, List.getElem_toArray, List.getElem_cons_zero, List.getElem_cons_succ]
  refine wpAnyH_ready (rs := [59]) (by kernel_rfl) (by simp) ?_
  refine AllReadyH.cons rfl (fun K hK => ?_) AllReadyH.nil
  go_simp
  go_at_call 22
  refine (HM2.out _ (B10.out.trans (b4.mono B10.out.size))).mono ?_
  rintro e w15 ⟨rfl, hb⟩
  have b5 : Below w10.heap.size w10 w15 := b4.trans (hb.mono b4.size)
  clear hb
  (try go_wp2_with fail)
  refine hK.out _ _ ⟨b5, hC.out _ b5⟩ (fun hHeld2 => ?_)
  clear hK K hHeld
  have hHeld := hHeld2
  clear hHeld2
  try simp only [Act.put, List.setIfInBounds_toArray, List.set_cons_zero, List.set_cons_succ, List.getElem_toArray, List.getElem_cons_zero, List.getElem_cons_succ]
  refine wpAnyH_ready (rs := [60]) (by kernel_rfl) (by simp) ?_
  refine AllReadyH.cons rfl (fun K hK => ?_) AllReadyH.nil
  go_simp
  refine hK.out _ _ hHeld (fun hHeld2 => ?_)
  clear hK K hHeld
  have hHeld := hHeld2
  clear hHeld2
  try simp only [Act.put, List.setIfInBounds_toArray, List.set_cons_zero, List.set_cons_succ, List.getElem_toArray, List.getElem_cons_zero, List.getElem_cons_succ]
  refine wpAnyH_ready (rs := [61]) (by kernel_rfl) (by simp) ?_
  refine AllReadyH.cons rfl (fun K hK => ?_) AllReadyH.nil
  go_simp
  refine hK.out _ _ hHeld (fun hHeld2 => ?_)
  clear hK K hHeld
  have hHeld := hHeld2
  clear hHeld2
  try simp only [Act.put, List.setIfInBounds_toArray, List.set_cons_zero, List.set_cons_succ, List.getElem_toArray, List.getElem_cons_zero, List.getElem_cons_succ]
  refine wpAnyH_ready (rs := [62]) (by kernel_rfl) (by simp) ?_
  refine AllReadyH.cons rfl (fun K hK => ?_) AllReadyH.nil
  go_simp
  refine hK.out _ _ hHeld (fun hHeld2 => ?_)
  clear hK K hHeld
  have hHeld := hHeld2
  clear hHeld2
  try simp only [Act.put, List.setIfInBounds_toArray, List.set_cons_zero, List.set_cons_succ, List.getElem_toArray, List.getElem_cons_zero, List.getElem_cons_succ]
  refine wpAnyH_done (by kernel_rfl) ?_ _
  clear hHeld
  go_wp2_with fail
  go_ret
  exact ⟨rfl, B10.out.trans (b5.mono B10.out.size)⟩
end Go.Proofs.YtldkfhimpkiigaaGreatDoor
