/-
  Layer 46 (script): sanity.
-/
import Derived.Test.YtldkfhimpkiigaaGreatDoorScrW19
import Derived.Test.YtldkfhimpkiigaaGreatDoorRegionSeg
namespace Go.Proofs.YtldkfhimpkiigaaGreatDoor
open Go.RowKit ScrP
attribute [local go_sem] Oper.semAt_some

theorem exS_in : ScrIn exS := by
  refine ⟨by decide, by decide, fun t ht => ?_, fun x hx => ?_⟩
  · obtain rfl : t = exT := by simpa [exS] using ht
    decide
  · simp only [exS, List.mem_cons, List.not_mem_nil, or_false] at hx
    rcases hx with rfl | rfl | rfl
    all_goals
      refine ⟨by unfold InI; decide, fun a ha => ?_, by decide, by decide⟩
      simp only [List.mem_cons, List.not_mem_nil, or_false] at ha
      unfold InI
      omega
theorem ba_of {t : ByteArray} {l : List UInt8} (h : t.data.toList = l) : t = ⟨l.toArray⟩ := ByteArray.ext (Array.ext' (by rw [h]))
/-- Print of the example. -/
theorem ex_printed {v : Value} {w : World} (h : ScrAt w w.heap.size v exS) (hK : KTab w) (hL : LibAt w) : Calls Tryz.prog 17 #[v] w fun e w' => e = .returned (.tuple #[.string ⟨exP.toArray⟩, .int .i64 0]) ∧ Below w.heap.size w w' := by
  refine (Print_any exS v w.heap.size w h (Nat.le_refl _) exS_in hK hL).mono ?_
  rintro e w' ⟨hb, t, rfl, ht⟩
  rw [ex_print] at ht ⊢
  rw [ba_of ht]
  exact ⟨rfl, hb⟩
/-- A text's reading, its slices by name. -/
theorem parse_at (text : ByteArray) (w : World) (hs : text.size ≤ 100000000) (hK : KTab w) (hL : LibAt w) (r : ParR) (hr : parseS text.data.toList = r) : Calls Tryz.prog 23 #[.string text] w fun e w' =>
    ∃ A n c A' n' c', e = .returned (.tuple #[.agg #[.slice A n c, .slice A' n' c'], .int .i64 (r.line : Int), .int .i64 r.err]) ∧ ScrAt w' w'.heap.size (.agg #[.slice A n c, .slice A' n' c']) r.scr ∧ Below w.heap.size w w' := by
  subst hr
  refine (Parse_any text w hs hK hL).mono ?_
  rintro e w' ⟨vt, vs, rfl, h, hb⟩
  have h2 := h
  obtain ⟨_, _, e1, ⟨A, c, e2, _⟩, _, _, ⟨A', c', e3, _⟩, _⟩ := h2
  cases e1
  subst e2 e3
  exact ⟨A, _, c, A', _, c', rfl, h, hb⟩
def exL : ByteArray := ⟨([35, 32, 99, 111, 109, 109, 101, 110, 116, 10, 10] ++ exP).toArray⟩
theorem exL_eq : parseS exL.data.toList = ⟨exS, 0, 0⟩ := ex_parse
def exM : ByteArray := ⟨#[116, 105, 99, 107, 32, 49, 10, 116, 111, 99, 107, 32, 50, 10]⟩
def exN : ByteArray := ⟨#[116, 105, 99, 107, 32, 48, 53]⟩
theorem same_ex (W : World) (u v : Value) (hu : ScrAt W W.heap.size u exS) (hv : ScrAt W W.heap.size v exS) : Calls Tryz.prog 22 #[u, v] W fun e w' => e = .returned (.bool true) ∧ Below W.heap.size W w' := by
  have h := rSame_any exS exS u v W.heap.size W hu hv (Nat.le_refl _) exS_in exS_in
  rw [show sameE exS exS = true by unfold sameE; simp] at h
  exact h
theorem psame_ex (W : World) (u v : Value) (hu : ScrAt W W.heap.size u exS) (hv : ScrAt W W.heap.size v exS) : Calls Tryz.prog 21 #[u, v] W fun e w' => e = .returned (.bool true) ∧ Below W.heap.size W w' := by
  have h := Same_any exS exS u v W.heap.size W hu hv (Nat.le_refl _) exS_in exS_in
  rw [show sameE exS exS = true by unfold sameE; simp] at h
  exact h
theorem psame_no (W : World) (u : Value) (hu : ScrAt W W.heap.size u exS) : Calls Tryz.prog 21 #[u, .agg #[.slice none 0 0, .slice none 0 0]] W fun e w' => e = .returned (.bool false) ∧ Below W.heap.size W w' := by
  have h := Same_any exS noScr u _ W.heap.size W hu (scrAt_no W _) (Nat.le_refl _) exS_in ⟨Nat.zero_le _, Nat.zero_le _, (fun t ht => by cases ht), (fun x hx => by cases hx)⟩
  rw [show sameE exS noScr = false by unfold sameE; simp [exS, noScr]] at h
  exact h
theorem parse_le (text : ByteArray) (w : World) (hs : text.size ≤ 100000000) (hK : KTab w) (hL : LibAt w) (L E : Int) (hl : ((parseS text.data.toList).line : Int) = L) (he : (parseS text.data.toList).err = E) : Calls Tryz.prog 23 #[.string text] w fun e w' =>
    ∃ A n c A' n' c', e = .returned (.tuple #[.agg #[.slice A n c, .slice A' n' c'], .int .i64 L, .int .i64 E]) ∧ Below w.heap.size w w' := by
  subst hl he
  refine (parse_at text w hs hK hL _ rfl).mono ?_
  rintro e w' ⟨A, n, c, A', n', c', rfl, _, hb⟩
  exact ⟨A, n, c, A', n', c', rfl, hb⟩
theorem data_is (t : ByteArray) (w : World) (hs : t.size ≤ 140737488355328) (hL : LibAt w) (r : DataR) (hr : dataR t = r) : Calls Tryz.prog 13 #[.string t] w fun e w' => e = .returned (.tuple #[.string r.text, .int .i64 r.num, .int .i64 r.err]) ∧ Below w.heap.size w w' := by
  subst hr
  exact Data_any t w hs hL
theorem kind_is (s : ByteArray) (w : World) (hK : KTab w) (k : Nat) (hk : kindN s = k) : Calls Tryz.prog 11 #[.string s] w fun e w' => e = .returned (.tuple #[.int .i64 (k : Int), .bool (decide (0 < k))]) ∧ Below w.heap.size w w' := by
  subst hk
  exact Kind_any s w hK
theorem exC_in : ScrIn exC := by
  refine ⟨by decide, by decide, (fun t ht => by cases ht), fun x hx => ?_⟩
  simp only [exC, List.mem_cons, List.not_mem_nil, or_false] at hx
  rcases hx with rfl | rfl
  · refine ⟨by unfold InI; decide, fun a ha => ?_, by decide, by decide⟩
    simp only [List.mem_cons, List.not_mem_nil, or_false] at ha
    unfold InI
    omega
  · exact ⟨by unfold InI; decide, (fun a ha => by cases ha), by decide, by decide⟩
theorem chk_ex {q : Nat} {W : World} (R1 : Blk W q 3 (intsC [5]).toArray) (R2 : Blk W (q + 1) 53 (stepsC exC.steps [.slice (some ⟨q, 0, none⟩) 1 1, .slice none 0 0]).toArray) (hK : KTab W) (hL : LibAt W) :
    Calls Tryz.prog 15 #[.agg #[.slice none 0 0, .slice (some ⟨q + 1, 0, none⟩) 2 2]] W fun e w' => e = .returned (.tuple #[.int .i64 1, .int .i64 1]) ∧ Below W.heap.size W w' := by
  have h : ScrAt W W.heap.size (.agg #[.slice none 0 0, .slice (some ⟨q + 1, 0, none⟩) 2 2]) exC := by
    refine ⟨_, _, rfl, ⟨none, 0, rfl, fun h => absurd h (by decide)⟩, [.slice (some ⟨q, 0, none⟩) 1 1, .slice none 0 0], rfl, rowAt_blk R2 2 2, fun i x u hx hu => ?_⟩
    match i, hx, hu with
    | 0, hx, hu => cases hx; cases hu; exact rowAt_blk R1 1 1
    | 1, hx, hu => cases hx; cases hu; exact ⟨none, 0, rfl, fun h => absurd h (by decide)⟩
    | i + 2, hx, _ => cases hx
  have := Check_any exC _ W.heap.size W h (Nat.le_refl _) exC_in hK hL
  unfold CheckPost at this
  rw [ex_check2] at this
  exact this
set_option maxRecDepth 100000 in
set_option maxHeartbeats 12800000 in
theorem sanity_any (w : World) (hK : KTab w) (hL : LibAt w) : Calls Tryz.prog 10 #[] w fun e w' => e = .returned (.bool true) ∧ Below w.heap.size w w' := by
  have HK := Lib.hid hK
  have HL := Lib.hid hL
  have HPr := Lib.hid (fun W v (h : ScrAt W W.heap.size v exS) (hb : Below w.heap.size w W) => ex_printed h (HK.out.below hb) (HL.out.below hb))
  obtain ⟨PT, hPT⟩ : ∃ P, (⟨exP.toArray⟩ : ByteArray) = P := ⟨_, rfl⟩
  rw [hPT] at HPr
  have e1 : PT.toList = [116, 101, 120, 116, 10, 124, 112, 111, 108, 105, 99, 121, 32, 112, 10, 124, 10, 124, 116, 121, 112, 101, 32, 97, 10, 116, 105, 99, 107, 32, 53, 10, 99, 111, 109, 109, 97, 110, 100, 32, 48, 32, 48, 32, 52, 32, 49, 32, 48, 32, 48, 32, 48, 32, 48, 32, 61, 54, 49, 54, 50, 10, 115, 101, 110, 100, 32, 48, 32, 48, 32, 56, 32, 49, 32, 48, 32, 48, 32, 48, 32, 48, 32, 64, 51, 10] := by rw [← hPT, ByteArray.toList_eq]; rfl
  have e2 : (PT.toList == [116, 101, 120, 116, 10, 124, 112, 111, 108, 105, 99, 121, 32, 112, 10, 124, 10, 124, 116, 121, 112, 101, 32, 97, 10, 116, 105, 99, 107, 32, 53, 10, 99, 111, 109, 109, 97, 110, 100, 32, 48, 32, 48, 32, 52, 32, 49, 32, 48, 32, 48, 32, 48, 32, 48, 32, 61, 54, 49, 54, 50, 10, 115, 101, 110, 100, 32, 48, 32, 48, 32, 56, 32, 49, 32, 48, 32, 48, 32, 48, 32, 48, 32, 64, 51, 10]) = true := beq_iff_eq.2 e1
  clear hPT
  have H1 := Lib.hid (fun W (hb : Below w.heap.size w W) => parse_at exL W (by decide) (HK.out.below hb) (HL.out.below hb) _ exL_eq)
  have H2 := Lib.hid (fun W (hb : Below w.heap.size w W) => parse_le exM W (by decide) (HK.out.below hb) (HL.out.below hb) 2 4 (congrArg Nat.cast ex_parse2.1) ex_parse2.2)
  have H3 := Lib.hid (fun W (hb : Below w.heap.size w W) => parse_le exN W (by decide) (HK.out.below hb) (HL.out.below hb) 1 3 (congrArg Nat.cast ex_parse3.1) ex_parse3.2)
  have D1 := Lib.hid (fun W (hb : Below w.heap.size w W) => data_is ⟨#[61, 97, 98]⟩ W (by decide) (HL.out.below hb) ⟨⟨#[97, 98]⟩, -1, 0⟩ (by kernel_rfl))
  have D2 := Lib.hid (fun W (hb : Below w.heap.size w W) => data_is ⟨#[64, 51]⟩ W (by decide) (HL.out.below hb) ⟨⟨#[]⟩, 3, 0⟩ (by kernel_rfl))
  have D3 := Lib.hid (fun W (hb : Below w.heap.size w W) => data_is ⟨#[97, 98]⟩ W (by decide) (HL.out.below hb) ⟨⟨#[]⟩, -1, 1⟩ (by kernel_rfl))
  have K1 := Lib.hid (fun W (hb : Below w.heap.size w W) => kind_is ⟨#[97, 117, 100, 105, 116]⟩ W (HK.out.below hb) 23 ex_kind)
  have K2 := Lib.hid (fun W (hb : Below w.heap.size w W) => kind_is ⟨#[]⟩ W (HK.out.below hb) 0 (by kernel_rfl))
  clear hK hL
  go_enter Tryz.func10, Tryz.ntmps10
  go_wp2_with fail
  refine (example_any w).mono ?_
  rintro e w1 ⟨vt, vs, rfl, hv, hB1⟩
  have PE := Lib.hid (HPr.out w1 _ hv hB1)
  have B1 := Lib.hid hB1
  clear hv hB1
  go_wp2_with fail
  refine PE.out.mono ?_
  rintro e w2 ⟨rfl, hB2⟩
  have B2 := Lib.hid (B1.out.trans (hB2.mono B1.out.size))
  clear hB2 B1 PE
  go_wp2_with fail
  refine (H1.out w2 B2.out).mono ?_
  rintro e w3 ⟨A1, n1, c1, A2, n2, c2, rfl, hs3, hB3⟩
  have B3 := Lib.hid (B2.out.trans (hB3.mono B2.out.size))
  have S3 := Lib.hid hs3
  clear hB3 B2 hs3 H1
  go_upto_region 3 with fail
  refine world_is (P := fun W => Code.wp _ _ _ _ W) (fun W4 hW4 => ?_)
  have hb : Below w3.heap.size w3 W4 := by rw [← hW4]; exact (Below.refl _ _).alloc (Nat.le_refl _) _
  have X4 : Hid (Blk W4 w3.heap.size 25 #[.slice A1 n1 c1, .slice A2 n2 c2]) := by unfold Hid; rw [← hW4]; exact Blk.new _ _ _
  have S4 := Lib.hid ((S3.out.below hb).mono hb.size)
  have B4 := Lib.hid (B3.out.trans (hb.mono B3.out.size))
  obtain ⟨g, hg⟩ : ∃ g, w3.heap.size = g := ⟨_, rfl⟩
  rw [hg] at X4 ⊢
  clear hW4 hb hg S3 B3
  go_wp2_with fail
  refine (H2.out W4 B4.out).mono ?_
  rintro e w5 ⟨A4, n4, c4, A4', n4', c4', rfl, hbel⟩
  have B5 := Lib.hid (B4.out.trans (hbel.mono B4.out.size))
  have S5 := Lib.hid ((S4.out.below hbel).mono hbel.size)
  have X5 := Lib.hid (X4.out.below hbel X4.out.lt)
  clear B4 S4 X4 hbel
  clear H2
  go_upto_region 4 with fail
  refine world_is (P := fun W => Code.wp _ _ _ _ W) (fun W6 hW => ?_)
  have hbel : Below w5.heap.size w5 W6 := by rw [← hW]; exact (Below.refl _ _).alloc (Nat.le_refl _) _
  clear hW
  have B6 := Lib.hid (B5.out.trans (hbel.mono B5.out.size))
  have S6 := Lib.hid ((S5.out.below hbel).mono hbel.size)
  have X6 := Lib.hid (X5.out.below hbel X5.out.lt)
  clear B5 S5 X5 hbel
  go_wp2_with fail
  refine (H3.out W6 B6.out).mono ?_
  rintro e w7 ⟨A6, n6, c6, A6', n6', c6', rfl, hbel⟩
  have B7 := Lib.hid (B6.out.trans (hbel.mono B6.out.size))
  have S7 := Lib.hid ((S6.out.below hbel).mono hbel.size)
  have X7 := Lib.hid (X6.out.below hbel X6.out.lt)
  clear B6 S6 X6 hbel
  clear H3
  go_upto_region 5 with fail
  refine world_is (P := fun W => Code.wp _ _ _ _ W) (fun W8 hW => ?_)
  have hbel : Below w7.heap.size w7 W8 := by rw [← hW]; exact (Below.refl _ _).alloc (Nat.le_refl _) _
  clear hW
  have B8 := Lib.hid (B7.out.trans (hbel.mono B7.out.size))
  have S8 := Lib.hid ((S7.out.below hbel).mono hbel.size)
  have X8 := Lib.hid (X7.out.below hbel X7.out.lt)
  clear B7 S7 X7 hbel
  go_wp2_with fail
  refine (D1.out W8 B8.out).mono ?_
  rintro e w9 ⟨rfl, hbel⟩
  have B9 := Lib.hid (B8.out.trans (hbel.mono B8.out.size))
  have S9 := Lib.hid ((S8.out.below hbel).mono hbel.size)
  have X9 := Lib.hid (X8.out.below hbel X8.out.lt)
  clear B8 S8 X8 hbel
  clear D1
  go_wp2_with fail
  refine (D2.out w9 B9.out).mono ?_
  rintro e w10 ⟨rfl, hbel⟩
  have B10 := Lib.hid (B9.out.trans (hbel.mono B9.out.size))
  have S10 := Lib.hid ((S9.out.below hbel).mono hbel.size)
  have X10 := Lib.hid (X9.out.below hbel X9.out.lt)
  clear B9 S9 X9 hbel
  clear D2
  go_wp2_with fail
  refine (D3.out w10 B10.out).mono ?_
  rintro e w11 ⟨rfl, hbel⟩
  have B11 := Lib.hid (B10.out.trans (hbel.mono B10.out.size))
  have S11 := Lib.hid ((S10.out.below hbel).mono hbel.size)
  have X11 := Lib.hid (X10.out.below hbel X10.out.lt)
  clear B10 S10 X10 hbel
  clear D3
  go_wp2_with fail
  refine (K1.out w11 B11.out).mono ?_
  rintro e w12 ⟨rfl, hbel⟩
  have B12 := Lib.hid (B11.out.trans (hbel.mono B11.out.size))
  have S12 := Lib.hid ((S11.out.below hbel).mono hbel.size)
  have X12 := Lib.hid (X11.out.below hbel X11.out.lt)
  clear B11 S11 X11 hbel
  clear K1
  go_wp2_with fail
  refine (K2.out w12 B12.out).mono ?_
  rintro e w13 ⟨rfl, hbel⟩
  have B13 := Lib.hid (B12.out.trans (hbel.mono B12.out.size))
  have S13 := Lib.hid ((S12.out.below hbel).mono hbel.size)
  have X13 := Lib.hid (X12.out.below hbel X12.out.lt)
  clear B12 S12 X12 hbel
  clear K2
  go_wp2_with fail
  refine world_is (P := fun W => Calls _ _ _ W _) (fun W14 hW => ?_)
  obtain ⟨q, hq⟩ : ∃ q, w13.heap.size = q := ⟨_, rfl⟩
  have hbel : Below w13.heap.size w13 W14 := by rw [← hW]; exact ((Below.refl _ _).alloc (Nat.le_refl _) _).alloc (by rw [World.size_alloc]; omega) _
  have R1 : Blk W14 q 3 (intsC [5]).toArray := by rw [← hW, ← hq]; exact (Blk.new _ _ _).alloc _
  have R2 : Blk W14 (q + 1) 53 (stepsC exC.steps [.slice (some ⟨q, 0, none⟩) 1 1, .slice none 0 0]).toArray := by
    rw [← hW, ← hq]
    have h := Blk.new (w13.alloc (.cells #[.int .i64 5] 3)) 53 #[.int .i64 10, .slice (some ⟨w13.heap.size, 0, none⟩) 1 1, .string ⟨#[]⟩, .int .i64 10, .slice none 0 0, .string ⟨#[]⟩]
    rw [World.size_alloc] at h
    exact h
  have HCh := chk_ex R1 R2 (HK.out.below (B13.out.trans (hbel.mono B13.out.size))) (HL.out.below (B13.out.trans (hbel.mono B13.out.size)))
  rw [hq]
  clear hW R1 R2 hq
  have B14 := Lib.hid (B13.out.trans (hbel.mono B13.out.size))
  have S14 := Lib.hid ((S13.out.below hbel).mono hbel.size)
  have X14 := Lib.hid (X13.out.below hbel X13.out.lt)
  clear B13 S13 X13 hbel
  refine HCh.mono ?_
  rintro e w15 ⟨rfl, hbel⟩
  have B15 := Lib.hid (B14.out.trans (hbel.mono B14.out.size))
  have S15 := Lib.hid ((S14.out.below hbel).mono hbel.size)
  have X15 := Lib.hid (X14.out.below hbel X14.out.lt)
  clear B14 S14 X14 hbel
  clear HCh
  have x0 := X15.out.cell 0
  have x1 := X15.out.cell 1
  go_wp2_with fail
  have hC : Hid (∀ W, Below w15.heap.size w15 W → W.cell? ⟨g, 0, none⟩ = some (.slice A1 n1 c1) ∧ W.cell? ⟨g, 1, none⟩ = some (.slice A2 n2 c2)) := fun W h => ⟨(X15.out.below h X15.out.lt).cell 0, (X15.out.below h X15.out.lt).cell 1⟩
  have hRS := Lib.hid same_ex
  have hPS := Lib.hid psame_ex
  have hPN := Lib.hid psame_no
  have hN1 := Lib.hid (fun W (hb : Below w.heap.size w W) => by have h := Name_any 23 W (HK.out.below hb); rw [ex_name] at h; exact h)
  have hN2 := Lib.hid (fun W (hb : Below w.heap.size w W) => by have h := Name_any 24 W (HK.out.below hb); rw [ex_name2] at h; exact h)
  clear x0 x1
  refine wp_region_any (by kernel_rfl) ?_
  refine world_is (P := fun W => wpAny _ _ _ _ _ _ _ W) (fun W0 hW => ?_)
  have b0 : Below w15.heap.size w15 W0 := by rw [← hW]; exact (Below.refl _ _).drew
  clear hW
  refine Seg.run (i := 0) (n := 7) (fuel := 95) (m := 102) (by kernel_rfl) (by kernel_rfl) (by kernel_rfl) (by kernel_rfl) (fun Q2 hQ2 => ?_)
  simp only [List.drop_zero]
  go_wp2_with fail
  refine hQ2.out _ _ ?_
  clear hQ2 Q2
  try simp only [Act.put, List.setIfInBounds_toArray, List.set_cons_zero, List.set_cons_succ, List.getElem_toArray, List.getElem_cons_zero, List.getElem_cons_succ]
  refine' Seg.pair (i := 7) (j := 8) (fuel := 93) (listed2 := Seg.front 9 102) (v := ?va) (S := fun w' => Below w15.heap.size w15 w' ∧ w'.cell? ⟨g, 0, none⟩ = some (.slice A1 n1 c1) ∧ w'.cell? ⟨g, 1, none⟩ = some (.slice A2 n2 c2)) (by kernel_rfl) rfl rfl (by kernel_rfl) (by kernel_rfl) (by kernel_rfl) (by kernel_rfl) (by kernel_rfl) (by kernel_rfl) (by decide) (fun _ _ _ h => h) (Or.inl ⟨by rfl, ?hya⟩) ⟨b0, (hC.out _ b0).1, (hC.out _ b0).2⟩ (fun K hK => ?resta)
  case hya => intro w hSw; (try dsimp only at hSw); go_simp; all_goals with_reducible rfl
  go_simp
  go_at_call 30
  refine (example_any _).mono ?_
  rintro e w21 ⟨vt1, vs1, rfl, hE1, hb⟩
  have b1 : Below w15.heap.size w15 w21 := b0.trans (hb.mono b0.size)
  have hE1H := Lib.hid hE1
  clear hE1 hb
  (try go_wp2_with fail)
  refine hK.out _ _ ⟨b1, (hC.out _ b1).1, (hC.out _ b1).2⟩ ?_
  clear hK K
  try simp only [Act.put, List.setIfInBounds_toArray, List.set_cons_zero, List.set_cons_succ, List.getElem_toArray, List.getElem_cons_zero, List.getElem_cons_succ]
  refine Seg.run (i := 9) (n := 82) (fuel := 11) (m := 102) (by kernel_rfl) (by kernel_rfl) (by kernel_rfl) (by kernel_rfl) (fun Q2 hQ2 => ?_)
  simp only []
  go_wp2_with fail
  refine (hRS.out _ _ _ ((S15.out.below b1).mono b1.size) hE1H.out).mono ?_
  rintro e w22 ⟨rfl, hb⟩
  have b2 : Below w15.heap.size w15 w22 := b1.trans (hb.mono b1.size)
  clear hb
  go_wp2_with fail
  refine (hN1.out _ (B15.out.trans (b2.mono B15.out.size))).mono ?_
  rintro e w23 ⟨rfl, hw⟩
  have b3 : Below w15.heap.size w15 w23 := by rw [hw]; exact b2
  clear hw
  go_wp2_with fail
  refine (hN2.out _ (B15.out.trans (b3.mono B15.out.size))).mono ?_
  rintro e w24 ⟨rfl, hw⟩
  have b4 : Below w15.heap.size w15 w24 := by rw [hw]; exact b3
  clear hw
  go_wp2_with fail
  refine hQ2.out _ _ ?_
  clear hQ2 Q2
  try simp only [Act.put, List.setIfInBounds_toArray, List.set_cons_zero, List.set_cons_succ, List.getElem_toArray, List.getElem_cons_zero, List.getElem_cons_succ]
  refine' Seg.pair (i := 91) (j := 92) (fuel := 9) (listed2 := Seg.front 93 102) (v := ?vb) (S := fun w' => Below w15.heap.size w15 w' ∧ w'.cell? ⟨g, 0, none⟩ = some (.slice A1 n1 c1) ∧ w'.cell? ⟨g, 1, none⟩ = some (.slice A2 n2 c2)) (by kernel_rfl) rfl rfl (by kernel_rfl) (by kernel_rfl) (by kernel_rfl) (by kernel_rfl) (by kernel_rfl) (by kernel_rfl) (by decide) (fun _ _ _ h => h) (Or.inl ⟨by rfl, ?hyb⟩) ⟨b4, (hC.out _ b4).1, (hC.out _ b4).2⟩ (fun K hK => ?restb)
  case hyb => intro w hSw; (try dsimp only at hSw); go_simp; all_goals with_reducible rfl
  go_simp
  go_at_call 30
  refine (example_any _).mono ?_
  rintro e w25 ⟨vt2, vs2, rfl, hE2, hb⟩
  have b5 : Below w15.heap.size w15 w25 := b4.trans (hb.mono b4.size)
  have hE2H := Lib.hid hE2
  clear hE2 hb
  (try go_wp2_with fail)
  refine hK.out _ _ ⟨b5, (hC.out _ b5).1, (hC.out _ b5).2⟩ ?_
  clear hK K
  try simp only [Act.put, List.setIfInBounds_toArray, List.set_cons_zero, List.set_cons_succ, List.getElem_toArray, List.getElem_cons_zero, List.getElem_cons_succ]
  refine Seg.run (i := 93) (n := 3) (fuel := 6) (m := 102) (by kernel_rfl) (by kernel_rfl) (by kernel_rfl) (by kernel_rfl) (fun Q2 hQ2 => ?_)
  simp only []
  go_wp2_with fail
  refine (hPS.out _ _ _ ((S15.out.below b5).mono b5.size) hE2H.out).mono ?_
  rintro e w26 ⟨rfl, hb⟩
  have b6 : Below w15.heap.size w15 w26 := b5.trans (hb.mono b5.size)
  clear hb
  go_wp2_with fail
  refine hQ2.out _ _ ?_
  clear hQ2 Q2
  try simp only [Act.put, List.setIfInBounds_toArray, List.set_cons_zero, List.set_cons_succ, List.getElem_toArray, List.getElem_cons_zero, List.getElem_cons_succ]
  refine' Seg.pair (i := 96) (j := 97) (fuel := 4) (listed2 := Seg.front 98 102) (v := ?vc) (S := fun w' => Below w15.heap.size w15 w' ∧ w'.cell? ⟨g, 0, none⟩ = some (.slice A1 n1 c1) ∧ w'.cell? ⟨g, 1, none⟩ = some (.slice A2 n2 c2)) (by kernel_rfl) rfl rfl (by kernel_rfl) (by kernel_rfl) (by kernel_rfl) (by kernel_rfl) (by kernel_rfl) (by kernel_rfl) (by decide) (fun _ _ _ h => h) (Or.inl ⟨by rfl, ?hyc⟩) ⟨b6, (hC.out _ b6).1, (hC.out _ b6).2⟩ (fun K hK => ?restc)
  case hyc => intro w hSw; (try dsimp only at hSw); go_simp; all_goals with_reducible rfl
  go_simp
  (try go_wp2_with fail)
  refine hK.out _ _ ⟨b6, (hC.out _ b6).1, (hC.out _ b6).2⟩ ?_
  clear hK K
  try simp only [Act.put, List.setIfInBounds_toArray, List.set_cons_zero, List.set_cons_succ, List.getElem_toArray, List.getElem_cons_zero, List.getElem_cons_succ]
  refine Seg.run (i := 98) (n := 4) (fuel := 0) (m := 102) (by kernel_rfl) (by kernel_rfl) (by kernel_rfl) (by kernel_rfl) (fun Q2 hQ2 => ?_)
  simp only []
  go_wp2_with fail
  refine (hPN.out _ _ ((S15.out.below b6).mono b6.size)).mono ?_
  rintro e w27 ⟨rfl, hb⟩
  have b7 : Below w15.heap.size w15 w27 := b6.trans (hb.mono b6.size)
  clear hb
  go_wp2_with fail
  refine hQ2.out _ _ ?_
  clear hQ2 Q2
  try simp only [Act.put, List.setIfInBounds_toArray, List.set_cons_zero, List.set_cons_succ, List.getElem_toArray, List.getElem_cons_zero, List.getElem_cons_succ]
  refine ⟨by kernel_rfl, ?_⟩
  go_wp2_with fail
  go_ret
  exact ⟨rfl, B15.out.trans (b7.mono B15.out.size)⟩
end Go.Proofs.YtldkfhimpkiigaaGreatDoor
