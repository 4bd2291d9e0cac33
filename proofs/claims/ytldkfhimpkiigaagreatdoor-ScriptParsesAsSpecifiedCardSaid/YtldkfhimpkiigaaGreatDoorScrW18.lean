/-
  Layer 46 (script): the program's Same.
-/
import Derived.Test.YtldkfhimpkiigaaGreatDoorScrW16
namespace Go.Proofs.YtldkfhimpkiigaaGreatDoor
open Go.RowKit ScrP
attribute [local go_sem] Oper.semAt_some

/-- slices.Equal of numbers, wherever the rows lie. -/
theorem eqInts_any (l m : List Int) (u v : Value) (B : Nat) (w : World) (hu : RowAt w B u l.length (intsC l)) (hv : RowAt w B v m.length (intsC m)) (hl : l.length ≤ 17592186044416) (hm : m.length ≤ 17592186044416) :
    Calls Tryz.prog 50 #[u, v] w fun e w' => e = .returned (.bool (decide (l = m))) ∧ ∃ q, w' = w.drewN q := by
  obtain ⟨Au, cu, rfl, h1⟩ := hu
  obtain ⟨Av, cv, rfl, h2⟩ := hv
  by_cases h0 : l.length = 0
  · refine (show Calls Tryz.prog 50 #[.slice Au l.length cu, .slice Av m.length cv] w _ from ?_)
    have hl0 := List.eq_nil_of_length_eq_zero h0
    subst hl0
    refine (Tryz.slices_Equal_int_empty Au Av cu m.length cv w (by omega)).mono ?_
    rintro e w' ⟨rfl, rfl⟩
    refine ⟨?_, 0, rfl⟩
    cases m <;> simp
  · by_cases hlm : l.length = m.length
    · obtain ⟨b1, o1, rfl, _, c1⟩ := h1 (by omega)
      obtain ⟨b2, o2, rfl, _, c2⟩ := h2 (by omega)
      refine (Tryz.slices_Equal_int b1 o1 l.length cu b2 o2 m.length cv l m w (Nat.le_refl _) (Nat.le_refl _) (by omega) (by omega) (fun j hj => ?_) (fun j hj => ?_)).mono ?_
      · exact c1 j _ (by unfold intsC; rw [List.getElem?_map, List.getElem?_eq_getElem hj, List.getD_eq_getElem?_getD, List.getElem?_eq_getElem hj]; rfl)
      · exact c2 j _ (by unfold intsC; rw [List.getElem?_map, List.getElem?_eq_getElem hj, List.getD_eq_getElem?_getD, List.getElem?_eq_getElem hj]; rfl)
      · rintro e w' ⟨rfl, hq⟩
        refine ⟨?_, hq⟩
        rw [List.take_length, List.take_length, Bool.beq_eq_decide_eq]
    · refine (Tryz.slices_Equal_int_lens Au Av l.length cu m.length cv w hlm).mono ?_
      rintro e w' ⟨rfl, rfl⟩
      exact ⟨by rw [decide_eq_false (fun e => hlm (by rw [e]))], 0, rfl⟩
theorem eqStrs_any (l m : List ByteArray) (u v : Value) (B : Nat) (w : World) (hu : RowAt w B u l.length (strsC l)) (hv : RowAt w B v m.length (strsC m)) (hl : l.length ≤ 17592186044416) (hm : m.length ≤ 17592186044416) :
    Calls Tryz.prog 51 #[u, v] w fun e w' => e = .returned (.bool (decide (l = m))) ∧ ∃ q, w' = w.drewN q := by
  obtain ⟨Au, cu, rfl, h1⟩ := hu
  obtain ⟨Av, cv, rfl, h2⟩ := hv
  by_cases h0 : l.length = 0
  · have hl0 := List.eq_nil_of_length_eq_zero h0
    subst hl0
    refine (Tryz.slices_Equal_string_empty Au Av cu m.length cv w (by omega)).mono ?_
    rintro e w' ⟨rfl, rfl⟩
    refine ⟨?_, 0, rfl⟩
    cases m <;> simp
  · by_cases hlm : l.length = m.length
    · obtain ⟨b1, o1, rfl, _, c1⟩ := h1 (by omega)
      obtain ⟨b2, o2, rfl, _, c2⟩ := h2 (by omega)
      refine (Tryz.slices_Equal_string b1 o1 l.length cu b2 o2 m.length cv l m w (Nat.le_refl _) (Nat.le_refl _) (by omega) (by omega) (fun j hj => ?_) (fun j hj => ?_)).mono ?_
      · exact c1 j _ (by unfold strsC; rw [List.getElem?_map, List.getElem?_eq_getElem hj, List.getD_eq_getElem?_getD, List.getElem?_eq_getElem hj]; rfl)
      · exact c2 j _ (by unfold strsC; rw [List.getElem?_map, List.getElem?_eq_getElem hj, List.getD_eq_getElem?_getD, List.getElem?_eq_getElem hj]; rfl)
      · rintro e w' ⟨rfl, hq⟩
        refine ⟨?_, hq⟩
        rw [List.take_length, List.take_length]
    · refine (Tryz.slices_Equal_string_lens Au Av l.length cu m.length cv w hlm).mono ?_
      rintro e w' ⟨rfl, rfl⟩
      exact ⟨by rw [decide_eq_false (fun e => hlm (by rw [e]))], 0, rfl⟩
set_option maxRecDepth 100000 in
set_option maxHeartbeats 12800000 in
/-- Two steps are the same. -/
theorem sameC_any (x y : Stp) (u v : Value) (B : Nat) (w : World) (hu : RowAt w B u x.args.length (intsC x.args)) (hv : RowAt w B v y.args.length (intsC y.args)) (hB : B ≤ w.heap.size) (hx : StpIn x) (hy : StpIn y) :
    Calls Tryz.prog 49 #[.agg #[.int .i64 x.kind, u, .string x.text], .agg #[.int .i64 y.kind, v, .string y.text]] w fun e w' => e = .returned (.bool (decide (x = y))) ∧ Below w.heap.size w w' := by
  obtain ⟨Au, cu, rfl, _⟩ := id hu
  obtain ⟨Av, cv, rfl, _⟩ := id hv
  have hSI := Lib.hid (fun (W : World) (h : Below w.heap.size w W) => eqInts_any x.args y.args _ _ B W (hu.below (h.mono hB)) (hv.below (h.mono hB)) hx.nargs hy.nargs)
  have hsd := stp_dec x y
  obtain ⟨N, hN⟩ : ∃ n, x.args.length = n := ⟨_, rfl⟩
  obtain ⟨M, hM⟩ : ∃ n, y.args.length = n := ⟨_, rfl⟩
  rw [hN, hM] at hSI ⊢
  have hnx : N ≤ 17592186044416 := by rw [← hN]; exact hx.nargs
  have hny : M ≤ 17592186044416 := by rw [← hM]; exact hy.nargs
  have hF := Lib.hid hsd
  obtain ⟨kx, hkx⟩ : ∃ z, x.kind = z := ⟨_, rfl⟩
  obtain ⟨ky, hky⟩ : ∃ z, y.kind = z := ⟨_, rfl⟩
  obtain ⟨tx, htx⟩ : ∃ z, x.text = z := ⟨_, rfl⟩
  obtain ⟨ty, hty⟩ : ∃ z, y.text = z := ⟨_, rfl⟩
  obtain ⟨ax, hax⟩ : ∃ z, decide (x.args = y.args) = z := ⟨_, rfl⟩
  rw [hkx, hky, htx, hty, hax] at hF
  rw [hkx, hky, htx, hty]
  rw [hax] at hSI
  clear hsd hkx hky htx hty hax hu hv hN hM hx hy hB
  go_enter Tryz.func49, Tryz.ntmps49
  go_upto_region 1 with fail
  refine world_is (P := fun W => Code.wp _ _ _ _ W) (fun W1 hW1 => ?_)
  have B1 : Hid (Below w.heap.size w W1) := by unfold Hid; rw [← hW1]; exact ((Below.refl _ _).alloc (Nat.le_refl _) _).alloc (by rw [World.size_alloc]; omega) _
  have X1 : Hid (Blk W1 w.heap.size 53 #[.int .i64 kx, .slice Au N cu, .string tx]) := by unfold Hid; rw [← hW1]; exact (Blk.new _ _ _).alloc _
  have Y1 : Hid (Blk W1 (w.alloc (.cells #[.int .i64 kx, .slice Au N cu, .string tx] 53)).heap.size 53 #[.int .i64 ky, .slice Av M cv, .string ty]) := by unfold Hid; rw [← hW1]; exact Blk.new _ _ _
  rw [World.size_alloc] at Y1
  obtain ⟨g, hg⟩ : ∃ g, w.heap.size = g := ⟨_, rfl⟩
  rw [hg] at X1 Y1 ⊢
  have hgH := Lib.hid hg
  clear hW1 hg
  have x0 := X1.out.cell 0
  have x1 := X1.out.cell 1
  have x2 := X1.out.cell 2
  have y0 := Y1.out.cell 0
  have y1 := Y1.out.cell 1
  have y2 := Y1.out.cell 2
  by_cases hk1 : kx = ky
  case neg =>
    have d4 : (kx == ky) = false := beq_eq_false_iff_ne.2 hk1
    have hR : Hid (decide (x = y) = false) := by unfold Hid; rw [hF.out, decide_eq_false hk1]; rfl
    clear hk1 hSI
    go_wp2_with fail
    go_ret
    exact ⟨by rw [hR.out]; rfl, B1.out⟩
  case pos =>
  subst hk1
  by_cases ht1 : tx = ty
  case neg =>
    have d3 : (tx.toList == ty.toList) = false := by
      cases e : (tx.toList == ty.toList) with
      | false => rfl
      | true => exact absurd (text_eq_iff.1 e) ht1
    have hR : Hid (decide (x = y) = false) := by unfold Hid; rw [hF.out, decide_eq_false ht1]; simp
    clear ht1 hSI
    go_wp2_with fail
    go_ret
    exact ⟨by rw [hR.out]; rfl, B1.out⟩
  case pos =>
  subst ht1
  have hR : Hid (decide (x = y) = ax) := by unfold Hid; rw [hF.out]; simp
  go_wp2_with fail
  refine (hSI.out _ B1.out).mono ?_
  rintro e w2 ⟨rfl, q, hq⟩
  have B2 : Hid (Below w.heap.size w w2) := by unfold Hid; rw [hq]; exact bel_drewN B1.out _
  clear hq
  cases ax
  all_goals
    go_wp2_with fail
    go_ret
    exact ⟨by rw [hR.out]; rfl, B2.out⟩
set_option maxRecDepth 100000 in
set_option maxHeartbeats 12800000 in
theorem eqSteps_any (xs ys : List Stp) (u v : Value) (B : Nat) (w : World) (hu : StepsAt w B u xs) (hv : StepsAt w B v ys) (hB : B ≤ w.heap.size) (hx : xs.length ≤ 17592186044416) (hy : ys.length ≤ 17592186044416) (hxi : ∀ x ∈ xs, StpIn x) (hyi : ∀ y ∈ ys, StpIn y) :
    Calls Tryz.prog 52 #[u, v, .func (.func 49) #[] #[]] w fun e w' => e = .returned (.bool (decide (xs = ys))) ∧ Below w.heap.size w w' := by
  have HU := Lib.hid hu
  have HV := Lib.hid hv
  obtain ⟨_, _, ⟨Au, cu, rfl, _⟩, _⟩ := hu
  obtain ⟨_, _, ⟨Av, cv, rfl, _⟩, _⟩ := hv
  have hBH := Lib.hid hB
  have HXI := Lib.hid hxi
  have HYI := Lib.hid hyi
  obtain ⟨N, hN⟩ : ∃ n, xs.length = n := ⟨_, rfl⟩
  obtain ⟨M, hM⟩ : ∃ n, ys.length = n := ⟨_, rfl⟩
  rw [hN] at HU hx
  rw [hM] at HV hy
  rw [hN, hM]
  have hNH := Lib.hid hN
  have hMH := Lib.hid hM
  clear hN hM hB hxi hyi
  by_cases hlen : N = M
  case neg =>
    have hF : Hid (decide (xs = ys) = false) := decide_eq_false (fun e => hlen (by rw [← hNH.out, ← hMH.out, e]))
    have d1 : ((N : Int) != (M : Int)) = true := by rw [bne_iff_ne]; omega
    have d2 : (N != M) = true := by rw [bne_iff_ne]; exact hlen
    clear hlen
    go_enter Tryz.func52, Tryz.ntmps52
    go_wp2_with fail
    go_ret
    exact ⟨by rw [hF.out]; rfl, Below.refl _ _⟩
  case pos =>
  subst hlen
  go_enter Tryz.func52, Tryz.ntmps52
  go_wp2_with fail
  go_loopw [17] (fun a wr => ∃ k : Nat, k ≤ N ∧ a = .int .i64 (k : Int) ∧ Hid (decide (xs = ys) = decide (xs.drop k = ys.drop k)) ∧ Hid (Below w.heap.size w wr)) (fun a _ => N - (intOf a).toNat)
  case atStart => exact ⟨0, Nat.zero_le _, rfl, rfl, Below.refl _ _⟩
  case round =>
  obtain ⟨k, hk, rfl, hE, B1⟩ := hrel
  obtain ⟨w1, rfl⟩ : ∃ z, z = wr := ⟨_, rfl⟩
  by_cases hkl : k < N
  case neg =>
    have d1 : decide (k < N) = false := decide_eq_false hkl
    have d2 : decide ((k : Int) < (N : Int)) = false := decide_eq_false (by omega)
    have hT : Hid (decide (xs = ys) = true) := by unfold Hid; rw [hE.out, List.drop_eq_nil_of_le (by rw [hNH.out]; omega), List.drop_eq_nil_of_le (by rw [hMH.out]; omega)]; rfl
    clear hkl
    go_wp2_with fail
    go_ret
    exact ⟨by rw [hT.out]; rfl, B1.out⟩
  case pos =>
  have d1 : decide (k < N) = true := decide_eq_true hkl
  have d2 : decide ((k : Int) < (N : Int)) = true := decide_eq_true (by omega)
  obtain ⟨x, hx⟩ : ∃ z, xs[k]? = some z := ⟨_, List.getElem?_eq_getElem (by rw [hNH.out]; exact hkl)⟩
  obtain ⟨y, hy⟩ : ∃ z, ys[k]? = some z := ⟨_, List.getElem?_eq_getElem (by rw [hMH.out]; exact hkl)⟩
  obtain ⟨gu, ou, xu, rfl, hgu, cu0, cu1, cu2, hru⟩ := HU.out.some_ hNH.out hx
  obtain ⟨gv, ov, yv, rfl, hgv, cv0, cv1, cv2, hrv⟩ := HV.out.some_ hMH.out hy
  obtain ⟨ua, uc, rfl, _⟩ := id hru
  obtain ⟨va, vc, rfl, _⟩ := id hrv
  have c0 := (B1.out.cell (p := ⟨gu, _, none⟩) (Nat.lt_of_lt_of_le hgu hBH.out)).trans cu0
  have c1 := (B1.out.cell (p := ⟨gu, _, none⟩) (Nat.lt_of_lt_of_le hgu hBH.out)).trans cu1
  have c2 := (B1.out.cell (p := ⟨gu, _, none⟩) (Nat.lt_of_lt_of_le hgu hBH.out)).trans cu2
  have hgvw : Hid (gv < w.heap.size) := Nat.lt_of_lt_of_le hgv hBH.out
  have HC0 := Lib.hid cv0
  have HC1 := Lib.hid cv1
  have HC2 := Lib.hid cv2
  have hSC := Lib.hid (fun (W : World) (h : Below w.heap.size w W) => sameC_any x y _ _ B W (hru.below (h.mono hBH.out)) (hrv.below (h.mono hBH.out)) (Nat.le_trans hBH.out h.size) (HXI.out x (List.mem_of_getElem? hx)) (HYI.out y (List.mem_of_getElem? hy)))
  have hst := Lib.hid (drop_dec hx hy)
  have hkH := Lib.hid hkl
  have q0 : (0 : Int) ≤ (k : Int) := by omega
  have q1 : (k : Int) < (N : Int) := by omega
  have q2 : (N : Int) ≤ 17592186044416 := by omega
  obtain ⟨nx, hnx⟩ : ∃ n, x.args.length = n := ⟨_, rfl⟩
  obtain ⟨ny, hny⟩ : ∃ n, y.args.length = n := ⟨_, rfl⟩
  rw [hnx] at c1
  rw [hny] at HC1
  rw [hnx, hny] at hSC
  clear hx hy hru hrv cu0 cu1 cu2 cv0 cv1 cv2 hkl hk hgu hgv hnx hny
  go_upto_region 6 with fail
  refine world_is (P := fun W => Code.wp _ _ _ _ W) (fun W2 hW2 => ?_)
  have hb2 : Below w1.heap.size w1 W2 := by rw [← hW2]; exact (Below.refl _ _).alloc (Nat.le_refl _) _
  have E2 : Hid (Blk W2 w1.heap.size 53 #[.int .i64 x.kind, .slice ua nx uc, .string x.text]) := by unfold Hid; rw [← hW2]; exact Blk.new _ _ _
  have B2 := Lib.hid (B1.out.trans (hb2.mono B1.out.size))
  obtain ⟨a, ea⟩ : ∃ z, w1.heap.size = z := ⟨_, rfl⟩
  rw [ea] at E2 ⊢
  clear hW2 hb2 ea B1 c0 c1 c2
  have c0 := (B2.out.cell (p := ⟨gv, _, none⟩) hgvw.out).trans HC0.out
  have c1 := (B2.out.cell (p := ⟨gv, _, none⟩) hgvw.out).trans HC1.out
  have c2 := (B2.out.cell (p := ⟨gv, _, none⟩) hgvw.out).trans HC2.out
  go_upto_region 7 with fail
  refine world_is (P := fun W => Code.wp _ _ _ _ W) (fun W3 hW3 => ?_)
  have hb3 : Below W2.heap.size W2 W3 := by rw [← hW3]; exact (Below.refl _ _).alloc (Nat.le_refl _) _
  have F3 : Hid (Blk W3 W2.heap.size 53 #[.int .i64 y.kind, .slice va ny vc, .string y.text]) := by unfold Hid; rw [← hW3]; exact Blk.new _ _ _
  have E3 := Lib.hid (E2.out.below hb3 E2.out.lt)
  have B3 := Lib.hid (B2.out.trans (hb3.mono B2.out.size))
  obtain ⟨b, eb⟩ : ∃ z, W2.heap.size = z := ⟨_, rfl⟩
  rw [eb] at F3 ⊢
  clear hW3 hb3 eb B2 E2 c0 c1 c2
  have x0 := E3.out.cell 0
  have x1 := E3.out.cell 1
  have x2 := E3.out.cell 2
  have y0 := F3.out.cell 0
  have y1 := F3.out.cell 1
  have y2 := F3.out.cell 2
  have HC := Lib.hid (hSC.out W3 B3.out)
  obtain ⟨r, hr⟩ : ∃ r, decide (x = y) = r := ⟨_, rfl⟩
  rw [hr] at HC hst
  clear hr hSC
  go_wp2_with fail
  refine HC.out.mono ?_
  rintro e w4 ⟨rfl, hB4⟩
  have B4 := Lib.hid (B3.out.trans (hB4.mono B3.out.size))
  clear hB4 x0 x1 x2 y0 y1 y2 E3 F3 B3 HC
  cases r
  case false =>
    have hF : Hid (decide (xs = ys) = false) := by unfold Hid; rw [hE.out, hst.out]; rfl
    go_wp2_with fail
    go_ret
    exact ⟨by rw [hF.out]; rfl, B4.out⟩
  case true =>
    go_wp2_with fail
    go_roundw
    case rel => exact ⟨k + 1, hkH.out, by go_num, by unfold Hid; rw [hE.out, hst.out]; rfl, B4.out⟩
    case measure => have := hkH.out; simp [intOf]; omega
set_option maxRecDepth 100000 in
set_option maxHeartbeats 12800000 in
theorem Same_any (s t : Scr) (u v : Value) (B : Nat) (w : World) (hu : ScrAt w B u s) (hv : ScrAt w B v t) (hB : B ≤ w.heap.size) (hs : ScrIn s) (ht : ScrIn t) :
    Calls Tryz.prog 21 #[u, v] w fun e w' => e = .returned (.bool (sameE s t)) ∧ Below w.heap.size w w' := by
  obtain ⟨ut, us, rfl, hut, hus⟩ := hu
  obtain ⟨vt, vs, rfl, hvt, hvs⟩ := hv
  have H1 := Lib.hid (fun (W : World) (h : Below w.heap.size w W) => eqStrs_any s.texts t.texts ut vt B W (hut.below (h.mono hB)) (hvt.below (h.mono hB)) hs.nt ht.nt)
  have H2 := Lib.hid (fun (W : World) (h : Below w.heap.size w W) => eqSteps_any s.steps t.steps us vs B W (hus.below (h.mono hB)) (hvs.below (h.mono hB)) (Nat.le_trans hB h.size) hs.ns ht.ns hs.stp ht.stp)
  obtain ⟨Aut, cut, rfl, _⟩ := hut
  obtain ⟨_, _, ⟨Aus, cus, rfl, _⟩, _⟩ := hus
  obtain ⟨Avt, cvt, rfl, _⟩ := hvt
  obtain ⟨_, _, ⟨Avs, cvs, rfl, _⟩, _⟩ := hvs
  obtain ⟨T, hT⟩ : ∃ n, s.texts.length = n := ⟨_, rfl⟩
  obtain ⟨N, hN⟩ : ∃ n, s.steps.length = n := ⟨_, rfl⟩
  obtain ⟨T', hT'⟩ : ∃ n, t.texts.length = n := ⟨_, rfl⟩
  obtain ⟨N', hN'⟩ : ∃ n, t.steps.length = n := ⟨_, rfl⟩
  rw [hT, hT'] at H1
  rw [hN, hN'] at H2
  rw [hT, hN, hT', hN']
  have hF : Hid (sameE s t = (decide (s.texts = t.texts) && decide (s.steps = t.steps))) := rfl
  obtain ⟨b1, hb1⟩ : ∃ b, decide (s.texts = t.texts) = b := ⟨_, rfl⟩
  obtain ⟨b2, hb2⟩ : ∃ b, decide (s.steps = t.steps) = b := ⟨_, rfl⟩
  rw [hb1] at H1 hF
  rw [hb2] at H2 hF
  clear hT hN hT' hN' hs ht hb1 hb2 hB
  go_enter Tryz.func21, Tryz.ntmps21
  go_upto_region 1 with fail
  refine world_is (P := fun W => Code.wp _ _ _ _ W) (fun W1 hW1 => ?_)
  have B1 : Hid (Below w.heap.size w W1) := by unfold Hid; rw [← hW1]; exact ((Below.refl _ _).alloc (Nat.le_refl _) _).alloc (by rw [World.size_alloc]; omega) _
  have X1 : Hid (Blk W1 w.heap.size 25 #[.slice Aut T cut, .slice Aus N cus]) := by unfold Hid; rw [← hW1]; exact (Blk.new _ _ _).alloc _
  have Y1 : Hid (Blk W1 (w.alloc (.cells #[.slice Aut T cut, .slice Aus N cus] 25)).heap.size 25 #[.slice Avt T' cvt, .slice Avs N' cvs]) := by unfold Hid; rw [← hW1]; exact Blk.new _ _ _
  rw [World.size_alloc] at Y1
  obtain ⟨g, hg⟩ : ∃ g, w.heap.size = g := ⟨_, rfl⟩
  rw [hg] at X1 Y1 ⊢
  clear hW1 hg
  have x0 := X1.out.cell 0
  have y0 := Y1.out.cell 0
  go_wp2_with fail
  refine (H1.out _ B1.out).mono ?_
  rintro e w2 ⟨rfl, q, hq⟩
  have hb : Below W1.heap.size W1 w2 := by rw [hq]; exact bel_drewN (Below.refl _ _) _
  have B2 := Lib.hid (B1.out.trans (hb.mono B1.out.size))
  have X2 := Lib.hid (X1.out.below hb X1.out.lt)
  have Y2 := Lib.hid (Y1.out.below hb Y1.out.lt)
  clear hq hb x0 y0 X1 Y1 B1 H1
  have x1 := X2.out.cell 1
  have y1 := Y2.out.cell 1
  cases b1
  case false =>
    go_wp2_with fail
    go_ret
    exact ⟨by rw [hF.out]; rfl, B2.out⟩
  case true =>
    go_wp2_with fail
    refine (H2.out _ B2.out).mono ?_
    rintro e w3 ⟨rfl, hB3⟩
    have B3 := Lib.hid (B2.out.trans (hB3.mono B2.out.size))
    clear hB3
    cases b2
    all_goals
      go_wp2_with fail
      go_ret
      exact ⟨by rw [hF.out]; rfl, B3.out⟩
end Go.Proofs.YtldkfhimpkiigaaGreatDoor
