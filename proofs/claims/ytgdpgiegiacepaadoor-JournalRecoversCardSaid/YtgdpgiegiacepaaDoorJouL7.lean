/-
  Layer 25 (journal): the law of recovery. (Written by a small program.)
-/
import Derived.Test.YtgdpgiegiacepaaDoorJouL6
import Derived.Deep.CutBlock
namespace Go.Proofs.YtgdpgiegiacepaaDoor
open Go.RowKit Go.Shelf
open Sec (mostN countN)
attribute [local go_sem] Oper.semAt_some

section
variable {W : World}
set_option maxRecDepth 100000 in
set_option maxHeartbeats 1600000 in
theorem rec_bad (x : Int) (A : Option Addr) (N c : Nat) (U V : Array Value) (h : ¬ (2 ≤ x ∧ x ≤ 40 ∧ N ≤ 40)) :
    Calls Tryd.prog 4 #[.int .i64 x, .slice A N c, .agg U, .agg V] W fun e w' => e = .returned (.bool true) ∧ Below W.heap.size W w' := by
  have hB1 := (Below.refl _ W).alloc (Nat.le_refl _) (.cells U 30)
  have hB2 := hB1.alloc hB1.size (.cells V 30)
  have HB := Lib.hid hB2
  have HS := Lib.hid (sanity_true ((W.alloc (.cells U 30)).alloc (.cells V 30)))
  clear hB1 hB2
  by_cases h1 : x < 2
  · have d1 : decide (x < 2) = true := decide_eq_true h1
    clear h h1
    go_enter Tryd.func4, Tryd.ntmps4
    go_wp2_with (first | (go_at_call 6; refine HS.out.mono ?_; rintro e w1 ⟨rfl, hB⟩))
    go_ret
    exact ⟨rfl, HB.out.trans (hB.mono HB.out.size)⟩
  · have d1 : decide (x < 2) = false := decide_eq_false h1
    by_cases h2 : 40 < x
    · have d2 : decide (40 < x) = true := decide_eq_true h2
      clear h h1 h2
      go_enter Tryd.func4, Tryd.ntmps4
      go_wp2_with (first | (go_at_call 6; refine HS.out.mono ?_; rintro e w1 ⟨rfl, hB⟩))
      go_ret
      exact ⟨rfl, HB.out.trans (hB.mono HB.out.size)⟩
    · have d2 : decide (40 < x) = false := decide_eq_false h2
      have d3 : decide (40 < N) = true := decide_eq_true (by omega)
      have d3' : decide (40 < (N : Int)) = true := decide_eq_true (by omega)
      clear h h1 h2
      go_enter Tryd.func4, Tryd.ntmps4
      go_wp2_with (first | (go_at_call 6; refine HS.out.mono ?_; rintro e w1 ⟨rfl, hB⟩))
      go_ret
      exact ⟨rfl, HB.out.trans (hB.mono HB.out.size)⟩
set_option maxRecDepth 100000 in
set_option maxHeartbeats 8000000 in
theorem rec_loop (n : Nat) (hn : 2 ≤ n ∧ n ≤ 40) (v : Value) (ops : List JStep) (hv : JStepsAt W v ops) (ho : ∀ (i : Nat) (o : JStep), ops[i]? = some o → o.ok) (hN : ops.length ≤ 40)
    (kI mI sI : Int) (fI : Nat) (hfI : fI < 256) (AI : Option Addr) (nI cI : Nat) (kR mR sR : Int) (fR : Nat) (hfR : fR < 256) (AR : Option Addr) (nR cR : Nat) :
    Calls Tryd.prog 4 #[.int .i64 n, v, .agg #[.int .i64 kI, .int .i64 mI, .int .i64 sI, .int .u8 fI, .slice AI nI cI], .agg #[.int .i64 kR, .int .i64 mR, .int .i64 sR, .int .u8 fR, .slice AR nR cR]] W fun e w' => e = .returned (.bool true) ∧ Below W.heap.size W w' := by
  obtain ⟨A, c, rfl, hA⟩ := hv
  obtain ⟨bI1, bI2⟩ := stepBox_new W kI mI sI (fI : Int) (.slice AI nI cI)
  obtain ⟨W1, hW1⟩ : ∃ W1, W.alloc (.cells #[.int .i64 kI, .int .i64 mI, .int .i64 sI, .int .u8 (fI : Int), .slice AI nI cI] 30) = W1 := ⟨_, rfl⟩
  have hs1 : W1.heap.size = W.heap.size + 1 := by rw [← hW1]; simp
  rw [hW1] at bI1 bI2
  obtain ⟨bR1, bR2⟩ := stepBox_new W1 kR mR sR (fR : Int) (.slice AR nR cR)
  obtain ⟨W2, hW2⟩ : ∃ W2, W1.alloc (.cells #[.int .i64 kR, .int .i64 mR, .int .i64 sR, .int .u8 (fR : Int), .slice AR nR cR] 30) = W2 := ⟨_, rfl⟩
  rw [hW2] at bR1 bR2
  have bI3 := bI1.below bR2 bI1.lt
  have HXI := Lib.hid bI3
  have HXR : Hid (Blk W2 (W.heap.size + 1) 30 #[.int .i64 kR, .int .i64 mR, .int .i64 sR, .int .u8 (fR : Int), .slice AR nR cR]) := by
    unfold Hid
    rw [← hs1]
    exact bR1
  have HBW := Lib.hid (bI2.trans (bR2.mono (by omega)))
  obtain ⟨tI, htI⟩ : ∃ tI, jtext fI (jlen sI) = tI := ⟨_, rfl⟩
  have HTI := Lib.hid (fun wq => jText_any wq kI mI sI fI hfI AI nI cI)
  rw [htI] at HTI
  have hI4 : Hid (tI.size ≤ 400) := by unfold Hid; rw [← htI, jtext_size]; exact jlen_le sI
  obtain ⟨tR, htR⟩ : ∃ tR, jtext fR (jlen sR) = tR := ⟨_, rfl⟩
  have HTR := Lib.hid (fun wq => jText_any wq kR mR sR fR hfR AR nR cR)
  rw [htR] at HTR
  have hR4 : Hid (tR.size ≤ 400) := by unfold Hid; rw [← htR, jtext_size]; exact jlen_le sR
  have HD := Lib.hid (start_any W2 W2 (Below.refl _ W2) n hn)
  have HA := Lib.hid hA
  have HO := Lib.hid ho
  have HN := Lib.hid hN
  have d1 : decide (n < 2) = false := decide_eq_false (by omega)
  have d1' : decide ((n : Int) < 2) = false := decide_eq_false (by omega)
  have d2 : decide (40 < n) = false := decide_eq_false (by omega)
  have d2' : decide (40 < (n : Int)) = false := decide_eq_false (by omega)
  have d3 : decide (40 < ops.length) = false := decide_eq_false (by omega)
  have d3' : decide (40 < (ops.length : Int)) = false := decide_eq_false (by omega)
  obtain ⟨h, hh⟩ : ∃ h, n / 2 = h := ⟨_, rfl⟩
  have hq2 : Int.tdiv (n : Int) 2 = (h : Int) := by rw [Int.tdiv_eq_ediv_of_nonneg (by omega)]; omega
  have hq2w : wrap64 (h : Int) = (h : Int) := by unfold wrap64; omega
  have Hh := Lib.hid hh
  have Hh40 : Hid (1 ≤ h ∧ h ≤ 20) := by unfold Hid; omega
  clear hA ho hn hN hh bI1 bI2 bI3 bR1 bR2 htI htR hs1 hfI hfR
  go_enter Tryd.func4, Tryd.ntmps4
  go_upto_block 0 with (first | (go_at_call 7; refine HD.out.mono ?_; rintro e w1 ⟨a, jb, v0, rfl, H0, HB0⟩) | fail)
  have H1 : Hid (GSt W2 w1 a n 0 jb v0 J0 (freshDev n 1 1)) := ⟨H0.out, fresh_unworn n _⟩
  have hst1 : Hid (Below W2.heap.size W2 w1) := H0.out.bel
  rw [hq2w]
  clear H0 HB0 HD d1 d1' d2 d2' d3 d3' hq2 hq2w
  go_cut [] from 48 to 87 (fun wx => ∃ (k : Nat) (v : Value) (J : Jrn) (D : Dev), k ≤ 41 ∧ Hid (J.bank = 0) ∧ Hid (GSt W2 wx a n k jb v J D))
  case first =>
    go_wp2_with fail
    go_loopw [48] (fun i wr => ∃ (k : Nat) (v : Value) (J : Jrn) (D : Dev), k ≤ ops.length ∧ i = .int .i64 k ∧ Hid (J.bank = 0) ∧ Hid (GSt W2 wr a n k jb v J D)) (fun i _ => ops.length - (intOf i).toNat)
    case atStart => exact ⟨0, v0, J0, _, Nat.zero_le _, rfl, rfl, H1⟩
    case round =>
      clear H1
      obtain ⟨k, v, J, D, hk, rfl, hbk, H⟩ := hrel
      have hwk : wrap64 ((k : Int) + 1) = (k : Int) + 1 := by have := HN.out; unfold wrap64; omega
      by_cases hkl : k < ops.length
      · have Hkl := Lib.hid hkl
        obtain ⟨o, hk0⟩ : ∃ o, ops[k]? = some o := ⟨_, List.getElem?_eq_getElem hkl⟩
        obtain ⟨B, off, rfl, hbl, hat⟩ := HA.out (by omega)
        obtain ⟨A1, n1, cc, g0, g1, g2, g3, g4, hok⟩ := (hat k o hk0).below hbl (HBW.out.trans (H.out.st.bel.mono HBW.out.size))
        have hoo := Lib.hid (HO.out k o hk0)
        have hd1 : decide (k < ops.length) = true := decide_eq_true hkl
        have hk1 : Hid (k + 1 ≤ 100 ∧ k + 1 ≤ 41) := by have := HN.out; unfold Hid; omega
        obtain ⟨hx, hB⟩ := stepBox_new wr o.kind o.n o.size (o.fill : Int) (.slice A1 n1 cc)
        have H2 := Lib.hid (H.out.on hB)
        have HX2 := Lib.hid hx
        obtain ⟨x0, x1, x2, x3, x4⟩ := stepBox_cells hx
        obtain ⟨xb, hxb⟩ : ∃ xb, wr.heap.size = xb := ⟨_, rfl⟩
        obtain ⟨w3, hw3⟩ : ∃ w3, (wr.alloc (.cells #[.int .i64 o.kind, .int .i64 o.n, .int .i64 o.size, .int .u8 (o.fill : Int), .slice A1 n1 cc] 30)) = w3 := ⟨_, rfl⟩
        rw [hw3] at H2 HX2 x0 x1 x2 x3 x4
        rw [hxb] at HX2 x0 x1 x2 x3 x4
        clear hok hat hk0 hkl hx hB H
        by_cases q6 : o.kind = 6 ∧ 0 ≤ o.n ∧ o.n < (h : Int)
        · have b6 : (o.kind == 6) = true := beq_iff_eq.2 q6.1
          have b1 : (o.kind == 1) = false := beq_eq_false_iff_ne.2 (by omega)
          have c6 : decide (0 ≤ o.n) = true := decide_eq_true q6.2.1
          have c7 : decide (o.n < (h : Int)) = true := decide_eq_true q6.2.2
          have hlt : o.n < ((n / 2 : Nat) : Int) := by rw [Hh.out]; exact q6.2.2
          have Hw := Lib.hid (H2.out.wear o.n hlt)
          clear q6 hlt
          go_wp2_with fail
          refine Hw.out.mono ?_
          rintro e w4 ⟨xr, rfl, H3, hF⟩
          have HX3 : Hid (Blk w4 xb 30 #[.int .i64 o.kind, .int .i64 o.n, .int .i64 o.size, .int .u8 (o.fill : Int), .slice A1 n1 cc]) := (hF.out.blk H2.out.st.dev.dev HX2.out (fun e => by cases e) (fun e => by cases e) (fun e => by cases e) (fun e => by cases e)).trans HX2.out
          clear hF H2 HX2 Hw x0 x1 x2 x3 x4 c6 c7
          obtain ⟨x0, x1, x2, x3, x4⟩ := stepBox_cells HX3.out
          have H4 := Lib.hid (H3.out.more hk1.out.1)
          clear H3
          go_wp2_with fail
          go_roundw
          case rel => exact ⟨k + 1, _, _, _, Hkl.out, by go_num, hbk, H4⟩
          case measure => rw [hwk]; exact meas_up Hkl.out
        · go_upto_region 10 with fail
          go_cut [48, 65] from 48 to 87 (fun i t wx => i = .int .i64 k ∧ t = .bool false ∧ wx = w3)
          case first =>
            by_cases p6 : o.kind = 6
            · have b6 : (o.kind == 6) = true := beq_iff_eq.2 p6
              by_cases p7 : 0 ≤ o.n
              · have c6 : decide (0 ≤ o.n) = true := decide_eq_true p7
                have c7 : decide (o.n < (h : Int)) = false := decide_eq_false (fun e => q6 ⟨p6, p7, e⟩)
                clear p6 p7 q6
                go_wp2_with fail
                go_meet
                case rel => exact ⟨rfl, rfl, rfl⟩
              · have c6 : decide (0 ≤ o.n) = false := decide_eq_false p7
                clear p6 p7 q6
                go_wp2_with fail
                go_meet
                case rel => exact ⟨rfl, rfl, rfl⟩
            · have b6 : (o.kind == 6) = false := beq_eq_false_iff_ne.2 p6
              clear p6 q6
              go_wp2_with fail
              go_meet
              case rel => exact ⟨rfl, rfl, rfl⟩
          case rest =>
          obtain ⟨rfl, rfl, rfl⟩ := hcut
          clear q6
          by_cases q1 : o.kind = 1
          · have b1 : (o.kind == 1) = true := beq_iff_eq.2 q1
            have hbz : ((J.bank : Int) == 0) = true := by rw [hbk.out]; rfl
            obtain ⟨t, ht⟩ : ∃ t, jtext o.fill (jlen o.size) = t := ⟨_, rfl⟩
            have HT := Lib.hid (fun wq => jText_any wq o.kind o.n o.size o.fill hoo.out.1 A1 n1 cc)
            rw [ht] at HT
            have htl : Hid (t.size ≤ 8000) := by unfold Hid; rw [← ht, jtext_size]; exact Nat.le_trans (jlen_le o.size) (by decide)
            clear q1 ht
            go_wp2_with fail
            refine H2.out.st.bankNo.mono ?_
            rintro e w4 ⟨rfl, rfl⟩
            go_wp2_with fail
            refine (HT.out _).mono ?_
            rintro e w5 ⟨rfl, hB5⟩
            have H3 := Lib.hid (H2.out.on hB5)
            clear H2 HX2 hB5 x0 x1 x2 x3 x4
            go_wp2_with fail
            refine (H3.out.append t htl.out hk1.out.1).mono ?_
            rintro e w6 ⟨num, er, v6, J6, D6, rfl, H4, hb6, _⟩
            have hb7 : Hid (J6.bank = 0) := hb6.out.trans hbk.out
            clear H3 hb6
            by_cases q23 : er = 23
            · subst q23
              go_wp2_with fail
              go_meet
              case rel => exact ⟨k + 1, _, _, _, hk1.out.2, hb7, H4⟩
            · have b23 : (er == 23) = false := beq_eq_false_iff_ne.2 q23
              clear q23
              go_wp2_with fail
              go_roundw
              case rel => exact ⟨k + 1, _, _, _, Hkl.out, by go_num, hb7, H4⟩
              case measure => rw [hwk]; exact meas_up Hkl.out
          · have b1 : (o.kind == 1) = false := beq_eq_false_iff_ne.2 q1
            have H4 := Lib.hid (H2.out.more hk1.out.1)
            clear q1
            go_wp2_with fail
            go_roundw
            case rel => exact ⟨k + 1, _, _, _, Hkl.out, by go_num, hbk, H4⟩
            case measure => rw [hwk]; exact meas_up Hkl.out
      · have hd1 : decide (k < ops.length) = false := decide_eq_false hkl
        clear hkl
        go_wp2_with fail
        go_meet
        case rel => exact ⟨k, _, _, _, by have := HN.out; omega, hbk, H⟩
  case rest =>
  obtain ⟨k, v, J, D, hk, hbk, H⟩ := hcut
  clear H1
  have hk3 : Hid (k + 1 ≤ 100 ∧ k + 1 + 1 ≤ 100 ∧ k + 1 + 1 + 1 ≤ 100) := by unfold Hid; omega
  have HXI1 := Lib.hid (HXI.out.below H.out.st.bel HXI.out.lt)
  obtain ⟨x0, x1, x2, x3, x4⟩ := stepBox_cells HXI1.out
  clear HXI1
  have Hnp : Hid (1 ≤ J.next) := H.out.st.inv.next
  go_wp2_with fail
  refine (HTI.out _).mono ?_
  rintro e w4 ⟨rfl, hB4⟩
  have H2 := Lib.hid (H.out.on hB4)
  clear H hB4 x0 x1 x2 x3 x4
  obtain ⟨CI, hCI⟩ : ∃ CI, countN tI.size = CI := ⟨_, rfl⟩
  have hI1 : Hid (1 ≤ CI ∧ CI ≤ 20) := by unfold Hid; rw [← hCI]; have := count_le _ hI4.out; exact ⟨this.2, this.1⟩
  have HCI := Lib.hid hCI
  clear hCI
  by_cases hf : h < CI
  · have hfull : n / 2 < countN tI.size := by have := Hh.out; have := HCI.out; omega
    clear hf
    go_wp2_with fail
    refine (H2.out.compact_full hbk.out tI (Nat.le_trans hI4.out (by decide)) hk3.out.1 hfull).mono ?_
    rintro e w5 ⟨v5, D5, rfl, H3⟩
    clear H2 hfull
    go_wp2_with fail
    refine H3.out.sane.mono ?_
    rintro e w6 ⟨rfl, H4⟩
    clear H3
    have hbz : ((J.bank : Int) == 0) = true := by rw [hbk.out]; rfl
    go_wp2_with fail
    refine H4.out.st.bankNo.mono ?_
    rintro e w7 ⟨rfl, rfl⟩
    go_wp2_with fail
    go_ret
    exact ⟨rfl, HBW.out.trans (H4.out.st.bel.mono HBW.out.size)⟩
  · have hfit : countN tI.size ≤ n / 2 := by have := Hh.out; have := HCI.out; omega
    obtain ⟨J1, hJ1⟩ : ∃ J1, (⟨1, countN tI.size, J.next + 1, [(J.next, tI)], false⟩ : Jrn) = J1 := ⟨_, rfl⟩
    have y1 : Hid (J1.bank = 1 ∧ J1.spoiled = false ∧ J1.used = CI ∧ J1.next = J.next + 1 ∧ J1.l.length = 1) := by unfold Hid; rw [← hJ1]; exact ⟨rfl, rfl, HCI.out, rfl, rfl⟩
    go_wp2_with fail
    refine (H2.out.compact_ok hbk.out tI (Nat.le_trans hI4.out (by decide)) hk3.out.1 hfit hJ1).mono ?_
    rintro e w5 ⟨num5, v5, D5, rfl, H3⟩
    clear H2 hfit hJ1
    have hRm := Lib.hid H3.out.st.room
    obtain ⟨r, hr⟩ : ∃ r, n / 2 - J1.used = r := ⟨_, rfl⟩
    have hr' : Hid (r + CI = h) := by have := Hh.out; have := y1.out.2.2.1; unfold Hid; omega
    rw [hr] at hRm
    clear hr hf
    go_wp2_with fail
    refine hRm.out.mono ?_
    rintro e w6 ⟨rfl, _, hB6⟩
    have H4 := Lib.hid (H3.out.on hB6.out)
    clear H3 hB6 hRm
    have HXR1 := Lib.hid (HXR.out.below H4.out.st.bel HXR.out.lt)
    obtain ⟨x0, x1, x2, x3, x4⟩ := stepBox_cells HXR1.out
    have hsz1 : W1.heap.size = W.heap.size + 1 := by rw [← hW1]; simp
    clear HXR1
    go_wp2_with fail
    refine (HTR.out _).mono ?_
    rintro e w7 ⟨rfl, hB7⟩
    have H5 := Lib.hid (H4.out.on hB7)
    clear H4 hB7 x0 x1 x2 x3 x4
    obtain ⟨CR, hCR⟩ : ∃ CR, countN tR.size = CR := ⟨_, rfl⟩
    have hR1 : Hid (1 ≤ CR ∧ CR ≤ 20) := by unfold Hid; rw [← hCR]; have := count_le _ hR4.out; exact ⟨this.2, this.1⟩
    have HCR := Lib.hid hCR
    have hc0 : Hid (countN (⟨#[]⟩ : ByteArray).size = 1) := by unfold Hid; decide
    clear hCR
    by_cases hf2 : h < CI + CR
    · have hfull2 : n / 2 < J1.used + countN tR.size := by have := Hh.out; have := HCR.out; have := y1.out.2.2.1; omega
      go_wp2_with fail
      refine (H5.out.more_full y1.out.1 y1.out.2.1 tR (Nat.le_trans hR4.out (by decide)) hk3.out.2.1 hfull2).mono ?_
      rintro e w8 ⟨v8, D8, rfl, H6⟩
      clear H5 hfull2 hf2
      by_cases hf3 : h < CI + 1
      · have hfull3 : n / 2 < J1.used + countN (⟨#[]⟩ : ByteArray).size := by have := Hh.out; have := hc0.out; have := y1.out.2.2.1; omega
        have e1 : decide (0 < r) = false := decide_eq_false (by have := hr'.out; omega)
        clear hf3
        go_wp2_with fail
        refine (H6.out.more_full y1.out.1 y1.out.2.1 ⟨#[]⟩ (by decide) hk3.out.2.2 hfull3).mono ?_
        rintro e w9 ⟨v9, D9, rfl, H7⟩
        clear H6 hfull3
        have hbz : ((J1.bank : Int) == 1) = true := by rw [y1.out.1]; rfl
        go_wp2_with fail
        refine H7.out.sane.mono ?_
        rintro e w10 ⟨rfl, H8⟩
        clear H7
        go_wp2_with fail
        refine H8.out.st.bankNo.mono ?_
        rintro e w11 ⟨rfl, rfl⟩
        go_wp2_with fail
        go_ret
        exact ⟨rfl, HBW.out.trans (H8.out.st.bel.mono HBW.out.size)⟩
      · have hfit3 : J1.used + countN (⟨#[]⟩ : ByteArray).size ≤ n / 2 := by have := Hh.out; have := hc0.out; have := y1.out.2.2.1; omega
        have e1 : decide (0 < r) = true := decide_eq_true (by have := hr'.out; omega)
        clear hf3
        obtain ⟨J3, hJ3⟩ : ∃ J3, (⟨1, J1.used + countN (⟨#[]⟩ : ByteArray).size, J1.next + 1, J1.l ++ [(J1.next, ⟨#[]⟩)], false⟩ : Jrn) = J3 := ⟨_, rfl⟩
        have y3 : Hid (J3.bank = 1) := by unfold Hid; rw [← hJ3]
        go_wp2_with fail
        refine (H6.out.more_ok y1.out.1 y1.out.2.1 ⟨#[]⟩ (by decide) hk3.out.2.2 hfit3 hJ3 rfl).mono ?_
        rintro e w9 ⟨v9, D9, rfl, H7⟩
        clear H6 hfit3 hJ3
        have hbz : ((J3.bank : Int) == 1) = true := by rw [y3.out]; rfl
        go_wp2_with fail
        refine H7.out.sane.mono ?_
        rintro e w10 ⟨rfl, H8⟩
        clear H7
        go_wp2_with fail
        refine H8.out.st.bankNo.mono ?_
        rintro e w11 ⟨rfl, rfl⟩
        go_wp2_with fail
        go_ret
        exact ⟨rfl, HBW.out.trans (H8.out.st.bel.mono HBW.out.size)⟩
    · have hfit2 : J1.used + countN tR.size ≤ n / 2 := by have := Hh.out; have := HCR.out; have := y1.out.2.2.1; omega
      obtain ⟨J2, hJ2⟩ : ∃ J2, (⟨1, J1.used + countN tR.size, J1.next + 1, J1.l ++ [(J1.next, tR)], false⟩ : Jrn) = J2 := ⟨_, rfl⟩
      have y2 : Hid (J2.bank = 1 ∧ J2.spoiled = false ∧ J2.used = CI + CR ∧ J2.l.length = 2) := by unfold Hid; rw [← hJ2]; exact ⟨rfl, rfl, by show J1.used + countN tR.size = CI + CR; have := HCR.out; have := y1.out.2.2.1; omega, by show (J1.l ++ _).length = 2; rw [List.length_append, y1.out.2.2.2.2]; rfl⟩
      obtain ⟨N2, hN2⟩ : ∃ N2, J1.next = N2 := ⟨_, rfl⟩
      have e2 : decide (0 < N2) = true := decide_eq_true (by have := y1.out.2.2.2.1; have := Hnp.out; omega)
      have e2' : decide (0 < (N2 : Int)) = true := decide_eq_true (by have := y1.out.2.2.2.1; have := Hnp.out; omega)
      have e1 : decide (0 < r) = true := decide_eq_true (by have := hr'.out; have := hR1.out; omega)
      go_wp2_with fail
      refine (H5.out.more_ok y1.out.1 y1.out.2.1 tR (Nat.le_trans hR4.out (by decide)) hk3.out.2.1 hfit2 hJ2 hN2).mono ?_
      rintro e w8 ⟨v8, D8, rfl, H6⟩
      clear H5 hfit2 hf2 hJ2 hN2
      by_cases hf3 : h < CI + CR + 1
      · have hfull3 : n / 2 < J2.used + countN (⟨#[]⟩ : ByteArray).size := by have := Hh.out; have := hc0.out; have := y2.out.2.2.1; omega
        clear hf3
        go_wp2_with fail
        refine (H6.out.more_full y2.out.1 y2.out.2.1 ⟨#[]⟩ (by decide) hk3.out.2.2 hfull3).mono ?_
        rintro e w9 ⟨v9, D9, rfl, H7⟩
        clear H6 hfull3
        have hlen : Hid (J2.l.length = 2) := y2.out.2.2.2
        have hbz : ((J2.bank : Int) == 1) = true := by rw [y2.out.1]; rfl
        go_wp2_with fail
        refine H7.out.sane.mono ?_
        rintro e w10 ⟨rfl, H8⟩
        clear H7
        go_wp2_with fail
        refine H8.out.st.bankNo.mono ?_
        rintro e w11 ⟨rfl, rfl⟩
        go_wp2_with fail
        refine (H8.out.recs hlen.out).mono ?_
        rintro e w12 ⟨A12, c12, rfl, H9⟩
        go_wp2_with fail
        go_ret
        exact ⟨rfl, HBW.out.trans (H9.out.st.bel.mono HBW.out.size)⟩
      · have hfit3 : J2.used + countN (⟨#[]⟩ : ByteArray).size ≤ n / 2 := by have := Hh.out; have := hc0.out; have := y2.out.2.2.1; omega
        clear hf3
        obtain ⟨J3, hJ3⟩ : ∃ J3, (⟨1, J2.used + countN (⟨#[]⟩ : ByteArray).size, J2.next + 1, J2.l ++ [(J2.next, ⟨#[]⟩)], false⟩ : Jrn) = J3 := ⟨_, rfl⟩
        have y3 : Hid (J3.bank = 1) := by unfold Hid; rw [← hJ3]
        have hlen : Hid (J3.l.length = 3) := by unfold Hid; rw [← hJ3]; show (J2.l ++ _).length = 3; rw [List.length_append, y2.out.2.2.2]; rfl
        go_wp2_with fail
        refine (H6.out.more_ok y2.out.1 y2.out.2.1 ⟨#[]⟩ (by decide) hk3.out.2.2 hfit3 hJ3 rfl).mono ?_
        rintro e w9 ⟨v9, D9, rfl, H7⟩
        clear H6 hfit3 hJ3
        have hbz : ((J3.bank : Int) == 1) = true := by rw [y3.out]; rfl
        go_wp2_with fail
        refine H7.out.sane.mono ?_
        rintro e w10 ⟨rfl, H8⟩
        clear H7
        go_wp2_with fail
        refine H8.out.st.bankNo.mono ?_
        rintro e w11 ⟨rfl, rfl⟩
        go_wp2_with fail
        refine (H8.out.recs hlen.out).mono ?_
        rintro e w12 ⟨A12, c12, rfl, H9⟩
        go_wp2_with fail
        go_ret
        exact ⟨rfl, HBW.out.trans (H9.out.st.bel.mono HBW.out.size)⟩
theorem law_recovers (x : Int) (v : Value) (ops : List JStep) (hv : JStepsAt W v ops) (ho : ∀ (i : Nat) (o : JStep), ops[i]? = some o → o.ok)
    (kI mI sI : Int) (fI : Nat) (hfI : fI < 256) (AI : Option Addr) (nI cI : Nat) (kR mR sR : Int) (fR : Nat) (hfR : fR < 256) (AR : Option Addr) (nR cR : Nat) :
    Calls Tryd.prog 4 #[.int .i64 x, v, .agg #[.int .i64 kI, .int .i64 mI, .int .i64 sI, .int .u8 fI, .slice AI nI cI], .agg #[.int .i64 kR, .int .i64 mR, .int .i64 sR, .int .u8 fR, .slice AR nR cR]] W fun e w' => e = .returned (.bool true) ∧ Below W.heap.size W w' := by
  by_cases hz : 2 ≤ x ∧ x ≤ 40 ∧ ops.length ≤ 40
  · obtain ⟨n, rfl⟩ := Int.eq_ofNat_of_zero_le (show 0 ≤ x by omega)
    exact rec_loop n ⟨by omega, by omega⟩ v ops hv ho hz.2.2 kI mI sI fI hfI AI nI cI kR mR sR fR hfR AR nR cR
  · obtain ⟨A, c, rfl, _⟩ := hv
    exact rec_bad x A ops.length c _ _ hz
end
end Go.Proofs.YtgdpgiegiacepaaDoor
