/-
  Layer 25 (journal): the law of a full journal. (Written by a small program.)
-/
import Derived.Test.YtgdpgiegiacepaaDoorJouL4
namespace Go.Proofs.YtgdpgiegiacepaaDoor
open Go.RowKit Go.Shelf
open Sec (mostN countN)
attribute [local go_sem] Oper.semAt_some

/-- How many sectors a text needs, as the law reckons it. -/
theorem need_of (s : Nat) (hs : s ≤ 400) : wrap64 ((s : Int) + 43) = ((s + 43 : Nat) : Int) ∧ Int.tdiv ((s + 43 : Nat) : Int) 44 = (((s + 43) / 44 : Nat) : Int) ∧ max 1 ((((s + 43) / 44 : Nat)) : Int) = (countN s : Int) := by
  refine ⟨?_, ?_, ?_⟩
  · unfold wrap64; omega
  · rw [Int.tdiv_eq_ediv_of_nonneg (by omega)]; omega
  · unfold Sec.countN; omega
theorem count_le (s : Nat) (hs : s ≤ 400) : countN s ≤ 20 ∧ 1 ≤ countN s := by
  unfold Sec.countN
  omega
section
variable {W : World}
set_option maxRecDepth 100000 in
set_option maxHeartbeats 1600000 in
theorem full_bad (x : Int) (A : Option Addr) (N c : Nat) (h : ¬ (2 ≤ x ∧ x ≤ 40 ∧ N ≤ 40)) :
    Calls Tryd.prog 3 #[.int .i64 x, .slice A N c] W fun e w' => e = .returned (.bool true) ∧ Below W.heap.size W w' := by
  have HS := Lib.hid (sanity_true W)
  by_cases h1 : x < 2
  · have d1 : decide (x < 2) = true := decide_eq_true h1
    clear h h1
    go_enter Tryd.func3, Tryd.ntmps3
    go_wp2_with (first | (go_at_call 6; refine HS.out.mono ?_; rintro e w1 ⟨rfl, hB⟩))
    go_ret
    exact ⟨rfl, hB⟩
  · have d1 : decide (x < 2) = false := decide_eq_false h1
    by_cases h2 : 40 < x
    · have d2 : decide (40 < x) = true := decide_eq_true h2
      clear h h1 h2
      go_enter Tryd.func3, Tryd.ntmps3
      go_wp2_with (first | (go_at_call 6; refine HS.out.mono ?_; rintro e w1 ⟨rfl, hB⟩))
      go_ret
      exact ⟨rfl, hB⟩
    · have d2 : decide (40 < x) = false := decide_eq_false h2
      have d3 : decide (40 < N) = true := decide_eq_true (by omega)
      have d3' : decide (40 < (N : Int)) = true := decide_eq_true (by omega)
      clear h h1 h2
      go_enter Tryd.func3, Tryd.ntmps3
      go_wp2_with (first | (go_at_call 6; refine HS.out.mono ?_; rintro e w1 ⟨rfl, hB⟩))
      go_ret
      exact ⟨rfl, hB⟩
set_option maxRecDepth 100000 in
set_option maxHeartbeats 8000000 in
theorem full_loop (n : Nat) (hn : 2 ≤ n ∧ n ≤ 40) (v : Value) (ops : List JStep) (hv : JStepsAt W v ops) (ho : ∀ (i : Nat) (o : JStep), ops[i]? = some o → o.ok) (hN : ops.length ≤ 40) :
    Calls Tryd.prog 3 #[.int .i64 n, v] W fun e w' => e = .returned (.bool true) ∧ Below W.heap.size W w' := by
  obtain ⟨A, c, rfl, hA⟩ := hv
  have HD := Lib.hid (start_any W W (Below.refl _ W) n hn)
  have HA := Lib.hid hA
  have HO := Lib.hid ho
  have HN := Lib.hid hN
  have d1 : decide (n < 2) = false := decide_eq_false (by omega)
  have d1' : decide ((n : Int) < 2) = false := decide_eq_false (by omega)
  have d2 : decide (40 < n) = false := decide_eq_false (by omega)
  have d2' : decide (40 < (n : Int)) = false := decide_eq_false (by omega)
  have d3 : decide (40 < ops.length) = false := decide_eq_false (by omega)
  have d3' : decide (40 < (ops.length : Int)) = false := decide_eq_false (by omega)
  obtain ⟨h, hh⟩ : ∃ h, n / 2 = h := ⟨_, rfl⟩
  have hq2 : Int.tdiv (n : Int) 2 = (h : Int) := by rw [Int.tdiv_eq_ediv_of_nonneg (by omega)]; omega
  have hq2w : wrap64 (h : Int) = (h : Int) := by unfold wrap64; omega
  have Hq2 := Lib.hid hq2
  have Hq2w := Lib.hid hq2w
  have Hh := Lib.hid hh
  have Hh40 : Hid (h ≤ 20) := by unfold Hid; omega
  clear hA ho hn hN hq2 hq2w hh
  go_enter Tryd.func3, Tryd.ntmps3
  go_wp2_with (first | (go_at_call 7; refine HD.out.mono ?_; rintro e w1 ⟨a, jb, v0, rfl, H0, HB0⟩))
  have H1 : Hid (FSt W w1 a n 0 jb v0 J0 (freshDev n 1 1)) := ⟨H0.out, fresh_unworn n 0, rfl⟩
  clear H0 HB0 HD
  go_loopw [39] (fun i wr => ∃ (k : Nat) (v : Value) (J : Jrn) (D : Dev), k ≤ ops.length ∧ i = .int .i64 k ∧ Hid (FSt W wr a n k jb v J D)) (fun i _ => ops.length - (intOf i).toNat)
  case atStart => exact ⟨0, v0, J0, _, Nat.zero_le _, rfl, H1⟩
  case round =>
    clear H1
    obtain ⟨k, v, J, D, hk, rfl, H⟩ := hrel
    have hwk : wrap64 ((k : Int) + 1) = (k : Int) + 1 := by have := HN.out; unfold wrap64; omega
    by_cases hkl : k < ops.length
    · have Hkl := Lib.hid hkl
      obtain ⟨o, hk0⟩ : ∃ o, ops[k]? = some o := ⟨_, List.getElem?_eq_getElem hkl⟩
      obtain ⟨B, off, rfl, hbl, hat⟩ := HA.out (by omega)
      obtain ⟨A1, n1, cc, g0, g1, g2, g3, g4, hok⟩ := (hat k o hk0).below hbl H.out.st.bel
      have hoo := Lib.hid (HO.out k o hk0)
      have hd1 : decide (k < ops.length) = true := decide_eq_true hkl
      have hk1 : Hid (k + 1 ≤ 100) := by have := HN.out; unfold Hid; omega
      obtain ⟨hx, hB⟩ := stepBox_new wr o.kind o.n o.size (o.fill : Int) (.slice A1 n1 cc)
      have H2 := Lib.hid (H.out.on hB)
      have HX2 := Lib.hid hx
      obtain ⟨x0, x1, x2, x3, x4⟩ := stepBox_cells hx
      obtain ⟨xb, hxb⟩ : ∃ xb, wr.heap.size = xb := ⟨_, rfl⟩
      obtain ⟨w3, hw3⟩ : ∃ w3, (wr.alloc (.cells #[.int .i64 o.kind, .int .i64 o.n, .int .i64 o.size, .int .u8 (o.fill : Int), .slice A1 n1 cc] 30)) = w3 := ⟨_, rfl⟩
      rw [hw3] at H2 HX2 x0 x1 x2 x3 x4
      rw [hxb] at HX2 x0 x1 x2 x3 x4
      obtain ⟨t, ht⟩ : ∃ t, jtext o.fill (jlen o.size) = t := ⟨_, rfl⟩
      have HT := Lib.hid (fun wq => jText_any wq o.kind o.n o.size o.fill hoo.out.1 A1 n1 cc)
      rw [ht] at HT
      have htl : Hid (t.size ≤ 400) := by unfold Hid; rw [← ht, jtext_size]; exact jlen_le o.size
      obtain ⟨hw1, hw2, hw3'⟩ := need_of t.size htl.out
      obtain ⟨C, hC⟩ : ∃ C, countN t.size = C := ⟨_, rfl⟩
      rw [hC] at hw3'
      obtain ⟨q, hq⟩ : ∃ q, (t.size + 43) / 44 = q := ⟨_, rfl⟩
      rw [hq] at hw2 hw3'
      obtain ⟨s43, hs43⟩ : ∃ s43, t.size + 43 = s43 := ⟨_, rfl⟩
      rw [hs43] at hw1 hw2
      have hwq : wrap64 (q : Int) = (q : Int) := by have := htl.out; unfold wrap64; omega
      have HC := Lib.hid hC
      have hC20 : Hid (C ≤ 20 ∧ 1 ≤ C) := by unfold Hid; rw [← hC]; exact count_le _ htl.out
      clear hok hat hk0 hkl hx hB H ht hq hs43 hC
      go_wp2_with fail
      refine (HT.out _).mono ?_
      rintro e w4 ⟨rfl, hB4⟩
      have H3 := Lib.hid (H2.out.on hB4)
      have HX3 := Lib.hid (HX2.out.below hB4 HX2.out.lt)
      clear H2 HX2 hB4 x0 x1 x2 x3 x4 g0 g1 g2 g3 g4
      obtain ⟨x0, x1, x2, x3, x4⟩ := stepBox_cells HX3.out
      obtain ⟨r, hr⟩ : ∃ r, n / 2 - J.used = r := ⟨_, rfl⟩
      have hRm := Lib.hid (H3.out.room)
      rw [hr] at hRm
      go_wp2_with fail
      refine hRm.out.mono ?_
      rintro e w5 ⟨rfl, H4, hB5⟩
      have HX4 := Lib.hid (HX3.out.below hB5.out HX3.out.lt)
      clear H3 HX3 hB5 hRm x0 x1 x2 x3 x4 hw1 hw2 hwq hw3'
      obtain ⟨x0, x1, x2, x3, x4⟩ := stepBox_cells HX4.out
      go_wp2_with fail
      refine H4.out.st.nextNo.mono ?_
      rintro e w6 ⟨rfl, rfl⟩
      have Hr := Lib.hid hr
      have hus := Lib.hid H4.out.st.inv.used
      have hnx := Lib.hid H4.out.st.next
      clear hr
      by_cases q1 : o.kind = 1
      · have b1 : (o.kind == 1) = true := beq_iff_eq.2 q1
        clear q1
        go_wp2_with fail
        refine (HT.out _).mono ?_
        rintro e w7 ⟨rfl, hB7⟩
        have H5 := Lib.hid (H4.out.on hB7)
        clear H4 HX4 hB7 x0 x1 x2 x3 x4
        by_cases hcr : r < C
        · have e1 : decide (r < C) = true := decide_eq_true hcr
          have e2 : decide (C ≤ r) = false := decide_eq_false (by omega)
          have hfull : n / 2 < J.used + countN t.size := by have := Hr.out; have := hus.out; have := HC.out; omega
          clear hcr
          go_wp2_with fail
          refine (H5.out.append_full t (Nat.le_trans htl.out (by decide)) hk1.out hfull).mono ?_
          rintro e w8 ⟨v8, D8, rfl, H6, _⟩
          have hRm := Lib.hid H6.out.room
          rw [Hr.out] at hRm
          clear hfull
          go_wp2_with fail
          refine hRm.out.mono ?_
          rintro e w9 ⟨rfl, H7, _⟩
          clear H5 H6 hRm
          go_wp2_with fail
          refine H7.out.st.nextNo.mono ?_
          rintro e w10 ⟨rfl, rfl⟩
          go_wp2_with fail
          go_roundw
          case rel => exact ⟨k + 1, _, _, _, Hkl.out, by go_num, H7⟩
          case measure => rw [hwk]; exact meas_up Hkl.out
        · have e1 : decide (r < C) = false := decide_eq_false hcr
          have e2 : decide (C ≤ r) = true := decide_eq_true (by omega)
          have hfit : J.used + countN t.size ≤ n / 2 := by have := Hr.out; have := hus.out; have := HC.out; have := hC20.out; omega
          obtain ⟨J', hJ'⟩ : ∃ J', (⟨J.bank, J.used + countN t.size, J.next + 1, J.l ++ [(J.next, t)], false⟩ : Jrn) = J' := ⟨_, rfl⟩
          have hu' : J'.used = J.used + C := by rw [← hJ', ← HC.out]
          have hn' : J'.next = J.next + 1 := by rw [← hJ']
          have hsb : Hid (wrap64 ((r : Int) - (C : Int)) = ((n / 2 - J'.used : Nat) : Int)) := by have := Hr.out; have := hus.out; have := Hh.out; have := Hh40.out; unfold Hid wrap64; rw [hu']; omega
          have hnb : Hid (wrap64 ((J.next : Int) + 1) = (J'.next : Int)) := by have := hnx.out; have := hk1.out; unfold Hid wrap64; rw [hn']; omega
          clear hcr hu' hn'
          go_wp2_with fail
          refine (H5.out.append t (Nat.le_trans htl.out (by decide)) hk1.out hfit rfl hJ').mono ?_
          rintro e w8 ⟨v8, D8, rfl, H6, _⟩
          have hRm := Lib.hid H6.out.room
          obtain ⟨r', hr'⟩ : ∃ r', n / 2 - J'.used = r' := ⟨_, rfl⟩
          rw [hr'] at hRm hsb
          have hsb' := hsb.out
          clear hfit hr' hJ' hsb
          go_wp2_with fail
          refine hRm.out.mono ?_
          rintro e w9 ⟨rfl, H7, _⟩
          clear H5 H6 hRm
          have hnb' := hnb.out
          clear hnb
          go_wp2_with fail
          refine H7.out.st.nextNo.mono ?_
          rintro e w10 ⟨rfl, rfl⟩
          go_wp2_with fail
          go_roundw
          case rel => exact ⟨k + 1, _, _, _, Hkl.out, by go_num, H7⟩
          case measure => rw [hwk]; exact meas_up Hkl.out
      · have b1 : (o.kind == 1) = false := beq_eq_false_iff_ne.2 q1
        clear q1
        by_cases q2 : o.kind = 2
        · have b2 : (o.kind == 2) = true := beq_iff_eq.2 q2
          clear q2
          go_wp2_with fail
          refine (HT.out _).mono ?_
          rintro e w7 ⟨rfl, hB7⟩
          have H5 := Lib.hid (H4.out.on hB7)
          clear H4 HX4 hB7 x0 x1 x2 x3 x4
          have hq2 := Hq2.out
          have hq2w := Hq2w.out
          by_cases hcr : h < C
          · have e1 : decide (h < C) = true := decide_eq_true hcr
            have e2 : decide (C ≤ h) = false := decide_eq_false (by omega)
            have hfull : n / 2 < countN t.size := by have := Hh.out; have := HC.out; omega
            clear hcr
            go_wp2_with fail
            refine (H5.out.compact_full t (Nat.le_trans htl.out (by decide)) hk1.out hfull).mono ?_
            rintro e w8 ⟨v8, D8, rfl, H6, _⟩
            have hRm := Lib.hid H6.out.room
            rw [Hr.out] at hRm
            clear hfull
            go_wp2_with fail
            refine hRm.out.mono ?_
            rintro e w9 ⟨rfl, H7, _⟩
            clear H5 H6 hRm
            go_wp2_with fail
            refine H7.out.st.nextNo.mono ?_
            rintro e w10 ⟨rfl, rfl⟩
            go_wp2_with fail
            go_roundw
            case rel => exact ⟨k + 1, _, _, _, Hkl.out, by go_num, H7⟩
            case measure => rw [hwk]; exact meas_up Hkl.out
          · have e1 : decide (h < C) = false := decide_eq_false hcr
            have e2 : decide (C ≤ h) = true := decide_eq_true (by omega)
            have hfit : countN t.size ≤ n / 2 := by have := Hh.out; have := HC.out; omega
            obtain ⟨J', hJ'⟩ : ∃ J', (⟨1 - J.bank, countN t.size, J.next + 1, [(J.next, t)], false⟩ : Jrn) = J' := ⟨_, rfl⟩
            have hu' : J'.used = C := by rw [← hJ', ← HC.out]
            have hn' : J'.next = J.next + 1 := by rw [← hJ']
            have hsb : Hid (wrap64 ((h : Int) - (C : Int)) = ((n / 2 - J'.used : Nat) : Int)) := by have := Hh.out; have := Hh40.out; unfold Hid wrap64; rw [hu']; omega
            have hnb : Hid (wrap64 ((J.next : Int) + 1) = (J'.next : Int)) := by have := hnx.out; have := hk1.out; unfold Hid wrap64; rw [hn']; omega
            clear hcr hu' hn'
            go_wp2_with fail
            refine (H5.out.compact t (Nat.le_trans htl.out (by decide)) hk1.out hfit rfl hJ').mono ?_
            rintro e w8 ⟨v8, D8, rfl, H6, _⟩
            have hRm := Lib.hid H6.out.room
            obtain ⟨r', hr'⟩ : ∃ r', n / 2 - J'.used = r' := ⟨_, rfl⟩
            rw [hr'] at hRm hsb
            have hsb' := hsb.out
            clear hfit hr' hJ' hsb
            go_wp2_with fail
            refine hRm.out.mono ?_
            rintro e w9 ⟨rfl, H7, _⟩
            clear H5 H6 hRm
            have hnb' := hnb.out
            clear hnb
            go_wp2_with fail
            refine H7.out.st.nextNo.mono ?_
            rintro e w10 ⟨rfl, rfl⟩
            go_wp2_with fail
            go_roundw
            case rel => exact ⟨k + 1, _, _, _, Hkl.out, by go_num, H7⟩
            case measure => rw [hwk]; exact meas_up Hkl.out
        · have b2 : (o.kind == 2) = false := beq_eq_false_iff_ne.2 q2
          have H7 := Lib.hid (H4.out.more hk1.out)
          clear q2 H4 HX4
          go_wp2_with fail
          go_roundw
          case rel => exact ⟨k + 1, _, _, _, Hkl.out, by go_num, H7⟩
          case measure => rw [hwk]; exact meas_up Hkl.out
    · have hd1 : decide (k < ops.length) = false := decide_eq_false hkl
      clear hkl
      go_wp2_with (first | (go_at_call 6; refine (sanity_true _).mono ?_; rintro e w7 ⟨rfl, hB⟩))
      go_ret
      exact ⟨rfl, H.out.st.bel.trans (hB.mono H.out.st.bel.size)⟩
theorem law_full (x : Int) (v : Value) (ops : List JStep) (hv : JStepsAt W v ops) (ho : ∀ (i : Nat) (o : JStep), ops[i]? = some o → o.ok) :
    Calls Tryd.prog 3 #[.int .i64 x, v] W fun e w' => e = .returned (.bool true) ∧ Below W.heap.size W w' := by
  by_cases hz : 2 ≤ x ∧ x ≤ 40 ∧ ops.length ≤ 40
  · obtain ⟨n, rfl⟩ := Int.eq_ofNat_of_zero_le (show 0 ≤ x by omega)
    exact full_loop n ⟨by omega, by omega⟩ v ops hv ho hz.2.2
  · obtain ⟨A, c, rfl, _⟩ := hv
    exact full_bad x A ops.length c hz
end
end Go.Proofs.YtgdpgiegiacepaaDoor
