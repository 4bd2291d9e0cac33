/-
  Layer 23 (device): DevicePlays.
-/
import Derived.Test.YtcifkahmeimniaaGreatRdL2
namespace Go.Proofs.YtcifkahmeimniaaGreat
open Go.RowKit Go.Shelf
attribute [local go_sem] Oper.semAt_some

section
variable {W : World}
set_option maxRecDepth 100000 in
set_option maxHeartbeats 1600000 in
theorem plays_off (x y z : Int) (A : Option Addr) (N c : Nat) (q : Nat) (h : (decide (x ≤ 12) && decide ((N : Int) ≤ 60)) = false) :
    Calls Tryz.prog 3 #[.agg #[.int .i64 x, .int .i64 y, .int .i64 z], .slice A N c, .int .u8 q] W fun e w' => e = .returned (.bool true) ∧ Below W.heap.size W w' := by
  obtain ⟨hk, hB⟩ := box_new W x y z
  have HB : Hid (Boxed W _ x y z) := ⟨hk, hB⟩
  clear hk hB
  have Hh := Lib.hid h
  clear h
  go_enter Tryz.func3, Tryz.ntmps3
  go_wp2_with (first | (go_at_call 4; refine (sanity_true _).mono ?_; rintro e w1 ⟨rfl, hB⟩; have HX := Lib.hid (HB.out.on hB); obtain ⟨q0, q1, q2⟩ := HX.out.c; clear hB) | (go_at_call 5; refine (few_any _ x y z A N c).mono ?_; rw [Hh.out]; rintro e w2 ⟨rfl, hB⟩; have HY := Lib.hid (HX.out.on hB); obtain ⟨p0, p1, p2⟩ := HY.out.c; clear hB))
  go_ret
  exact ⟨rfl, HY.out.2⟩
set_option maxRecDepth 100000 in
set_option maxHeartbeats 1600000 in
theorem plays_bad (x y z : Int) (A : Option Addr) (N c : Nat) (q : Nat) (h : (decide (x ≤ 12) && decide ((N : Int) ≤ 60)) = true) (hz : ¬ SizeOk x y z) :
    Calls Tryz.prog 3 #[.agg #[.int .i64 x, .int .i64 y, .int .i64 z], .slice A N c, .int .u8 q] W fun e w' => e = .returned (.bool true) ∧ Below W.heap.size W w' := by
  obtain ⟨hk, hB⟩ := box_new W x y z
  have HB : Hid (Boxed W _ x y z) := ⟨hk, hB⟩
  clear hk hB
  have Hh := Lib.hid h
  have Hz := Lib.hid hz
  clear h hz
  go_enter Tryz.func3, Tryz.ntmps3
  go_wp2_with (first | (go_at_call 4; refine (sanity_true _).mono ?_; rintro e w1 ⟨rfl, hB⟩; have HX := Lib.hid (HB.out.on hB); obtain ⟨q0, q1, q2⟩ := HX.out.c; clear hB) | (go_at_call 5; refine (few_any _ x y z A N c).mono ?_; rw [Hh.out]; rintro e w2 ⟨rfl, hB⟩; have HY := Lib.hid (HX.out.on hB); obtain ⟨p0, p1, p2⟩ := HY.out.c; clear hB) | (go_at_call 6; refine (dNew_bad _ x y z Hz.out).mono ?_; rintro e w3 ⟨rfl, hB⟩; have HZ := Lib.hid (HY.out.on hB); obtain ⟨z0, z1, z2⟩ := HZ.out.c; clear hB) | (go_at_call 7; refine (rdNew_bad _ x y z Hz.out).mono ?_; rintro e w4 ⟨rfl, rfl⟩))
  go_ret
  exact ⟨rfl, HZ.out.2⟩
set_option maxRecDepth 100000 in
set_option maxHeartbeats 4000000 in
theorem plays_loop (n s f : Nat) (hn : 1 ≤ n ∧ n ≤ 4096) (hs : 1 ≤ s ∧ s ≤ 16) (hf : 1 ≤ f ∧ f ≤ 16) (hx : (n : Int) ≤ 12) (v : Value) (ops : List DOp) (hv : DOpsAt W v ops) (ho : OpsIn ops) (hN : ops.length ≤ 60) (q : Nat) (hq : q < 256) :
    Calls Tryz.prog 3 #[.agg #[.int .i64 n, .int .i64 s, .int .i64 f], v, .int .u8 q] W fun e w' => e = .returned (.bool true) ∧ Below W.heap.size W w' := by
  obtain ⟨A, c, rfl, hA⟩ := hv
  obtain ⟨hk, hB⟩ := box_new W n s f
  have HB : Hid (Boxed W _ n s f) := ⟨hk, hB⟩
  have Hn := Lib.hid (And.intro hn (And.intro hs hf))
  have HA := Lib.hid hA
  have Ho := Lib.hid ho
  have Hh : Hid ((decide ((n : Int) ≤ 12) && decide ((ops.length : Int) ≤ 60)) = true) := by
    unfold Hid
    rw [decide_eq_true hx, decide_eq_true (by omega : (ops.length : Int) ≤ 60)]
    rfl
  have Hq := Lib.hid hq
  clear hq
  clear hk hB hA ho hx hn hs hf
  go_enter Tryz.func3, Tryz.ntmps3
  go_wp2_with (first | (go_at_call 4; refine (sanity_true _).mono ?_; rintro e w1 ⟨rfl, hB⟩; have HX := Lib.hid (HB.out.on hB); obtain ⟨q0, q1, q2⟩ := HX.out.c; clear hB) | (go_at_call 5; refine (few_any _ n s f A ops.length c).mono ?_; rw [Hh.out]; rintro e w2 ⟨rfl, hB⟩; have HY := Lib.hid (HX.out.on hB); obtain ⟨p0, p1, p2⟩ := HY.out.c; clear hB))
  refine (dNew_ok _ n s f Hn.out.1 Hn.out.2.1 Hn.out.2.2).mono ?_
  rintro e w3 ⟨a, rfl, ha, la, hB3⟩
  have HZ := Lib.hid (HY.out.on hB3)
  obtain ⟨z0, z1, z2⟩ := HZ.out.c
  have Ha := Lib.hid ha
  have La := Lib.hid la
  have Hws : Hid (W.heap.size < w2.heap.size) := HY.out.1.lt
  clear ha la hB3 HX HB q0 q1 q2 p0 p1 p2
  go_wp2_with fail
  refine (rdNew_ok _ n s f Hn.out.1 Hn.out.2.1 Hn.out.2.2).mono ?_
  rintro e w4 ⟨r, rfl, hr, lr, hB4⟩
  have HZ4 := Lib.hid (HZ.out.on hB4)
  have Ha4 := Lib.hid (DevIs.below Ha.out hB4)
  have Hr := Lib.hid hr
  have Lr := Lib.hid lr
  have Hw3 : Hid (w3.heap.size ≤ w4.heap.size) := hB4.size
  obtain ⟨sa1, sa2, sa3, sa4⟩ := DevIs.sizes Ha.out
  have Hsa := Lib.hid (And.intro sa3 sa4)
  clear hr lr hB4 HZ Ha z0 z1 z2 sa1 sa2 sa3 sa4
  go_wp2_with fail
  refine (dClone_any Ha4.out (by have := Hn.out; simp [freshDev]; omega) (by have := Hn.out; simp [freshDev]; omega) (by have := Hn.out; simp [freshDev]; omega)).mono ?_
  rintro e w5 ⟨c0, rfl, hc, lc, hB5⟩
  have HZ5 := Lib.hid (HZ4.out.on hB5)
  have Hr5 := Lib.hid (Hr.out.below hB5)
  have Hc := Lib.hid hc
  have Lc := Lib.hid lc
  have HB5 := Lib.hid hB5
  clear hc lc hB5 HZ4
  go_wp2_with fail
  refine (rdClone_any Hr5.out (by have := Hn.out; simp [freshDev]; omega) (by have := Hn.out; simp [freshDev]; omega) (by have := Hn.out; simp [freshDev]; omega)).mono ?_
  rintro e w6 ⟨u0, rfl, hu, lu, hB6⟩
  have hQ : Hid (Quad W w6 a r c0 u0 (freshDev n s f) (freshDev n s f) (.slice none 0 0) (.slice none 0 0) []) := by
    have b2 := HY.out.2
    have l1 := La.out
    have l2 := Lr.out
    have l3 := Lc.out
    have l5 := Hsa.out
    have e1 := Hws.out
    have e2 := Hw3.out
    have e3 := HB5.out.size
    obtain ⟨t1, t2, t3, t4⟩ := RDevIs.sizes Hr5.out
    obtain ⟨t5, t6, t7, t8⟩ := RDevIs.sizes Hr.out
    have b6 := HZ5.out.2.trans (hB6.mono HZ5.out.2.size)
    obtain ⟨m1, m2, m3, m4⟩ := DevIs.sizes Ha4.out
    have w3s : w2.heap.size ≤ w3.heap.size := by omega
    refine ⟨⟨(Ha4.out.below HB5.out).below hB6, b6, by omega, by omega, by omega, by omega⟩, ⟨Hr5.out.below hB6, b6, by omega, by omega, by omega, by omega⟩, DevIs.below Hc.out hB6, hu, ⟨by omega, by omega, by omega, by omega⟩, ⟨by omega, by omega, by omega, by omega⟩, ⟨by omega, by omega⟩, ⟨by omega, by omega⟩, ⟨by omega, by omega⟩, Img.nil _ _, Img.nil _ _, Img.nil _ _, Img.nil _ _⟩
  clear hu lu hB6 HZ5 Hr5 Hc Lc HB5 Ha4 Hr Lr La Hw3 Hws Hsa HY
  go_wp2_with fail
  go_loopw [12, 13, 14, 15, 16] (fun pc pu v1 v2 i wr => ∃ (k : Nat) (c u : DAt) (C : Dev) (A1 : Option Addr) (n1 k1 : Nat) (A2 : Option Addr) (n2 k2 : Nat), k ≤ ops.length ∧ pc = .pointer (some ⟨c.d, 0, none⟩) ∧ pu = .pointer (some ⟨u.d, 0, none⟩) ∧ v1 = .slice A1 n1 k1 ∧ v2 = .slice A2 n2 k2 ∧ i = .int .i64 k ∧ Hid (Quad W wr a r c u (dUpTo n s f ops k).1 C (.slice A1 n1 k1) (.slice A2 n2 k2) (dUpTo n s f ops k).2) ∧ Hid (C.Ok n s f)) (fun _ _ _ _ i _ => ops.length - (intOf i).toNat)
  case atStart => exact ⟨0, c0, u0, freshDev n s f, none, 0, 0, none, 0, 0, Nat.zero_le _, rfl, rfl, rfl, rfl, rfl, hQ, fresh_ok n s f⟩
  case round =>
    obtain ⟨k, cc, uu, C, A1, n1, k1, A2, n2, k2, hk, rfl, rfl, rfl, rfl, rfl, hu, HC⟩ := hrel
    clear hQ
    by_cases hkl : k < ops.length
    · have hd1 : decide (k < ops.length) = true := decide_eq_true hkl
      obtain ⟨o, hk0⟩ : ∃ o, ops[k]? = some o := ⟨_, List.getElem?_eq_getElem hkl⟩
      obtain ⟨B, off, rfl, hbl, hat⟩ := HA.out (by omega)
      have Hat := Lib.hid (hat k o hk0)
      have Hbl := Lib.hid hbl
      obtain ⟨hDok, hIl⟩ := dUpTo_ok n s f ops Ho.out k hk
      have HD := Lib.hid hDok
      have HI := Lib.hid hIl
      have Hk := Lib.hid (dUpTo_succ n s f ops k o hk0)
      generalize (dUpTo n s f ops k).1 = D at hu HD Hk
      generalize (dUpTo n s f ops k).2 = I at hu HI Hk
      clear hDok hIl hat hk0
      have HI2 : Hid (I.length ≤ 4096) := by
        rcases HI.out with h | h
        · unfold Hid; rw [h]; exact Nat.zero_le _
        · have := Hn.out; unfold Hid; omega
      obtain ⟨R, hR⟩ : ∃ R, dplay o D I = R := ⟨_, rfl⟩
      have HR := Lib.hid hR
      have Hk2 : Hid ((dUpTo n s f ops (k + 1)).1 = R.2.1 ∧ (dUpTo n s f ops (k + 1)).2 = R.2.2) := by
        have := Hk.out
        rw [HR.out] at this
        exact ⟨by rw [this], by rw [this]⟩
      have Hkl := Lib.hid hkl
      clear hR hkl
      have hwq : wrap64 (q : Int) = (q : Int) := by have := Hq.out; unfold wrap64; omega
      by_cases hkq : k = q
      · have b1 : ((k : Int) == (q : Int)) = true := beq_t (by omega)
        have b2 : (k == q) = true := by simp [hkq]
        have b3 : decide (k = q) = true := decide_eq_true hkq
        subst hkq
        go_wp2_with fail
        refine (dClone_any hu.out.dd.dev (by have h1 := HD.out.M; have := Hn.out; omega) (by have h1 := HD.out.slots; have := Hn.out; omega) (by have h1 := HD.out.fuses; have := Hn.out; omega)).mono ?_
        rintro e w4 ⟨c', rfl, hc, lc, hB4⟩
        have hu4 := Lib.hid (hu.out.on hB4)
        have Hc := Lib.hid hc
        have Lc := Lib.hid lc
        have HB4 := Lib.hid hB4
        clear hc lc hB4
        go_wp2_with fail
        refine (rdClone_any hu4.out.tt.dev (by have h1 := HD.out.M; have := Hn.out; omega) (by have h1 := HD.out.slots; have := Hn.out; omega) (by have h1 := HD.out.fuses; have := Hn.out; omega)).mono ?_
        rintro e w5 ⟨u', rfl, hu', lu, hB5⟩
        have hq5 := Lib.hid (hu.out.copy Hc.out Lc.out HB4.out hu' lu hB5)
        clear hu' lu hB5 Hc Lc HB4 hu4 hu
        obtain ⟨P1, m1, x1, g0, g1, g2, g3, g4, g5, hok⟩ := Hat.out.below Hbl.out hq5.out.dd.bel
        have Hok := Lib.hid hok
        have hst := Lib.hid (hq5.out.do1 HD.out Hn.out.1.2 Hn.out.2.1.2 HI2.out o _ Hok.out HR.out)
        clear hok
        go_wp2_with (first | (go_at_call 10; refine hst.out.mono ?_; rintro e w7 ⟨A3, n3, k3, rfl, hh⟩; have kb := Blk.new w7 38 #[.string R.1.text, .int .i64 R.1.e]; have hh7 := Lib.hid (hh.out.on ((Below.refl _ w7).alloc (Nat.le_refl _) (.cells #[.string R.1.text, .int .i64 R.1.e] 38))); obtain ⟨P2, m2, x2, g0', g1', g2', g3', g4', g5', hok'⟩ := Hat.out.below Hbl.out hh7.out.dd.bel))
        have Hok' := Lib.hid hok'
        have hst2 := Lib.hid (hh7.out.do2 HD.out Hn.out.1.2 Hn.out.2.1.2 HI2.out o _ Hok'.out HR.out rfl rfl)
        have Kb := Lib.hid kb
        clear hok' hst hh kb g0 g1 g2 g3 g4 g5
        generalize w7.alloc (.cells #[.string R.1.text, .int .i64 R.1.e] 38) = w8 at hh7 hst2 Kb g0' g1' g2' g3' g4' g5' ⊢
        go_wp2_with fail
        refine hst2.out.mono ?_
        rintro e w9 ⟨A4, n4, k4, rfl, hq9, hbk⟩
        have k7 := (hbk.out _ _ Kb.out).alloc (.cells #[.string R.1.text, .int .i64 R.1.e] 38)
        have k9 := Blk.new w9 38 #[.string R.1.text, .int .i64 R.1.e]
        have hq10 := Lib.hid (hq9.out.on ((Below.refl _ w9).alloc (Nat.le_refl _) (.cells #[.string R.1.text, .int .i64 R.1.e] 38)))
        have r0 := k7.cell 0
        have r1 := k7.cell 1
        have s0 := k9.cell 0
        have s1 := k9.cell 1
        clear hst2 hh7 Kb g0' g1' g2' g3' g4' g5' hq9 hbk k7 k9
        go_wp2_with fail
        go_roundw
        case rel => exact ⟨k + 1, c', u', D, A3, n3, k3, A4, n4, k4, Hkl.out, rfl, rfl, rfl, rfl, by go_num, by rw [Hk2.out.1, Hk2.out.2]; exact hq10, HD⟩
        case measure => have := Hkl.out; simp [intOf]; omega
      · have b1 : ((k : Int) == (q : Int)) = false := beq_f (by omega)
        have b2 : (k == q) = false := by simp [hkq]
        have b3 : decide (k = q) = false := decide_eq_false hkq
        have hq5 := hu
        clear hu
        obtain ⟨P1, m1, x1, g0, g1, g2, g3, g4, g5, hok⟩ := Hat.out.below Hbl.out hq5.out.dd.bel
        have Hok := Lib.hid hok
        have hst := Lib.hid (hq5.out.do1 HD.out Hn.out.1.2 Hn.out.2.1.2 HI2.out o _ Hok.out HR.out)
        clear hok
        go_wp2_with (first | (go_at_call 10; refine hst.out.mono ?_; rintro e w7 ⟨A3, n3, k3, rfl, hh⟩; have kb := Blk.new w7 38 #[.string R.1.text, .int .i64 R.1.e]; have hh7 := Lib.hid (hh.out.on ((Below.refl _ w7).alloc (Nat.le_refl _) (.cells #[.string R.1.text, .int .i64 R.1.e] 38))); obtain ⟨P2, m2, x2, g0', g1', g2', g3', g4', g5', hok'⟩ := Hat.out.below Hbl.out hh7.out.dd.bel))
        have Hok' := Lib.hid hok'
        have hst2 := Lib.hid (hh7.out.do2 HD.out Hn.out.1.2 Hn.out.2.1.2 HI2.out o _ Hok'.out HR.out rfl rfl)
        have Kb := Lib.hid kb
        clear hok' hst hh kb g0 g1 g2 g3 g4 g5
        generalize w7.alloc (.cells #[.string R.1.text, .int .i64 R.1.e] 38) = w8 at hh7 hst2 Kb g0' g1' g2' g3' g4' g5' ⊢
        go_wp2_with fail
        refine hst2.out.mono ?_
        rintro e w9 ⟨A4, n4, k4, rfl, hq9, hbk⟩
        have k7 := (hbk.out _ _ Kb.out).alloc (.cells #[.string R.1.text, .int .i64 R.1.e] 38)
        have k9 := Blk.new w9 38 #[.string R.1.text, .int .i64 R.1.e]
        have hq10 := Lib.hid (hq9.out.on ((Below.refl _ w9).alloc (Nat.le_refl _) (.cells #[.string R.1.text, .int .i64 R.1.e] 38)))
        have r0 := k7.cell 0
        have r1 := k7.cell 1
        have s0 := k9.cell 0
        have s1 := k9.cell 1
        clear hst2 hh7 Kb g0' g1' g2' g3' g4' g5' hq9 hbk k7 k9
        go_wp2_with fail
        go_roundw
        case rel => exact ⟨k + 1, cc, uu, C, A3, n3, k3, A4, n4, k4, Hkl.out, rfl, rfl, rfl, rfl, by go_num, by rw [Hk2.out.1, Hk2.out.2]; exact hq10, HC⟩
        case measure => have := Hkl.out; simp [intOf]; omega
    · have hd1 : decide (k < ops.length) = false := decide_eq_false hkl
      obtain ⟨hDok, _⟩ := dUpTo_ok n s f ops Ho.out k hk
      have HD := Lib.hid hDok
      generalize (dUpTo n s f ops k).1 = D at hu HD
      generalize (dUpTo n s f ops k).2 = I at hu
      clear hDok hkl hk
      go_wp2_with fail
      refine (alike_true hu.out.dd.dev hu.out.tt.dev (by have h1 := HD.out.M; have := Hn.out; omega) (by have h1 := HD.out.slots; have := Hn.out; omega) (by have h1 := HD.out.fuses; have := Hn.out; omega)).mono ?_
      rintro e w7 ⟨rfl, hB7⟩
      have hu7 := Lib.hid (hu.out.on hB7)
      clear hB7 hu
      go_wp2_with fail
      refine (alike_true hu7.out.cc hu7.out.uu (by have h1 := HC.out.M; have := Hn.out; omega) (by have h1 := HC.out.slots; have := Hn.out; omega) (by have h1 := HC.out.fuses; have := Hn.out; omega)).mono ?_
      rintro e w8 ⟨rfl, hB8⟩
      have hb8 := Lib.hid (hu7.out.dd.on hB8).bel
      clear hB8 hu7
      go_wp2_with fail
      go_ret
      exact ⟨rfl, hb8.out⟩
/-- The whole. -/
theorem law_plays (x y z : Int) (v : Value) (ops : List DOp) (hv : DOpsAt W v ops) (ho : OpsIn ops) (q : Nat) (hq : q < 256) :
    Calls Tryz.prog 3 #[.agg #[.int .i64 x, .int .i64 y, .int .i64 z], v, .int .u8 q] W fun e w' => e = .returned (.bool true) ∧ Below W.heap.size W w' := by
  have hv0 := hv
  obtain ⟨A, c, rfl, _⟩ := hv
  cases h : (decide (x ≤ 12) && decide ((ops.length : Int) ≤ 60)) with
  | false => exact plays_off x y z A ops.length c q h
  | true =>
    by_cases hz : SizeOk x y z
    · obtain ⟨h1, h2, h3, h4, h5, h6⟩ := hz
      obtain ⟨n, rfl⟩ := Int.eq_ofNat_of_zero_le (show 0 ≤ x by omega)
      obtain ⟨s, rfl⟩ := Int.eq_ofNat_of_zero_le (show 0 ≤ y by omega)
      obtain ⟨f, rfl⟩ := Int.eq_ofNat_of_zero_le (show 0 ≤ z by omega)
      have h7 := (Bool.and_eq_true _ _ ▸ h : _ ∧ _)
      have h8 := of_decide_eq_true h7.1
      have h9 := of_decide_eq_true h7.2
      exact plays_loop n s f ⟨by omega, by omega⟩ ⟨by omega, by omega⟩ ⟨by omega, by omega⟩ h8 _ ops hv0 ho (by omega) q hq
    · exact plays_bad x y z A ops.length c q h hz
end
end Go.Proofs.YtcifkahmeimniaaGreat
