/-
  Layer 33 (zero): the state does not go back.
-/
import Derived.Test.YtgenifcikfbfhaaZerL0
namespace Go.Proofs.Ytgenifcikfbfhaa
open Go.RowKit Go.Shelf
attribute [local go_sem] Oper.semAt_some

section
variable {W : World}
set_option maxRecDepth 100000 in
set_option maxHeartbeats 1600000 in
theorem back_bad (x y z t : Int) (A : Option Addr) (N c : Nat) (A' : Option Addr) (N' c' : Nat) (h : ¬ (1 ≤ x ∧ x ≤ 12 ∧ N ≤ 40 ∧ SizeFit x y z)) :
    Calls Try.prog 4 #[.agg #[.int .i64 x, .int .i64 y, .int .i64 z], .slice A N c, .int .i64 t, .slice A' N' c'] W fun e w' => e = .returned (.bool true) ∧ Below W.heap.size W w' := by
  obtain ⟨hk, hB⟩ := zbox W x y z
  have hs : (W.alloc (.cells #[.int .i64 x, .int .i64 y, .int .i64 z] 23)).heap.size = W.heap.size + 1 := by simp
  have HB := Lib.hid hB
  have HD := Lib.hid (build_bad (W.alloc (.cells #[.int .i64 x, .int .i64 y, .int .i64 z] 23)) x y z A N c h)
  clear hk hB h
  go_enter Try.func4, Try.ntmps4
  go_wp2_with (first | (go_at_call 7; refine HD.out.mono ?_; rintro e w1 ⟨rfl, hB⟩; have HX := Lib.hid (HB.out.trans (hB.mono HB.out.size)); clear hB) | (go_at_call 8; refine (sanity_true _).mono ?_; rintro e w2 ⟨rfl, hB⟩; have HY := Lib.hid (HX.out.trans (hB.mono HX.out.size)); clear hB))
  go_ret
  exact ⟨rfl, HY.out⟩
set_option maxRecDepth 100000 in
set_option maxHeartbeats 4000000 in
theorem back_loop (n s f : Nat) (hn : 1 ≤ n ∧ n ≤ 12) (hs : 1 ≤ s ∧ s ≤ 16) (hf : 1 ≤ f ∧ f ≤ 16) (t : Int) (ht : -9223372036854775808 ≤ t ∧ t ≤ 9223372036854775807) (v u : Value) (ops more : List DOp) (hv : DOpsAt W v ops) (ho : OpsIn ops) (hN : ops.length ≤ 40) (hu : DOpsAt W u more) (hm : OpsIn more) :
    Calls Try.prog 4 #[.agg #[.int .i64 n, .int .i64 s, .int .i64 f], v, .int .i64 t, u] W fun e w' => e = .returned (.bool true) ∧ Below W.heap.size W w' := by
  obtain ⟨hk, hB⟩ := zbox W n s f
  obtain ⟨W1, hW1⟩ : ∃ W1, W.alloc (.cells #[.int .i64 n, .int .i64 s, .int .i64 f] 23) = W1 := ⟨_, rfl⟩
  rw [hW1] at hB hk
  have HD := Lib.hid (build_st W1 n s f hn hs hf v ops (hv.below hB) ho hN)
  have hu1 := hu.below hB
  obtain ⟨A, c, rfl, _⟩ := hv
  obtain ⟨A', c', rfl, hA⟩ := hu1
  have Hm := Lib.hid hm
  have HA := Lib.hid hA
  have HB := Lib.hid hB
  have HT := Lib.hid ht
  have q0 := hk.cell 0
  have q1 := hk.cell 1
  have q2 := hk.cell 2
  clear hu hB hk ho hm hA ht hN hn hs hf
  go_enter Try.func4, Try.ntmps4
  by_cases hl : more.length ≤ 40
  · have dl : decide (40 < more.length) = false := decide_eq_false (by omega)
    have dl' : decide (40 < (more.length : Int)) = false := decide_eq_false (by omega)
    go_wp2_with (first | (go_at_call 7; refine HD.out.mono ?_; rintro e w1 ⟨a, D0, rfl, h0⟩) | (go_at_call 13; refine (h0.out.trip t HT.out).mono ?_; rintro e w2 ⟨rfl, h1, _⟩) | (go_at_call 14; refine h1.out.begin_.mono ?_; rintro e w3 ⟨rfl, h2, _⟩) | (go_at_call 16; refine h2.out.state.mono ?_; rintro e w4 ⟨rfl, rfl⟩))
    obtain ⟨D3, hD3⟩ : ∃ D3, (zbegin (ztrip t D0)).2 = D3 := ⟨_, rfl⟩
    rw [hD3] at h2 ⊢
    clear h0 h1 HD
    go_loopw [10, 11, 12] (fun st vi i wr => ∃ (k : Nat) (D : Dev) (iA : Option Addr) (iN iC : Nat) (I : List ByteArray), k ≤ more.length ∧ st = .int .i64 (zstate D) ∧ vi = .slice iA iN iC ∧ i = .int .i64 k ∧ Hid (ZSt W1 wr a n s f D) ∧ Hid (Img wr (.slice iA iN iC) I a) ∧ Hid (I = [] ∨ I.length = n)) (fun _ _ i _ => more.length - (intOf i).toNat)
    case atStart => exact ⟨0, D3, none, 0, 0, [], Nat.zero_le _, rfl, rfl, rfl, h2, Img.nil _ _, .inl rfl⟩
    case round =>
      obtain ⟨k, D, iA, iN, iC, I, hk, rfl, rfl, rfl, hd, hI, hIl⟩ := hrel
      clear h2
      have hwk : wrap64 ((k : Int) + 1) = (k : Int) + 1 := by unfold wrap64; omega
      by_cases hkl : k < more.length
      · have Hkl := Lib.hid hkl
        obtain ⟨o, hk0⟩ : ∃ o, more[k]? = some o := ⟨_, List.getElem?_eq_getElem hkl⟩
        obtain ⟨B, off, rfl, hbl, hat⟩ := HA.out (by omega)
        obtain ⟨A1, n1, cc, g0, g1, g2, g3, g4, g5, hok⟩ := (hat k o hk0).below hbl hd.out.dev.bel
        obtain ⟨R, hR⟩ : ∃ R, dplay o D I = R := ⟨_, rfl⟩
        have hst := Lib.hid (hd.out.play hI.out hIl.out o (Hm.out k o hk0) _ hok hR)
        have z1 : zstate D ≤ zstate R.2.1 := by rw [← hR]; exact zstate_fwd (dplay_fwd o D I)
        have z2 : zstate D ≤ zstate (zresume R.2.1).2 := Int.le_trans z1 (zstate_fwd (zresume_fwd _))
        have y1 : decide (zstate R.2.1 < zstate D) = false := decide_eq_false (by omega)
        have y2 : decide (zstate (zresume R.2.1).2 < zstate D) = false := decide_eq_false (by omega)
        have hd1 : decide (k < more.length) = true := decide_eq_true hkl
        clear hok hd hI hIl hR hkl hat hk0 z1 z2
        obtain ⟨M3, hM3⟩ : ∃ M3, (k : Int).tmod 3 = M3 := ⟨_, rfl⟩
        by_cases h3 : M3 = 0
        · subst h3
          go_wp2_with (first | (go_at_call 17; refine hst.out.mono ?_; rintro e w5 ⟨A2, n2, c2, rfl, hl, hI2, hIl2, hF⟩) | (go_at_call 18; refine hl.out.resume.mono ?_; rintro e w6 ⟨rfl, hl3, hF3⟩; have hI3 := Lib.hid (DLeft.img hF3.out hl.out.dev.dev hI2.out)) | (go_at_call 16; refine hl3.out.state.mono ?_; rintro e w7 ⟨rfl, rfl⟩))
          go_roundw
          case rel => exact ⟨k + 1, _, A2, n2, c2, _, Hkl.out, rfl, rfl, by go_num, hl3, hI3, hIl2⟩
          case measure => have := Hkl.out; simp [intOf]; omega
        · have d3 : (M3 == 0) = false := by simpa using h3
          clear h3
          go_wp2_with (first | (go_at_call 17; refine hst.out.mono ?_; rintro e w5 ⟨A2, n2, c2, rfl, hl, hI2, hIl2, hF⟩) | (go_at_call 16; refine hl.out.state.mono ?_; rintro e w7 ⟨rfl, rfl⟩))
          go_roundw
          case rel => exact ⟨k + 1, _, A2, n2, c2, _, Hkl.out, rfl, rfl, by go_num, hl, hI2, hIl2⟩
          case measure => have := Hkl.out; simp [intOf]; omega
      · have hd1 : decide (k < more.length) = false := decide_eq_false hkl
        clear hkl
        go_wp2_with (first | (go_at_call 8; refine hd.out.sane.mono ?_; rintro e w7 ⟨rfl, hd2⟩))
        go_ret
        exact ⟨rfl, HB.out.trans (hd2.out.dev.bel.mono HB.out.size)⟩
  · have dl : decide (40 < more.length) = true := decide_eq_true (by omega)
    have dl' : decide (40 < (more.length : Int)) = true := decide_eq_true (by omega)
    clear hl
    go_wp2_with (first | (go_at_call 7; refine HD.out.mono ?_; rintro e w1 ⟨a, D0, rfl, h0⟩) | (go_at_call 8; refine h0.out.sane.mono ?_; rintro e w7 ⟨rfl, hd2⟩))
    go_ret
    exact ⟨rfl, HB.out.trans (hd2.out.dev.bel.mono HB.out.size)⟩
/-- The whole. -/
theorem law_back (x y z t : Int) (ht : -9223372036854775808 ≤ t ∧ t ≤ 9223372036854775807) (v u : Value) (ops more : List DOp) (hv : DOpsAt W v ops) (ho : OpsIn ops) (hu : DOpsAt W u more) (hm : OpsIn more) :
    Calls Try.prog 4 #[.agg #[.int .i64 x, .int .i64 y, .int .i64 z], v, .int .i64 t, u] W fun e w' => e = .returned (.bool true) ∧ Below W.heap.size W w' := by
  by_cases hz : 1 ≤ x ∧ x ≤ 12 ∧ ops.length ≤ 40 ∧ SizeFit x y z
  · obtain ⟨k1, k2, k3, h1, h2, h3, h4, h5, h6⟩ := hz
    obtain ⟨n, rfl⟩ := Int.eq_ofNat_of_zero_le (show 0 ≤ x by omega)
    obtain ⟨s, rfl⟩ := Int.eq_ofNat_of_zero_le (show 0 ≤ y by omega)
    obtain ⟨f, rfl⟩ := Int.eq_ofNat_of_zero_le (show 0 ≤ z by omega)
    exact back_loop n s f ⟨by omega, by omega⟩ ⟨by omega, by omega⟩ ⟨by omega, by omega⟩ t ht v u ops more hv ho k3 hu hm
  · obtain ⟨A, c, rfl, _⟩ := hv
    obtain ⟨A', c', rfl, _⟩ := hu
    exact back_bad x y z t A ops.length c A' more.length c' hz
end
end Go.Proofs.Ytgenifcikfbfhaa
