/-
  Layer 33 (zero): Resume makes exactly Steps steps.
-/
import Derived.Test.YtgenifcikfbfhaaZerL1
namespace Go.Proofs.Ytgenifcikfbfhaa
open Go.RowKit Go.Shelf
attribute [local go_sem] Oper.semAt_some

section
variable {n s f : Nat} {D : Dev}
theorem mounted (P : List Int) (D : Dev) : (zmount P D).down = false ∧ (zmount P D).left = -1 := ⟨rfl, rfl⟩
theorem zstate_two {D : Dev} (h : fuseB D 1 = true) : zstate D = 2 := by unfold zstate; rw [if_pos h]
theorem zcount_two {D : Dev} (h : fuseB D 1 = true) : zcount D = 0 := by
  unfold zcount
  rw [zstate_two h, if_pos (by decide)]
/-- Burning the first fuse of a device that is up for good. -/
theorem burn_first (hd : D.down = false) (hl : D.left = -1) (hf : 0 < D.fuses.length) : zburn 0 D = (0, { D with fuses := D.fuses.set 0 true }) := by
  have hc : chk (inS D.fuses (0 : Int)) = 0 := by
    unfold chk
    rw [if_pos ⟨by omega, by omega⟩]
  rw [zburn_zero, hc, dstep_up D _ hd, if_neg (by omega), hl]
  obtain ⟨a1, a2, a3, a4, a5, a6, a7⟩ := D
  rfl
theorem burn_first_state (hf : 0 < D.fuses.length) (h1 : fuseB D 1 = false) : zstate { D with fuses := D.fuses.set 0 true } = 1 := by
  have g0 : fuseB { D with fuses := D.fuses.set 0 true } 0 = true := by
    unfold fuseB
    rw [List.getD_eq_getElem?_getD, List.getElem?_set_self hf]
    rfl
  have g1 : fuseB { D with fuses := D.fuses.set 0 true } 1 = false := by
    unfold fuseB at h1 ⊢
    rw [List.getD_eq_getElem?_getD, List.getElem?_set_ne (by omega), ← List.getD_eq_getElem?_getD]
    exact h1
  unfold zstate
  rw [if_neg (by rw [g1]; decide), if_pos g0]
theorem steps_plain (hok : D.Ok n s f) (hf : 2 ≤ f) (hd : D.down = false) (hl : D.left = -1) (h1 : fuseB D 1 = false) :
    zcount (zburn 0 D).2 = s + n + 2 ∧ (zresume (ztrip (s + n + 2 : Nat) (zburn 0 D).2)).1 = 0 ∧ (zresume (ztrip (s + n + 2 : Nat) (zburn 0 D).2)).2.down = false ∧ zstate (zresume (ztrip (s + n + 2 : Nat) (zburn 0 D).2)).2 = 2 ∧
    ∀ m : Nat, m < s + n + 2 → (zresume (ztrip m (zburn 0 D).2)).1 = 14 ∧ (zresume (ztrip m (zburn 0 D).2)).2.down = true ∧ zstate (zresume (ztrip m (zburn 0 D).2)).2 = 1 := by
  have hfl := hok.fuses
  rw [burn_first hd hl (by omega)]
  dsimp only
  have hz := burn_first_state (D := D) (by omega) h1
  generalize hE : ({ D with fuses := D.fuses.set 0 true } : Dev) = E at hz ⊢
  have e1 : E.slots.length = s := by rw [← hE]; exact hok.slots
  have e2 : E.M.length = n := by rw [← hE]; exact hok.M
  have e3 : 1 < E.fuses.length := by rw [← hE]; simp; omega
  have e4 : E.down = false := by rw [← hE]; exact hd
  have e5 : Fine E.M := by rw [← hE]; exact hok.fine
  refine ⟨?_, ?_⟩
  · unfold zcount
    rw [hz, if_neg (by decide), e4, e1, e2]
    rfl
  have ht : ∀ m : Nat, (ztrip m E).left = m := fun m => by show max (m : Int) (-1) = m; omega
  have h3 := zresume_enough (ztrip (s + n + 2 : Nat) E) e4 hz e3 (s + n + 2) (ht _) (by show E.slots.length + E.M.length + 2 ≤ _; omega)
  refine ⟨by rw [h3], ?_, ?_, fun m hm => ?_⟩
  · rw [h3]
    show (zeffs _ (ztrip _ E)).down = false
    rw [zeffs_down]
    exact e4
  · rw [h3]
    exact zstate_done (D := ztrip (s + n + 2 : Nat) E) e3 (zeffs_all_fuses _ _ _)
  · exact zresume_less (ztrip m E) e4 hz e3 m (ht m) (by show m < E.slots.length + E.M.length + 2; omega)
end
section
variable {W W1 w : World} {a : DAt} {n s f : Nat} {D : Dev}
theorem ZSt.box {b : Nat} {x y z : Value} (h : ZSt W1 w a n s f D) (hk : Blk W1 b 23 #[x, y, z]) : w.cell? ⟨b, 0, none⟩ = some x ∧ w.cell? ⟨b, 1, none⟩ = some y ∧ w.cell? ⟨b, 2, none⟩ = some z := by
  have h1 := hk.below h.dev.bel hk.lt
  exact ⟨h1.cell 0, h1.cell 1, h1.cell 2⟩
set_option maxRecDepth 100000 in
set_option maxHeartbeats 1600000 in
theorem steps_bad (x y z t : Int) (A : Option Addr) (N c : Nat) (h : ¬ (1 ≤ x ∧ x ≤ 12 ∧ N ≤ 40 ∧ SizeFit x y z)) :
    Calls Try.prog 6 #[.agg #[.int .i64 x, .int .i64 y, .int .i64 z], .slice A N c, .int .i64 t] W fun e w' => e = .returned (.bool true) ∧ Below W.heap.size W w' := by
  obtain ⟨hk, hB⟩ := zbox W x y z
  have HB := Lib.hid hB
  have HD := Lib.hid (build_bad (W.alloc (.cells #[.int .i64 x, .int .i64 y, .int .i64 z] 23)) x y z A N c h)
  clear hk hB h
  go_enter Try.func6, Try.ntmps6
  go_wp2_with (first | (go_at_call 7; refine HD.out.mono ?_; rintro e w1 ⟨rfl, hB⟩; have HX := Lib.hid (HB.out.trans (hB.mono HB.out.size)); clear hB) | (go_at_call 8; refine (sanity_true _).mono ?_; rintro e w2 ⟨rfl, hB⟩; have HY := Lib.hid (HX.out.trans (hB.mono HX.out.size)); clear hB))
  go_ret
  exact ⟨rfl, HY.out⟩
set_option maxRecDepth 100000 in
set_option maxHeartbeats 4000000 in
theorem steps_main (n s f : Nat) (hn : 1 ≤ n ∧ n ≤ 12) (hs : 1 ≤ s ∧ s ≤ 16) (hf : 1 ≤ f ∧ f ≤ 16) (t : Int) (ht : -9223372036854775808 ≤ t ∧ t ≤ 9223372036854775807) (v : Value) (ops : List DOp) (hv : DOpsAt W v ops) (ho : OpsIn ops) (hN : ops.length ≤ 40) :
    Calls Try.prog 6 #[.agg #[.int .i64 n, .int .i64 s, .int .i64 f], v, .int .i64 t] W fun e w' => e = .returned (.bool true) ∧ Below W.heap.size W w' := by
  obtain ⟨hk, hB⟩ := zbox W n s f
  obtain ⟨W1, hW1⟩ : ∃ W1, W.alloc (.cells #[.int .i64 n, .int .i64 s, .int .i64 f] 23) = W1 := ⟨_, rfl⟩
  rw [hW1] at hB hk
  have HD := Lib.hid (build_st W1 n s f hn hs hf v ops (hv.below hB) ho hN)
  obtain ⟨A, c, rfl, _⟩ := hv
  have HB := Lib.hid hB
  have HK := Lib.hid hk
  have q0 := hk.cell 0
  have q1 := hk.cell 1
  have q2 := hk.cell 2
  clear hB hk ho hN
  by_cases hf2 : f < 2
  · have d1 : decide ((f : Int) < 2) = true := decide_eq_true (by omega)
    have d1' : decide (f < 2) = true := decide_eq_true hf2
    clear hf2 hf hs hn ht
    go_enter Try.func6, Try.ntmps6
    go_wp2_with (first | (go_at_call 7; refine HD.out.mono ?_; rintro e w1 ⟨a, D0, rfl, h0⟩; obtain ⟨r0, r1, r2⟩ := h0.out.box HK.out) | (go_at_call 8; refine h0.out.sane.mono ?_; rintro e w7 ⟨rfl, hd2⟩))
    go_ret
    exact ⟨rfl, HB.out.trans (hd2.out.dev.bel.mono HB.out.size)⟩
  have d1 : decide ((f : Int) < 2) = false := decide_eq_false (by omega)
  have d1' : decide (f < 2) = false := decide_eq_false hf2
  by_cases ht0 : t < 0
  · have d2 : decide (t < 0) = true := decide_eq_true ht0
    clear hf2 hf hs hn ht ht0
    go_enter Try.func6, Try.ntmps6
    go_wp2_with (first | (go_at_call 7; refine HD.out.mono ?_; rintro e w1 ⟨a, D0, rfl, h0⟩; obtain ⟨r0, r1, r2⟩ := h0.out.box HK.out) | (go_at_call 8; refine h0.out.sane.mono ?_; rintro e w7 ⟨rfl, hd2⟩))
    go_ret
    exact ⟨rfl, HB.out.trans (hd2.out.dev.bel.mono HB.out.size)⟩
  have d2 : decide (t < 0) = false := decide_eq_false ht0
  have hw1 : wrap64 ((s : Int) + n) = (s : Int) + n := by unfold wrap64; omega
  have hw2 : wrap64 ((s : Int) + n + 2) = (s : Int) + n + 2 := by unfold wrap64; omega
  obtain ⟨N, hNN⟩ : ∃ N : Int, (s : Int) + n + 2 = N := ⟨_, rfl⟩
  have hw3 : wrap64 (N - 1) = N - 1 := by unfold wrap64; omega
  have hw4 : wrap64 (N - 1 - t) = N - 1 - t := by unfold wrap64; omega
  obtain ⟨m, hmm⟩ : ∃ m : Nat, max 0 (N - 1 - t) = (m : Int) := ⟨(max 0 (N - 1 - t)).toNat, by omega⟩
  have hlt : Hid (m < s + n + 2) := by unfold Hid; omega
  have hNb : Hid (N = (s + n + 2 : Nat) ∧ -9223372036854775808 ≤ N ∧ N ≤ 9223372036854775807) := by unfold Hid; refine ⟨by omega, by omega, by omega⟩
  have hmb : Hid (-9223372036854775808 ≤ (m : Int) ∧ (m : Int) ≤ 9223372036854775807) := by unfold Hid; refine ⟨by omega, by omega⟩
  have Hf2 := Lib.hid hf2
  rw [hNN] at hw2
  clear hf2 hf hs hn ht ht0
  go_enter Try.func6, Try.ntmps6
  go_wp2_with fail
  refine HD.out.mono ?_
  rintro e w1 ⟨a, D0, rfl, h0⟩
  obtain ⟨r0, r1, r2⟩ := h0.out.box HK.out
  go_wp2_with fail
  refine h0.out.mount0.mono ?_
  rintro e w2 ⟨rfl, h1, _⟩
  obtain ⟨m1, m2⟩ := mounted [] D0
  generalize zmount [] D0 = D1 at h1 m1 m2
  go_wp2_with fail
  refine (h1.out.burned 1).mono ?_
  rintro e w3 ⟨rfl, rfl⟩
  cases hb : fuseB D1 1 with
  | true =>
    have hz := zcount_two hb
    go_wp2_with fail
    refine h1.out.sane.mono ?_
    rintro e w4 ⟨rfl, h2⟩
    have hst := h2.out.steps
    rw [hz] at hst
    have Hst := Lib.hid hst
    clear hst
    go_wp2_with fail
    refine Hst.out.mono ?_
    rintro e w5 ⟨rfl, h3, _⟩
    go_wp2_with fail
    go_ret
    exact ⟨rfl, HB.out.trans (h3.out.dev.bel.mono HB.out.size)⟩
  | false =>
    have hp := Lib.hid (steps_plain h1.out.ok (by have := Hf2.out; omega) m1 m2 hb)
    clear m1 m2
    go_wp2_with fail
    refine (h1.out.burn 0 (by decide)).mono ?_
    rintro e w4 ⟨rfl, h2, _⟩
    generalize (zburn 0 D1).2 = D2 at h2 hp
    obtain ⟨p1, p2, p3, p4, p5⟩ := hp.out
    obtain ⟨p6, p7, p8⟩ := p5 m hlt.out
    have hst := h2.out.steps
    rw [p1, ← hNb.out.1] at hst
    rw [← hNb.out.1] at p2 p3 p4
    have Hst := Lib.hid hst
    clear hst hp p1 p5
    go_wp2_with fail
    refine Hst.out.mono ?_
    rintro e w5 ⟨rfl, h3, _⟩
    obtain ⟨r0, r1, r2⟩ := h3.out.box HK.out
    go_wp2_with fail
    refine h3.out.clone.mono ?_
    rintro e w6 ⟨c, rfl, hc, h4, hap⟩
    go_wp2_with fail
    refine (hc.out.trip N hNb.out.2).mono ?_
    rintro e w7 ⟨rfl, hc1, hF1⟩
    have h5 := Lib.hid (hc.out.beside h4.out hap.out hF1.out)
    clear h4 hc
    have hre := hc1.out.resume
    rw [p2] at hre
    have Hre := Lib.hid hre
    clear hre
    go_wp2_with fail
    refine Hre.out.mono ?_
    rintro e w8 ⟨rfl, hc2, hF2⟩
    have h6 := Lib.hid (hc1.out.beside h5.out hap.out hF2.out)
    have hup := hc2.out.up
    rw [p3] at hup
    have Hup := Lib.hid hup
    have hsx := hc2.out.state
    rw [p4] at hsx
    have Hsx := Lib.hid hsx
    clear h5 hup hsx
    go_wp2_with fail
    refine Hup.out.mono ?_
    rintro e w9 ⟨rfl, rfl⟩
    go_wp2_with fail
    refine Hsx.out.mono ?_
    rintro e w9 ⟨rfl, rfl⟩
    go_wp2_with fail
    refine (h6.out.trip m hmb.out).mono ?_
    rintro e w10 ⟨rfl, h7, _⟩
    have hre := h7.out.resume
    rw [p6] at hre
    have Hre2 := Lib.hid hre
    clear hre
    go_wp2_with fail
    refine Hre2.out.mono ?_
    rintro e w11 ⟨rfl, h8, _⟩
    go_wp2_with fail
    refine h8.out.sane.mono ?_
    rintro e w12 ⟨rfl, h9⟩
    have hup := h9.out.up
    rw [p7] at hup
    have Hup2 := Lib.hid hup
    have hsx := h9.out.state
    rw [p8] at hsx
    have Hsx2 := Lib.hid hsx
    clear hup hsx
    go_wp2_with fail
    refine Hup2.out.mono ?_
    rintro e w13 ⟨rfl, rfl⟩
    go_wp2_with fail
    refine Hsx2.out.mono ?_
    rintro e w13 ⟨rfl, rfl⟩
    go_wp2_with fail
    go_ret
    exact ⟨rfl, HB.out.trans (h9.out.dev.bel.mono HB.out.size)⟩
/-- The whole. -/
theorem law_steps (x y z t : Int) (ht : -9223372036854775808 ≤ t ∧ t ≤ 9223372036854775807) (v : Value) (ops : List DOp) (hv : DOpsAt W v ops) (ho : OpsIn ops) :
    Calls Try.prog 6 #[.agg #[.int .i64 x, .int .i64 y, .int .i64 z], v, .int .i64 t] W fun e w' => e = .returned (.bool true) ∧ Below W.heap.size W w' := by
  by_cases hz : 1 ≤ x ∧ x ≤ 12 ∧ ops.length ≤ 40 ∧ SizeFit x y z
  · obtain ⟨k1, k2, k3, h1, h2, h3, h4, h5, h6⟩ := hz
    obtain ⟨n, rfl⟩ := Int.eq_ofNat_of_zero_le (show 0 ≤ x by omega)
    obtain ⟨s, rfl⟩ := Int.eq_ofNat_of_zero_le (show 0 ≤ y by omega)
    obtain ⟨f, rfl⟩ := Int.eq_ofNat_of_zero_le (show 0 ≤ z by omega)
    exact steps_main n s f ⟨by omega, by omega⟩ ⟨by omega, by omega⟩ ⟨by omega, by omega⟩ t ht v ops hv ho k3
  · obtain ⟨A, c, rfl, _⟩ := hv
    exact steps_bad x y z t A ops.length c hz
end
end Go.Proofs.Ytgenifcikfbfhaa
