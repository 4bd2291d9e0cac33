/-
  Layer 29 (session): the law of what is accepted.
-/
import Derived.Test.YtbhagfdkipgggaaDoorSesP5
import Derived.Deep.Cut
namespace Go.Proofs.YtbhagfdkipgggaaDoor
open Go.RowKit Go.Shelf
attribute [local go_sem] Oper.semAt_some
/-- The four arguments in memory. -/
def Four (w0 wx : World) (g0 g1 g2 g3 : Nat) (c0 c1 c2 c3 : Array Value) : Prop :=
  Blk wx g0 32 c0 ∧ Blk wx g1 42 c1 ∧ Blk wx g2 23 c2 ∧ Blk wx g3 25 c3 ∧ Below w0.heap.size w0 wx
section
variable {w0 wx wy : World} {g0 g1 g2 g3 : Nat} {c0 c1 c2 c3 : Array Value}
theorem Four.bel (h : Four w0 wx g0 g1 g2 g3 c0 c1 c2 c3) : Below w0.heap.size w0 wx := h.2.2.2.2
theorem Four.below (h : Four w0 wx g0 g1 g2 g3 c0 c1 c2 c3) (hB : Below wx.heap.size wx wy) : Four w0 wy g0 g1 g2 g3 c0 c1 c2 c3 :=
  ⟨h.1.below hB h.1.lt, h.2.1.below hB h.2.1.lt, h.2.2.1.below hB h.2.2.1.lt, h.2.2.2.1.below hB h.2.2.2.1.lt, h.bel.trans (hB.mono h.bel.size)⟩
theorem Four.alloc (h : Four w0 wx g0 g1 g2 g3 c0 c1 c2 c3) (o : Obj) : Four w0 (wx.alloc o) g0 g1 g2 g3 c0 c1 c2 c3 :=
  h.below ((Below.refl _ wx).alloc (Nat.le_refl _) o)
theorem Four.other {N : Nat} (h : Four w0 wx g0 g1 g2 g3 c0 c1 c2 c3) (v : Value) {j : Nat} (hl : g0 < N ∧ g1 < N ∧ g2 < N ∧ g3 < N ∧ w0.heap.size ≤ N) : Four w0 (wx.setCell ⟨N, j, none⟩ v) g0 g1 g2 g3 c0 c1 c2 c3 :=
  ⟨h.1.other (by show g0 ≠ N; omega) _, h.2.1.other (by show g1 ≠ N; omega) _, h.2.2.1.other (by show g2 ≠ N; omega) _, h.2.2.2.1.other (by show g3 ≠ N; omega) _, h.bel.setCell (p := ⟨N, j, none⟩) hl.2.2.2.2 _⟩
theorem Four.under (h : Four w0 wx g0 g1 g2 g3 c0 c1 c2 c3) : g0 < wx.heap.size ∧ g1 < wx.heap.size ∧ g2 < wx.heap.size ∧ g3 < wx.heap.size ∧ w0.heap.size ≤ wx.heap.size := ⟨h.1.lt, h.2.1.lt, h.2.2.1.lt, h.2.2.2.1.lt, h.bel.size⟩
end
theorem four_new (w : World) (c0 c1 c2 c3 : Array Value) : Four w ((((w.alloc (.cells c0 32)).alloc (.cells c1 42)).alloc (.cells c2 23)).alloc (.cells c3 25)) w.heap.size (w.heap.size + 1) (w.heap.size + 1 + 1) (w.heap.size + 1 + 1 + 1) c0 c1 c2 c3 := by
  refine ⟨((((Blk.new w _ _).alloc _).alloc _).alloc _), (((blk_new2 _ _ _ _).alloc _).alloc _), ((blk_new3 _ _ _ _ _).alloc _), ?_, ?_⟩
  · have h := Blk.new (((w.alloc (.cells c0 32)).alloc (.cells c1 42)).alloc (.cells c2 23)) 25 c3
    simp only [World.size_alloc] at h
    exact h
  · exact ((((Below.refl w.heap.size w).alloc (Nat.le_refl _) _).alloc (by simp only [World.size_alloc]; omega) _).alloc (by simp only [World.size_alloc]; omega) _).alloc (by simp only [World.size_alloc]; omega) _
theorem blk7_24 {w : World} {g : Nat} {t : TypeId} {x0 x1 x2 x3 x4 x5 x6 : Value} (h : Blk w g t #[x0, x1, x2, x3, x4, x5, x6]) (a b : Value) : Blk ((w.setCell ⟨g, 2, none⟩ a).setCell ⟨g, 4, none⟩ b) g t #[x0, x1, a, x3, b, x5, x6] := by
  have h1 := (h.set_ 2 a).set_ 4 b
  simpa only [List.setIfInBounds_toArray, List.set_cons_zero, List.set_cons_succ] using h1
set_option maxRecDepth 100000 in
set_option maxHeartbeats 8000000 in
theorem law_auth (w : World) (s : Ses) (m : Msg) (sec : ByteArray) (h : Hel) (wl : Wel) (hK : KAt w 1) (hs : s.key.size ≤ 400 → s.Fits) :
    Calls Tryd.prog 9 #[sesV s, msgV m, .string sec, helV h, welV wl] w fun e w' => e = .returned (.bool true) ∧ Below w.heap.size w w' := by
  have HSA : Hid (∀ wx, Below w.heap.size w wx → Calls Tryd.prog 10 #[] wx fun e w' => e = .returned (.bool true) ∧ Below wx.heap.size wx w') := fun wx hB => sanity_any wx (hK.below hB)
  by_cases z0 : s.key.size ≤ 400
  · by_cases z1 : m.text.size ≤ 400
    · by_cases z2 : sec.size ≤ 100
      · by_cases z3 : h.nonce.size ≤ 100
        · by_cases z4 : wl.nonce.size ≤ 100
          · have hfit := hs z0
            have HR : Hid (∀ wx, Below w.heap.size w wx → Calls Tryd.prog 19 #[sesV s, msgV m] wx fun e w' => e = .returned (.tuple #[sesV (receiveP s m).1, .string (receiveP s m).2.1, .int .i64 ((receiveP s m).2.2 : Nat)]) ∧ Below wx.heap.size wx w') := fun wx hB => receive_any wx s m hfit (by omega) (hK.below hB)
            have HA : Hid (∀ wx, Below w.heap.size w wx → Calls Tryd.prog 13 #[.string sec, helV h, .int .i64 wl.sess, .string wl.nonce] wx fun e w' => e = .returned (.tuple #[sesV (acceptP sec h wl.sess wl.nonce).1, welV (acceptP sec h wl.sess wl.nonce).2.1, .int .i64 ((acceptP sec h wl.sess wl.nonce).2.2 : Nat)]) ∧ Below wx.heap.size wx w') := fun wx hB => accept_any wx sec wl.nonce h wl.sess (hK.below hB)
            have HJ : Hid (∀ wx, Below w.heap.size w wx → Calls Tryd.prog 15 #[.string sec, helV h, welV wl] wx fun e w' => e = .returned (.tuple #[sesV (joinP sec h wl).1, .int .i64 ((joinP sec h wl).2 : Nat)]) ∧ Below wx.heap.size wx w') := fun wx hB => joinS_any wx sec h wl (hK.below hB)
            have hR1 : (receiveP s m).2.2 = 0 → (1 ≤ m.num ∧ m.num ≤ 4294967296 ∧ (s.side = 1 ∨ s.side = 2)) ∧ ∃ S2, Hid (∀ wx, Below w.heap.size w wx → Calls Tryd.prog 17 #[sesV { s with side := 3 - s.side, sent := m.num - 1 }, .string (receiveP s m).2.1] wx fun e w' => e = .returned (.tuple #[sesV S2, msgV m, .int .i64 0]) ∧ Below wx.heap.size wx w') := fun he => by
              obtain ⟨n1, n2, n3, n4, n5, n6⟩ := receive_sent s m he
              have hf2 : Ses.Fits { s with side := 3 - s.side, sent := m.num - 1 } := by
                obtain ⟨f1, f2, f3, f4, f5, f6, f7⟩ := hfit
                exact ⟨f1, f2, by dsimp only; omega, by dsimp only; omega, f5, f6, f7⟩
              refine ⟨⟨n1, n2, n3⟩, (sendP { s with side := 3 - s.side, sent := m.num - 1 } (receiveP s m).2.1).1, fun wx hB => ?_⟩
              have h1 := send_any wx _ (receiveP s m).2.1 hf2 (by omega) (hK.below hB)
              rw [n6] at h1
              exact h1
            have hA1 : (acceptP sec h wl.sess wl.nonce).2.2 = 0 → Hid (∀ wx, Below w.heap.size w wx → Calls Tryd.prog 11 #[.string sec, .int .i64 h.role, .string h.nonce] wx fun e w' => e = .returned (.tuple #[helV h, .int .i64 0]) ∧ Below wx.heap.size wx w') := fun he wx hB => by
              have h1 := greet_any wx sec h.nonce h.role (hK.below hB)
              rw [accept_greet sec h wl.sess wl.nonce he] at h1
              exact h1
            have hJ1 : (joinP sec h wl).2 = 0 → ∃ (own : Hel) (S3 : Ses), Hid (∀ wx, Below w.heap.size w wx → Calls Tryd.prog 11 #[.string sec, .int .i64 h.role, .string h.nonce] wx fun e w' => e = .returned (.tuple #[helV own, .int .i64 0]) ∧ Below wx.heap.size wx w') ∧ Hid (∀ wx, Below w.heap.size w wx → Calls Tryd.prog 13 #[.string sec, helV own, .int .i64 wl.sess, .string wl.nonce] wx fun e w' => e = .returned (.tuple #[sesV S3, welV wl, .int .i64 0]) ∧ Below wx.heap.size wx w') := fun he => by
              obtain ⟨own, S3, q1, q2⟩ := join_accept sec h wl he
              refine ⟨own, S3, fun wx hB => ?_, fun wx hB => ?_⟩
              · have h1 := greet_any wx sec h.nonce h.role (hK.below hB)
                rw [q1] at h1
                exact h1
              · have h1 := accept_any wx sec wl.nonce own wl.sess (hK.below hB)
                rw [q2] at h1
                exact h1
            have dS : decide ((400 : Int) < (s.key.size : Int)) = false := decide_eq_false (by omega)
            have dM : decide ((400 : Int) < (m.text.size : Int)) = false := decide_eq_false (by omega)
            have dX : decide ((100 : Int) < (sec.size : Int)) = false := decide_eq_false (by omega)
            have dH : decide ((100 : Int) < (h.nonce.size : Int)) = false := decide_eq_false (by omega)
            have dW : decide ((100 : Int) < (wl.nonce.size : Int)) = false := decide_eq_false (by omega)
            clear hfit hs hK z0 z1 z2 z3 z4
            generalize receiveP s m = R at *
            generalize acceptP sec h wl.sess wl.nonce = AC at *
            generalize joinP sec h wl = JO at *
            obtain ⟨⟨r0, r1, r2, r3, r4, r5, r6⟩, TX, E1⟩ := R
            obtain ⟨⟨a0, a1, a2, a3, a4, a5, a6⟩, ⟨b0, b1, b2⟩, E2⟩ := AC
            obtain ⟨⟨j0, j1, j2, j3, j4, j5, j6⟩, E3⟩ := JO
            obtain ⟨id, role, side, key, sent, top, seen⟩ := s
            obtain ⟨msess, mnum, mtext⟩ := m
            obtain ⟨hrole, hnonce, htag⟩ := h
            obtain ⟨wsess, wnonce, wtag⟩ := wl
            unfold sesV sesC msgV msgC at hR1 HR
            unfold sesV sesC welV welC helV helC at HA hJ1 HJ
            unfold helV helC at hA1
            unfold sesV sesC msgV msgC helV helC welV welC
            dsimp only at HR HA HJ hR1 hA1 hJ1 dS dM dX dH dW ⊢
            go_enter Tryd.func9, Tryd.ntmps9
            go_upto_region 1 with fail
            refine world_is (P := fun W => Code.wp _ _ _ _ W) (fun W1 hW1 => ?_)
            have HF1 : Hid (Four w W1 w.heap.size (w.heap.size + 1) (w.heap.size + 1 + 1) (w.heap.size + 1 + 1 + 1) #[.int .i64 id, .int .i64 role, .int .i64 side, .string key, .int .i64 sent, .int .i64 top, .int .u64 (seen : Int)] #[.int .i64 msess, .int .i64 mnum, .string mtext] #[.int .i64 hrole, .string hnonce, .string htag] #[.int .i64 wsess, .string wnonce, .string wtag]) := by unfold Hid; rw [← hW1]; exact four_new w _ _ _ _
            clear hW1
            obtain ⟨g3, e3⟩ : ∃ g, w.heap.size + 1 + 1 + 1 = g := ⟨_, rfl⟩
            rw [e3] at HF1 ⊢
            clear e3
            obtain ⟨g2, e2⟩ : ∃ g, w.heap.size + 1 + 1 = g := ⟨_, rfl⟩
            rw [e2] at HF1 ⊢
            clear e2
            obtain ⟨g1, e1⟩ : ∃ g, w.heap.size + 1 = g := ⟨_, rfl⟩
            rw [e1] at HF1 ⊢
            clear e1
            go_upto_region 4 with (first | (go_at_call 10; refine (HSA.out _ HF1.out.bel).mono ?_; rintro e w1 ⟨rfl, hB⟩; have HF2 := Lib.hid (HF1.out.below hB); have sc3 := HF2.out.1.cell 3; have mc2 := HF2.out.2.1.cell 2; have hc1 := HF2.out.2.2.1.cell 1; have wc1 := HF2.out.2.2.2.1.cell 1; clear hB) | fail)
            clear sc3 mc2 hc1 wc1
            have sc0 := HF2.out.1.cell 0; have sc1 := HF2.out.1.cell 1; have sc2 := HF2.out.1.cell 2; have sc3 := HF2.out.1.cell 3; have sc4 := HF2.out.1.cell 4; have sc5 := HF2.out.1.cell 5; have sc6 := HF2.out.1.cell 6; have mc0 := HF2.out.2.1.cell 0; have mc1 := HF2.out.2.1.cell 1; have mc2 := HF2.out.2.1.cell 2
            go_upto_if 68 with (first | (go_at_call 19; refine (HR.out _ HF2.out.bel).mono ?_; rintro e w2 ⟨rfl, hB⟩; have HF3 := Lib.hid (HF2.out.below hB); clear hB) | fail)
            clear sc0 sc1 sc2 sc3 sc4 sc5 sc6 mc0 mc1 mc2
            refine world_is (P := fun W => Code.wp _ _ _ _ W) (fun W3 hW3 => ?_)
            have HF4 : Hid (Four w W3 w.heap.size g1 g2 g3 #[.int .i64 id, .int .i64 role, .int .i64 side, .string key, .int .i64 sent, .int .i64 top, .int .u64 (seen : Int)] #[.int .i64 msess, .int .i64 mnum, .string mtext] #[.int .i64 hrole, .string hnonce, .string htag] #[.int .i64 wsess, .string wnonce, .string wtag]) := by unfold Hid; rw [← hW3]; exact HF3.out.alloc _
            clear hW3 HF1 HF2 HF3
            go_cut [] from 31 (fun wx => Hid (Four w wx w.heap.size g1 g2 g3 #[.int .i64 id, .int .i64 role, .int .i64 side, .string key, .int .i64 sent, .int .i64 top, .int .u64 (seen : Int)] #[.int .i64 msess, .int .i64 mnum, .string mtext] #[.int .i64 hrole, .string hnonce, .string htag] #[.int .i64 wsess, .string wnonce, .string wtag]))
            case first =>
              by_cases hE : E1 = 0
              · obtain ⟨⟨n1, n2, n3⟩, ⟨p0, p1, p2, p3, p4, p5, p6⟩, HSD⟩ := hR1 hE
                dsimp only at HSD
                have x1 : wrap64 (3 - side) = 3 - side := by rw [wrap64]; omega
                have x2 : wrap64 (mnum - 1) = mnum - 1 := by rw [wrap64]; omega
                have x3 : ((E1 : Int) == 0) = true := by rw [hE]; rfl
                clear n1 n2 n3 hE
                have sc0 := HF4.out.1.cell 0; have sc1 := HF4.out.1.cell 1; have sc2 := HF4.out.1.cell 2; have sc3 := HF4.out.1.cell 3; have sc4 := HF4.out.1.cell 4; have sc5 := HF4.out.1.cell 5; have sc6 := HF4.out.1.cell 6; have mc1 := HF4.out.2.1.cell 1
                go_upto_region 7 with fail
                refine world_is (P := fun W => Code.wp _ _ _ _ W) (fun W4 hW4 => ?_)
                have HP4 : Hid (Blk W4 W3.heap.size 32 #[.int .i64 id, .int .i64 role, .int .i64 side, .string key, .int .i64 sent, .int .i64 top, .int .u64 (seen : Int)]) := by unfold Hid; rw [← hW4]; exact Blk.new W3 _ _
                have HF9 : Hid (Four w W4 w.heap.size g1 g2 g3 #[.int .i64 id, .int .i64 role, .int .i64 side, .string key, .int .i64 sent, .int .i64 top, .int .u64 (seen : Int)] #[.int .i64 msess, .int .i64 mnum, .string mtext] #[.int .i64 hrole, .string hnonce, .string htag] #[.int .i64 wsess, .string wnonce, .string wtag]) := by unfold Hid; rw [← hW4]; exact HF4.out.alloc _
                have hun := Lib.hid HF4.out.under
                clear hW4 sc0 sc1 sc2 sc3 sc4 sc5 sc6 mc1 HF4
                obtain ⟨gp, hgp⟩ : ∃ g, W3.heap.size = g := ⟨_, rfl⟩
                rw [hgp] at HP4 hun ⊢
                clear hgp
                have sc2 := HF9.out.1.cell 2; have mc1 := HF9.out.2.1.cell 1
                have pf2 := HP4.out.frozen 2; have pc2 := HP4.out.cell 2; have pf4 := HP4.out.frozen 4; have pc4 := HP4.out.cell 4
                have hgm : g1 ≠ gp := by have := hun.out; omega
                go_upto_region 9 with fail
                refine world_is (P := fun W => Code.wp _ _ _ _ W) (fun W5 hW5 => ?_)
                have HP5 : Hid (Blk W5 gp 32 #[.int .i64 id, .int .i64 role, .int .i64 (3 - side), .string key, .int .i64 (mnum - 1), .int .i64 top, .int .u64 (seen : Int)]) := by unfold Hid; rw [← hW5]; exact blk7_24 HP4.out _ _
                have HF5 : Hid (Four w W5 w.heap.size g1 g2 g3 #[.int .i64 id, .int .i64 role, .int .i64 side, .string key, .int .i64 sent, .int .i64 top, .int .u64 (seen : Int)] #[.int .i64 msess, .int .i64 mnum, .string mtext] #[.int .i64 hrole, .string hnonce, .string htag] #[.int .i64 wsess, .string wnonce, .string wtag]) := by unfold Hid; rw [← hW5]; exact ((HF9.out.other _ hun.out).other _ hun.out)
                clear hW5 sc2 mc1 pf2 pc2 pf4 pc4 HF9 HP4 hun hgm
                have pc0 := HP5.out.cell 0; have pc1 := HP5.out.cell 1; have pc2 := HP5.out.cell 2; have pc3 := HP5.out.cell 3; have pc4 := HP5.out.cell 4; have pc5 := HP5.out.cell 5; have pc6 := HP5.out.cell 6
                go_upto_region 10 with (first | (go_at_call 17; refine (HSD.out _ HF5.out.bel).mono ?_; rintro e w6 ⟨rfl, hB⟩; have HF6 := Lib.hid (HF5.out.below hB); clear hB) | fail)
                refine world_is (P := fun W => Code.wp _ _ _ _ W) (fun W7 hW7 => ?_)
                have HM7 : Hid (Blk W7 (w6.heap.size + 1) 42 #[.int .i64 msess, .int .i64 mnum, .string mtext]) := by unfold Hid; rw [← hW7]; have h1 := Blk.new (w6.alloc (.cells #[.int .i64 p0, .int .i64 p1, .int .i64 p2, .string p3, .int .i64 p4, .int .i64 p5, .int .u64 (p6 : Int)] 32)) 42 #[.int .i64 msess, .int .i64 mnum, .string mtext]; rw [World.size_alloc] at h1; exact h1
                have HF7 : Hid (Four w W7 w.heap.size g1 g2 g3 #[.int .i64 id, .int .i64 role, .int .i64 side, .string key, .int .i64 sent, .int .i64 top, .int .u64 (seen : Int)] #[.int .i64 msess, .int .i64 mnum, .string mtext] #[.int .i64 hrole, .string hnonce, .string htag] #[.int .i64 wsess, .string wnonce, .string wtag]) := by unfold Hid; rw [← hW7]; exact (HF6.out.alloc _).alloc _
                clear hW7 pc0 pc1 pc2 pc3 pc4 pc5 pc6 HF5 HF6 HP5
                have nc0 := HM7.out.cell 0; have nc1 := HM7.out.cell 1; have nc2 := HM7.out.cell 2
                have mc0 := HF7.out.2.1.cell 0; have mc1 := HF7.out.2.1.cell 1; have mc2 := HF7.out.2.1.cell 2
                go_wp2_with fail
                go_meet
                exact HF7.out
              · have x3 : ((E1 : Int) == 0) = false := by rw [beq_eq_false_iff_ne]; omega
                go_wp2_with fail
                go_meet
                exact HF4.out
            case rest =>
            clear hR1 HR HF4
            have HF4 := hcut
            clear hcut
            have hc0 := HF4.out.2.2.1.cell 0; have hc1 := HF4.out.2.2.1.cell 1; have hc2 := HF4.out.2.2.1.cell 2; have wc0 := HF4.out.2.2.2.1.cell 0; have wc1 := HF4.out.2.2.2.1.cell 1
            go_upto_if 104 with (first | (go_at_call 13; refine (HA.out _ HF4.out.bel).mono ?_; rintro e w2 ⟨rfl, hB⟩; have HF3 := Lib.hid (HF4.out.below hB); clear hB) | fail)
            clear hc0 hc1 hc2 wc0 wc1
            refine world_is (P := fun W => Code.wp _ _ _ _ W) (fun W3 hW3 => ?_)
            have HF5 : Hid (Four w W3 w.heap.size g1 g2 g3 #[.int .i64 id, .int .i64 role, .int .i64 side, .string key, .int .i64 sent, .int .i64 top, .int .u64 (seen : Int)] #[.int .i64 msess, .int .i64 mnum, .string mtext] #[.int .i64 hrole, .string hnonce, .string htag] #[.int .i64 wsess, .string wnonce, .string wtag]) := by unfold Hid; rw [← hW3]; exact (HF3.out.alloc _).alloc _
            clear hW3 HF3 HF4
            go_cut [] from 31 (fun wx => Hid (Four w wx w.heap.size g1 g2 g3 #[.int .i64 id, .int .i64 role, .int .i64 side, .string key, .int .i64 sent, .int .i64 top, .int .u64 (seen : Int)] #[.int .i64 msess, .int .i64 mnum, .string mtext] #[.int .i64 hrole, .string hnonce, .string htag] #[.int .i64 wsess, .string wnonce, .string wtag]))
            case first =>
              by_cases hE : E2 = 0
              · have HGR := hA1 hE
                have x3 : ((E2 : Int) == 0) = true := by rw [hE]; rfl
                clear hE
                have hc0 := HF5.out.2.2.1.cell 0; have hc1 := HF5.out.2.2.1.cell 1
                go_upto_region 15 with (first | (go_at_call 11; refine (HGR.out _ HF5.out.bel).mono ?_; rintro e w6 ⟨rfl, hB⟩; have HF6 := Lib.hid (HF5.out.below hB); clear hB) | fail)
                refine world_is (P := fun W => Code.wp _ _ _ _ W) (fun W7 hW7 => ?_)
                have HM7 : Hid (Blk W7 w6.heap.size 23 #[.int .i64 hrole, .string hnonce, .string htag]) := by unfold Hid; rw [← hW7]; exact Blk.new w6 _ _
                have HF7 : Hid (Four w W7 w.heap.size g1 g2 g3 #[.int .i64 id, .int .i64 role, .int .i64 side, .string key, .int .i64 sent, .int .i64 top, .int .u64 (seen : Int)] #[.int .i64 msess, .int .i64 mnum, .string mtext] #[.int .i64 hrole, .string hnonce, .string htag] #[.int .i64 wsess, .string wnonce, .string wtag]) := by unfold Hid; rw [← hW7]; exact HF6.out.alloc _
                clear hW7 hc0 hc1 HF5 HF6
                have nc0 := HM7.out.cell 0; have nc1 := HM7.out.cell 1; have nc2 := HM7.out.cell 2
                have hc0 := HF7.out.2.2.1.cell 0; have hc1 := HF7.out.2.2.1.cell 1; have hc2 := HF7.out.2.2.1.cell 2
                go_wp2_with fail
                go_meet
                exact HF7.out
              · have x3 : ((E2 : Int) == 0) = false := by rw [beq_eq_false_iff_ne]; omega
                go_wp2_with fail
                go_meet
                exact HF5.out
            case rest =>
            clear hA1 HA HF5
            have HF5 := hcut
            clear hcut
            have hc0 := HF5.out.2.2.1.cell 0; have hc1 := HF5.out.2.2.1.cell 1; have hc2 := HF5.out.2.2.1.cell 2; have wc0 := HF5.out.2.2.2.1.cell 0; have wc1 := HF5.out.2.2.2.1.cell 1; have wc2 := HF5.out.2.2.2.1.cell 2
            go_upto_if 129 with (first | (go_at_call 15; refine (HJ.out _ HF5.out.bel).mono ?_; rintro e w2 ⟨rfl, hB⟩; have HF3 := Lib.hid (HF5.out.below hB); clear hB) | fail)
            clear hc0 hc1 hc2 wc0 wc1 wc2
            refine world_is (P := fun W => Code.wp _ _ _ _ W) (fun W3 hW3 => ?_)
            have HF6 : Hid (Four w W3 w.heap.size g1 g2 g3 #[.int .i64 id, .int .i64 role, .int .i64 side, .string key, .int .i64 sent, .int .i64 top, .int .u64 (seen : Int)] #[.int .i64 msess, .int .i64 mnum, .string mtext] #[.int .i64 hrole, .string hnonce, .string htag] #[.int .i64 wsess, .string wnonce, .string wtag]) := by unfold Hid; rw [← hW3]; exact HF3.out.alloc _
            clear hW3 HF3 HF5
            go_cut [] from 31 (fun wx => Hid (Four w wx w.heap.size g1 g2 g3 #[.int .i64 id, .int .i64 role, .int .i64 side, .string key, .int .i64 sent, .int .i64 top, .int .u64 (seen : Int)] #[.int .i64 msess, .int .i64 mnum, .string mtext] #[.int .i64 hrole, .string hnonce, .string htag] #[.int .i64 wsess, .string wnonce, .string wtag]))
            case first =>
              by_cases hE : E3 = 0
              · obtain ⟨⟨o0, o1, o2⟩, ⟨q0, q1, q2, q3, q4, q5, q6⟩, HGR, HAC⟩ := hJ1 hE
                dsimp only at HGR HAC
                have x3 : ((E3 : Int) == 0) = true := by rw [hE]; rfl
                clear hE
                have hc0 := HF6.out.2.2.1.cell 0; have hc1 := HF6.out.2.2.1.cell 1
                go_upto_region 20 with (first | (go_at_call 11; refine (HGR.out _ HF6.out.bel).mono ?_; rintro e w6 ⟨rfl, hB⟩; have HF7 := Lib.hid (HF6.out.below hB); clear hB) | fail)
                refine world_is (P := fun W => Code.wp _ _ _ _ W) (fun W7 hW7 => ?_)
                have HM7 : Hid (Blk W7 w6.heap.size 23 #[.int .i64 o0, .string o1, .string o2]) := by unfold Hid; rw [← hW7]; exact Blk.new w6 _ _
                have HF8 : Hid (Four w W7 w.heap.size g1 g2 g3 #[.int .i64 id, .int .i64 role, .int .i64 side, .string key, .int .i64 sent, .int .i64 top, .int .u64 (seen : Int)] #[.int .i64 msess, .int .i64 mnum, .string mtext] #[.int .i64 hrole, .string hnonce, .string htag] #[.int .i64 wsess, .string wnonce, .string wtag]) := by unfold Hid; rw [← hW7]; exact HF7.out.alloc _
                clear hW7 hc0 hc1 HF6 HF7
                have nc0 := HM7.out.cell 0; have nc1 := HM7.out.cell 1; have nc2 := HM7.out.cell 2
                have wc0 := HF8.out.2.2.2.1.cell 0; have wc1 := HF8.out.2.2.2.1.cell 1
                go_upto_region 21 with (first | (go_at_call 13; refine (HAC.out _ HF8.out.bel).mono ?_; rintro e w8 ⟨rfl, hB⟩; have HF9 := Lib.hid (HF8.out.below hB); clear hB) | fail)
                refine world_is (P := fun W => Code.wp _ _ _ _ W) (fun W9 hW9 => ?_)
                have HM9 : Hid (Blk W9 (w8.heap.size + 1) 25 #[.int .i64 wsess, .string wnonce, .string wtag]) := by unfold Hid; rw [← hW9]; have h1 := Blk.new (w8.alloc (.cells #[.int .i64 q0, .int .i64 q1, .int .i64 q2, .string q3, .int .i64 q4, .int .i64 q5, .int .u64 (q6 : Int)] 32)) 25 #[.int .i64 wsess, .string wnonce, .string wtag]; rw [World.size_alloc] at h1; exact h1
                have HF10 : Hid (Four w W9 w.heap.size g1 g2 g3 #[.int .i64 id, .int .i64 role, .int .i64 side, .string key, .int .i64 sent, .int .i64 top, .int .u64 (seen : Int)] #[.int .i64 msess, .int .i64 mnum, .string mtext] #[.int .i64 hrole, .string hnonce, .string htag] #[.int .i64 wsess, .string wnonce, .string wtag]) := by unfold Hid; rw [← hW9]; exact (HF9.out.alloc _).alloc _
                clear hW9 wc0 wc1 nc0 nc1 nc2 HF8 HF9 HM7
                have nc0 := HM9.out.cell 0; have nc1 := HM9.out.cell 1; have nc2 := HM9.out.cell 2
                have wc0 := HF10.out.2.2.2.1.cell 0; have wc1 := HF10.out.2.2.2.1.cell 1; have wc2 := HF10.out.2.2.2.1.cell 2
                go_wp2_with fail
                go_meet
                exact HF10.out
              · have x3 : ((E3 : Int) == 0) = false := by rw [beq_eq_false_iff_ne]; omega
                go_wp2_with fail
                go_meet
                exact HF6.out
            case rest =>
            have HF6 := hcut
            clear hcut
            go_wp2_with fail
            go_ret
            exact ⟨rfl, HF6.out.bel⟩
          · have dS : decide ((400 : Int) < (s.key.size : Int)) = false := decide_eq_false (by omega)
            have dM : decide ((400 : Int) < (m.text.size : Int)) = false := decide_eq_false (by omega)
            have dX : decide ((100 : Int) < (sec.size : Int)) = false := decide_eq_false (by omega)
            have dH : decide ((100 : Int) < (h.nonce.size : Int)) = false := decide_eq_false (by omega)
            have dW : decide ((100 : Int) < (wl.nonce.size : Int)) = true := decide_eq_true (by omega)
            obtain ⟨id, role, side, key, sent, top, seen⟩ := s
            obtain ⟨msess, mnum, mtext⟩ := m
            obtain ⟨hrole, hnonce, htag⟩ := h
            obtain ⟨wsess, wnonce, wtag⟩ := wl
            unfold sesV sesC msgV msgC helV helC welV welC
            dsimp only at dS dM dX dH dW ⊢
            clear hs
            go_enter Tryd.func9, Tryd.ntmps9
            go_upto_region 1 with fail
            refine world_is (P := fun W => Code.wp _ _ _ _ W) (fun W1 hW1 => ?_)
            have HF1 : Hid (Four w W1 w.heap.size (w.heap.size + 1) (w.heap.size + 1 + 1) (w.heap.size + 1 + 1 + 1) #[.int .i64 id, .int .i64 role, .int .i64 side, .string key, .int .i64 sent, .int .i64 top, .int .u64 (seen : Int)] #[.int .i64 msess, .int .i64 mnum, .string mtext] #[.int .i64 hrole, .string hnonce, .string htag] #[.int .i64 wsess, .string wnonce, .string wtag]) := by unfold Hid; rw [← hW1]; exact four_new w _ _ _ _
            clear hW1
            obtain ⟨g3, e3⟩ : ∃ g, w.heap.size + 1 + 1 + 1 = g := ⟨_, rfl⟩
            rw [e3] at HF1 ⊢
            clear e3
            obtain ⟨g2, e2⟩ : ∃ g, w.heap.size + 1 + 1 = g := ⟨_, rfl⟩
            rw [e2] at HF1 ⊢
            clear e2
            obtain ⟨g1, e1⟩ : ∃ g, w.heap.size + 1 = g := ⟨_, rfl⟩
            rw [e1] at HF1 ⊢
            clear e1
            go_wp2_with (first | (go_at_call 10; refine (HSA.out _ HF1.out.bel).mono ?_; rintro e w1 ⟨rfl, hB⟩; have HF2 := Lib.hid (HF1.out.below hB); have sc3 := HF2.out.1.cell 3; have mc2 := HF2.out.2.1.cell 2; have hc1 := HF2.out.2.2.1.cell 1; have wc1 := HF2.out.2.2.2.1.cell 1; clear hB) | fail)
            go_ret
            exact ⟨rfl, HF2.out.bel⟩
        · have dS : decide ((400 : Int) < (s.key.size : Int)) = false := decide_eq_false (by omega)
          have dM : decide ((400 : Int) < (m.text.size : Int)) = false := decide_eq_false (by omega)
          have dX : decide ((100 : Int) < (sec.size : Int)) = false := decide_eq_false (by omega)
          have dH : decide ((100 : Int) < (h.nonce.size : Int)) = true := decide_eq_true (by omega)
          obtain ⟨id, role, side, key, sent, top, seen⟩ := s
          obtain ⟨msess, mnum, mtext⟩ := m
          obtain ⟨hrole, hnonce, htag⟩ := h
          obtain ⟨wsess, wnonce, wtag⟩ := wl
          unfold sesV sesC msgV msgC helV helC welV welC
          dsimp only at dS dM dX dH ⊢
          clear hs
          go_enter Tryd.func9, Tryd.ntmps9
          go_upto_region 1 with fail
          refine world_is (P := fun W => Code.wp _ _ _ _ W) (fun W1 hW1 => ?_)
          have HF1 : Hid (Four w W1 w.heap.size (w.heap.size + 1) (w.heap.size + 1 + 1) (w.heap.size + 1 + 1 + 1) #[.int .i64 id, .int .i64 role, .int .i64 side, .string key, .int .i64 sent, .int .i64 top, .int .u64 (seen : Int)] #[.int .i64 msess, .int .i64 mnum, .string mtext] #[.int .i64 hrole, .string hnonce, .string htag] #[.int .i64 wsess, .string wnonce, .string wtag]) := by unfold Hid; rw [← hW1]; exact four_new w _ _ _ _
          clear hW1
          obtain ⟨g3, e3⟩ : ∃ g, w.heap.size + 1 + 1 + 1 = g := ⟨_, rfl⟩
          rw [e3] at HF1 ⊢
          clear e3
          obtain ⟨g2, e2⟩ : ∃ g, w.heap.size + 1 + 1 = g := ⟨_, rfl⟩
          rw [e2] at HF1 ⊢
          clear e2
          obtain ⟨g1, e1⟩ : ∃ g, w.heap.size + 1 = g := ⟨_, rfl⟩
          rw [e1] at HF1 ⊢
          clear e1
          go_wp2_with (first | (go_at_call 10; refine (HSA.out _ HF1.out.bel).mono ?_; rintro e w1 ⟨rfl, hB⟩; have HF2 := Lib.hid (HF1.out.below hB); have sc3 := HF2.out.1.cell 3; have mc2 := HF2.out.2.1.cell 2; have hc1 := HF2.out.2.2.1.cell 1; have wc1 := HF2.out.2.2.2.1.cell 1; clear hB) | fail)
          go_ret
          exact ⟨rfl, HF2.out.bel⟩
      · have dS : decide ((400 : Int) < (s.key.size : Int)) = false := decide_eq_false (by omega)
        have dM : decide ((400 : Int) < (m.text.size : Int)) = false := decide_eq_false (by omega)
        have dX : decide ((100 : Int) < (sec.size : Int)) = true := decide_eq_true (by omega)
        obtain ⟨id, role, side, key, sent, top, seen⟩ := s
        obtain ⟨msess, mnum, mtext⟩ := m
        obtain ⟨hrole, hnonce, htag⟩ := h
        obtain ⟨wsess, wnonce, wtag⟩ := wl
        unfold sesV sesC msgV msgC helV helC welV welC
        dsimp only at dS dM dX ⊢
        clear hs
        go_enter Tryd.func9, Tryd.ntmps9
        go_upto_region 1 with fail
        refine world_is (P := fun W => Code.wp _ _ _ _ W) (fun W1 hW1 => ?_)
        have HF1 : Hid (Four w W1 w.heap.size (w.heap.size + 1) (w.heap.size + 1 + 1) (w.heap.size + 1 + 1 + 1) #[.int .i64 id, .int .i64 role, .int .i64 side, .string key, .int .i64 sent, .int .i64 top, .int .u64 (seen : Int)] #[.int .i64 msess, .int .i64 mnum, .string mtext] #[.int .i64 hrole, .string hnonce, .string htag] #[.int .i64 wsess, .string wnonce, .string wtag]) := by unfold Hid; rw [← hW1]; exact four_new w _ _ _ _
        clear hW1
        obtain ⟨g3, e3⟩ : ∃ g, w.heap.size + 1 + 1 + 1 = g := ⟨_, rfl⟩
        rw [e3] at HF1 ⊢
        clear e3
        obtain ⟨g2, e2⟩ : ∃ g, w.heap.size + 1 + 1 = g := ⟨_, rfl⟩
        rw [e2] at HF1 ⊢
        clear e2
        obtain ⟨g1, e1⟩ : ∃ g, w.heap.size + 1 = g := ⟨_, rfl⟩
        rw [e1] at HF1 ⊢
        clear e1
        go_wp2_with (first | (go_at_call 10; refine (HSA.out _ HF1.out.bel).mono ?_; rintro e w1 ⟨rfl, hB⟩; have HF2 := Lib.hid (HF1.out.below hB); have sc3 := HF2.out.1.cell 3; have mc2 := HF2.out.2.1.cell 2; have hc1 := HF2.out.2.2.1.cell 1; have wc1 := HF2.out.2.2.2.1.cell 1; clear hB) | fail)
        go_ret
        exact ⟨rfl, HF2.out.bel⟩
    · have dS : decide ((400 : Int) < (s.key.size : Int)) = false := decide_eq_false (by omega)
      have dM : decide ((400 : Int) < (m.text.size : Int)) = true := decide_eq_true (by omega)
      obtain ⟨id, role, side, key, sent, top, seen⟩ := s
      obtain ⟨msess, mnum, mtext⟩ := m
      obtain ⟨hrole, hnonce, htag⟩ := h
      obtain ⟨wsess, wnonce, wtag⟩ := wl
      unfold sesV sesC msgV msgC helV helC welV welC
      dsimp only at dS dM ⊢
      clear hs
      go_enter Tryd.func9, Tryd.ntmps9
      go_upto_region 1 with fail
      refine world_is (P := fun W => Code.wp _ _ _ _ W) (fun W1 hW1 => ?_)
      have HF1 : Hid (Four w W1 w.heap.size (w.heap.size + 1) (w.heap.size + 1 + 1) (w.heap.size + 1 + 1 + 1) #[.int .i64 id, .int .i64 role, .int .i64 side, .string key, .int .i64 sent, .int .i64 top, .int .u64 (seen : Int)] #[.int .i64 msess, .int .i64 mnum, .string mtext] #[.int .i64 hrole, .string hnonce, .string htag] #[.int .i64 wsess, .string wnonce, .string wtag]) := by unfold Hid; rw [← hW1]; exact four_new w _ _ _ _
      clear hW1
      obtain ⟨g3, e3⟩ : ∃ g, w.heap.size + 1 + 1 + 1 = g := ⟨_, rfl⟩
      rw [e3] at HF1 ⊢
      clear e3
      obtain ⟨g2, e2⟩ : ∃ g, w.heap.size + 1 + 1 = g := ⟨_, rfl⟩
      rw [e2] at HF1 ⊢
      clear e2
      obtain ⟨g1, e1⟩ : ∃ g, w.heap.size + 1 = g := ⟨_, rfl⟩
      rw [e1] at HF1 ⊢
      clear e1
      go_wp2_with (first | (go_at_call 10; refine (HSA.out _ HF1.out.bel).mono ?_; rintro e w1 ⟨rfl, hB⟩; have HF2 := Lib.hid (HF1.out.below hB); have sc3 := HF2.out.1.cell 3; have mc2 := HF2.out.2.1.cell 2; have hc1 := HF2.out.2.2.1.cell 1; have wc1 := HF2.out.2.2.2.1.cell 1; clear hB) | fail)
      go_ret
      exact ⟨rfl, HF2.out.bel⟩
  · have dS : decide ((400 : Int) < (s.key.size : Int)) = true := decide_eq_true (by omega)
    obtain ⟨id, role, side, key, sent, top, seen⟩ := s
    obtain ⟨msess, mnum, mtext⟩ := m
    obtain ⟨hrole, hnonce, htag⟩ := h
    obtain ⟨wsess, wnonce, wtag⟩ := wl
    unfold sesV sesC msgV msgC helV helC welV welC
    dsimp only at dS ⊢
    clear hs
    go_enter Tryd.func9, Tryd.ntmps9
    go_upto_region 1 with fail
    refine world_is (P := fun W => Code.wp _ _ _ _ W) (fun W1 hW1 => ?_)
    have HF1 : Hid (Four w W1 w.heap.size (w.heap.size + 1) (w.heap.size + 1 + 1) (w.heap.size + 1 + 1 + 1) #[.int .i64 id, .int .i64 role, .int .i64 side, .string key, .int .i64 sent, .int .i64 top, .int .u64 (seen : Int)] #[.int .i64 msess, .int .i64 mnum, .string mtext] #[.int .i64 hrole, .string hnonce, .string htag] #[.int .i64 wsess, .string wnonce, .string wtag]) := by unfold Hid; rw [← hW1]; exact four_new w _ _ _ _
    clear hW1
    obtain ⟨g3, e3⟩ : ∃ g, w.heap.size + 1 + 1 + 1 = g := ⟨_, rfl⟩
    rw [e3] at HF1 ⊢
    clear e3
    obtain ⟨g2, e2⟩ : ∃ g, w.heap.size + 1 + 1 = g := ⟨_, rfl⟩
    rw [e2] at HF1 ⊢
    clear e2
    obtain ⟨g1, e1⟩ : ∃ g, w.heap.size + 1 = g := ⟨_, rfl⟩
    rw [e1] at HF1 ⊢
    clear e1
    go_wp2_with (first | (go_at_call 10; refine (HSA.out _ HF1.out.bel).mono ?_; rintro e w1 ⟨rfl, hB⟩; have HF2 := Lib.hid (HF1.out.below hB); have sc3 := HF2.out.1.cell 3; have mc2 := HF2.out.2.1.cell 2; have hc1 := HF2.out.2.2.1.cell 1; have wc1 := HF2.out.2.2.2.1.cell 1; clear hB) | fail)
    go_ret
    exact ⟨rfl, HF2.out.bel⟩
end Go.Proofs.YtbhagfdkipgggaaDoor
