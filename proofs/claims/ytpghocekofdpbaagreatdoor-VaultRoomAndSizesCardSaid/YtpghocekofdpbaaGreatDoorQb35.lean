import Derived.Test.YtpghocekofdpbaaGreatDoorQb03
import Derived.Test.YtpghocekofdpbaaGreatDoorQb34
namespace Go.Proofs.YtpghocekofdpbaaGreatDoor
open Go.RowKit Go.Shelf
attribute [local go_sem] Oper.semAt_some
theorem brow_len {w : World} {base : Nat} {v : Value} {l : List UInt8} {N : Nat} (h : BRow w base v l) (hN : l.length = N) (h0 : 0 < N) : ∃ g c, v = .slice (some ⟨g, 0, none⟩) N c /\ base <= g /\ g < w.heap.size := by
 obtain ⟨g, c, e, h1, h2⟩ := h.slice (by intro e; rw [e, List.length_nil] at hN; omega)
 exact ⟨g, c, by rw [e, hN], h1, h2⟩
set_option maxRecDepth 100000 in
set_option maxHeartbeats 1600000 in
theorem rmac_any (w : World) (key text : ByteArray) (hk : key.size < 1000000000) (ht : text.size < 1000000000) (hK : KAt w 0) :
  Calls Tryz.prog 44 #[.string key, .string text] w fun e w' => e = .returned (.string (txt (macL (bl key) (bl text)))) /\ Below w.heap.size w w' := by
 have HK := Lib.hid hK
 have HP1 := Lib.hid (rpadKey_any w key 54 hk hK)
 have HP2 : Hid (∀ wx, Below w.heap.size w wx -> Calls Tryz.prog 79 #[.string key, .int .u8 92] wx fun e w' => ∃ v', e = .returned v' /\ BRow w' wx.heap.size v' (padK (keyOf (bl key)) 92) /\ Below wx.heap.size wx w') := fun wx hB => rpadKey_any wx key 92 hk (hK.below hB)
 have l1 := padK_len (keyOf (bl key)) 54 (keyOf_len _)
 have l2 := padK_len (keyOf (bl key)) 92 (keyOf_len _)
 have hfin : Hid (macL (bl key) (bl text) = sumL (padK (keyOf (bl key)) 92 ++ sumL (padK (keyOf (bl key)) 54 ++ bl text))) := rfl
 have htl : (bl text).length = text.size := bl_len text
 generalize padK (keyOf (bl key)) 54 = PA at *
 generalize padK (keyOf (bl key)) 92 = PB at *
 obtain ⟨N, hN⟩ : ∃ N, 64 + text.size = N := ⟨_, rfl⟩
 have hI : Hid ((PA ++ bl text).length = N) := by unfold Hid; rw [List.length_append, l1, htl, hN]
 have hcat1 : Hid (PA.length + text.size < 100000000000) := by unfold Hid; omega
 have hN0 : Hid (0 < N /\ N < 10000000000) := ⟨by omega, by omega⟩
 obtain ⟨D1, hD1⟩ : ∃ D, sumL (PA ++ bl text) = D := ⟨_, rfl⟩
 have hD1l : Hid (D1.length = 32) := by unfold Hid; rw [<- hD1]; exact sumL_len _
 rw [hD1] at hfin
 have hD1H := Lib.hid hD1
 have hd1s : (txt D1).size = 32 := by rw [txt_size, hD1l.out]
 have hbd1 : Hid (bl (txt D1) = D1) := bl_txt D1
 have hO : Hid ((PB ++ D1).length = 96) := by unfold Hid; rw [List.length_append, l2, hD1l.out]
 have hcat2 : Hid (PB.length + (txt D1).size < 100000000000) := by unfold Hid; omega
 clear hk ht hK htl l1 l2 hN hD1 hd1s
 go_enter Tryz.func44, Tryz.ntmps44
 go_upto_region 3 with (first
  | (at_builtin; refine wp_cat_text rfl _ _ rfl w.heap.size v1 PA rfl hR1.out text rfl hcat1.out hB1.out.size ?_; intro v2 w2 hP2)
  | (go_at_call 79; refine HP1.out.mono ?_; rintro e w1 ⟨v1, rfl, hR, hB⟩; have hR1 := Lib.hid hR; have hB1 := Lib.hid hB; clear hR hB)
  | fail)
 try simp only [sA]
 have hB2 := Lib.hid (hP2.bel _ _ (Nat.le_refl _) hB1.out.size hB1.out)
 have hR2 := Lib.hid hP2.row
 obtain ⟨g2, c2, e2, _, hg2⟩ := brow_len hR2.out hI.out hN0.out.1
 subst e2
 clear hP2 hR1 hB1
 go_upto_region 4 with (first
  | (go_at_call 79; refine (HP2.out _ hB2.out).mono ?_; rintro e w3 ⟨v3, rfl, hR, hB⟩; have hR3 := Lib.hid hR; have hB3 := Lib.hid (hB2.out.trans (hB.mono hB2.out.size)); have hI3 := Lib.hid (hR2.out.below hB); have hz3 := Lib.hid hB.size; clear hR hB)
  | fail)
 have HS1 := Lib.hid (rsum_any w3 g2 0 c2 N (PA ++ bl text) hI.out hI3.out.bytesAt hN0.out.2 (HK.out.below hB3.out))
 rw [hD1H.out] at HS1
 go_upto_region 5 with (first
  | (at_builtin; refine wp_cat_text rfl _ _ rfl w2.heap.size v3 PB rfl hR5.out (txt D1) rfl hcat2.out hz5.out ?_; intro v6 w6 hP6)
  | (go_at_call 80; refine (rbytes32_any _ D1 hD1l.out).mono ?_; rintro e w5 ⟨rfl, hB⟩; have hR5 := Lib.hid (hR4.out.below hB); have hB5 := Lib.hid (hB4.out.trans (hB.mono hB4.out.size)); have hz5 := Lib.hid (Nat.le_trans hz4.out hB.size); clear hB)
  | (go_at_call 81; refine HS1.out.mono ?_; rintro e w4 ⟨rfl, hB⟩; have hR4 := Lib.hid (hR3.out.below hB); have hB4 := Lib.hid (hB3.out.trans (hB.mono hB3.out.size)); have hz4 := Lib.hid (Nat.le_trans hz3.out hB.size); clear hB)
  | fail)
 try simp only [sA]
 have hB6 := Lib.hid (hP6.bel _ _ hB2.out.size hz5.out hB5.out)
 have hR6 := hP6.row
 rw [hbd1.out] at hR6
 obtain ⟨g6, c6, e6, _, hg6⟩ := brow_len hR6 hO.out (by decide)
 subst e6
 have HS2 := Lib.hid (rsum_any w6 g6 0 c6 96 (PB ++ D1) hO.out hR6.bytesAt (by decide) (HK.out.below hB6.out))
 have hD2l : Hid ((sumL (PB ++ D1)).length = 32) := sumL_len _
 generalize sumL (PB ++ D1) = D2 at *
 clear hP6 hR6 hR5 hB5
 go_wp2_with (first
  | (go_at_call 80; refine (rbytes32_any _ D2 hD2l.out).mono ?_; rintro e w8 ⟨rfl, hB⟩; have hB8 := Lib.hid (hB7.out.trans (hB.mono hB7.out.size)); clear hB)
  | (go_at_call 81; refine HS2.out.mono ?_; rintro e w7 ⟨rfl, hB⟩; have hB7 := Lib.hid (hB6.out.trans (hB.mono hB6.out.size)); clear hB)
  | fail)
 go_ret
 exact ⟨by rw [hfin.out]; rfl, hB8.out⟩
end Go.Proofs.YtpghocekofdpbaaGreatDoor
