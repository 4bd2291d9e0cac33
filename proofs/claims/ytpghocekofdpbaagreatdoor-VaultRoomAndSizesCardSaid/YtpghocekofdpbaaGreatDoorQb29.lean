import Derived.Test.YtpghocekofdpbaaGreatDoorQb00
import Derived.Test.YtpghocekofdpbaaGreatDoorQb03
import Derived.Test.YtpghocekofdpbaaGreatDoorQb28
import Derived.Deep.CutRange
import Derived.Deep.CutBlock
namespace Go.Proofs.YtpghocekofdpbaaGreatDoor
open Go.RowKit Go.Shelf
attribute [local go_sem] Oper.semAt_some
def keyOf (k : List UInt8) : List UInt8 := if k.length <= 64 then k else sumL k
theorem keyOf_len (k : List UInt8) : (keyOf k).length <= 64 := by
 unfold keyOf
 by_cases h : k.length <= 64
 ·rw [if_pos h]; exact h
 ·rw [if_neg h]; unfold sumL; rw [digest_len]; decide
def macL (k t : List UInt8) : List UInt8 := sumL (padK (keyOf k) 92 ++ sumL (padK (keyOf k) 54 ++ t))
theorem padK_len (k : List UInt8) (c : UInt8) (h : k.length <= 64) : (padK k c).length = 64 := by unfold padK; rw [List.length_map]; exact key64_len k h
theorem sumL_len (b : List UInt8) : (sumL b).length = 32 := digest_len _
theorem macL_len (k t : List UInt8) : (macL k t).length = 32 := sumL_len _
theorem add_n (w : World) (m : List UInt8) (s : S8) (k : List UInt8) (x : ByteArray) (N M : Nat) (hN : m.length = N) (hM : N + x.size = M) (hS : StrOf iv m s k) (hK : KAt w 1) (hlen : M < 100000000000) :
  Calls Tryz.prog 77 #[.agg (strL s k N).toArray, .string x] w fun e w' => ∃ s' k', e = .returned (.agg (strL s' k' M).toArray) /\ StrOf iv (m ++ bl x) s' k' /\ Below w.heap.size w w' := by
 subst hN hM
 exact add_any w m s k x hS hK (by omega)
theorem stsum_n (w : World) (m : List UInt8) (s : S8) (k : List UInt8) (N : Nat) (hN : m.length = N) (hS : StrOf iv m s k) (hK : KAt w 1) (hlen : N < 100000000000) :
  Calls Tryz.prog 78 #[.agg (strL s k N).toArray] w fun e w' => e = .returned (.agg ((sumL m).map byteV).toArray) /\ Below w.heap.size w w' := by
 subst hN
 exact stsum_any w m s k hS hK hlen
def txt (l : List UInt8) : ByteArray := ⟨l.toArray⟩
theorem bl_txt (l : List UInt8) : bl (txt l) = l := rfl
theorem txt_size (l : List UInt8) : (txt l).size = l.length := by rw [<- bl_len, bl_txt]
theorem txt_bl (x : ByteArray) : txt (bl x) = x := by unfold txt bl; rw [Array.toArray_toList]
set_option maxRecDepth 100000 in
set_option maxHeartbeats 3200000 in
theorem mac_any (w : World) (key text : ByteArray) (hK : KAt w 1) (hk : key.size < 10000000000) (ht : text.size < 10000000000) :
  Calls Tryz.prog 41 #[.string key, .string text] w fun e w' => e = .returned (.string (txt (macL (bl key) (bl text)))) /\ Below w.heap.size w w' := by
 go_enter Tryz.func41, Tryz.ntmps41
 go_upto_region 1 with fail
 refine world_is (P := fun W => Code.wp _ _ _ _ W) (fun W1 hW1 => ?_)
 have HBel : Hid (Below w.heap.size w W1) := by unfold Hid; rw [<- hW1]; exact (Below.refl _ w).alloc (Nat.le_refl _) _
 have HB : Hid (Blk W1 w.heap.size 9 #[.string key]) := by unfold Hid; rw [<- hW1]; exact Blk.new w _ _
 have hKH := Lib.hid hK
 have hsz : W1.heap.size = w.heap.size + 1 := by rw [<- hW1]; simp
 clear hW1 hK
 have ck : W1.cell? ⟨w.heap.size, 0, none⟩ = some (.string key) := HB.out.cell 0
 go_upto_if 11 with fail
 go_cut [5] from 11 to 16 (fun p wx => ∃ y : ByteArray, Hid (bl y = keyOf (bl key)) /\ Hid (Blk wx w.heap.size 9 #[.string y]) /\ Hid (Below w.heap.size w wx))
 case first =>
  by_cases h64 : key.size <= 64
  ·have d3 : decide (64 < key.size) = false := decide_eq_false (by omega)
   have d4 : decide ((64 : Int) < (key.size : Int)) = false := decide_eq_false (by omega)
   have hy : Hid (bl key = keyOf (bl key)) := by unfold Hid keyOf; rw [if_pos (by rw [bl_len]; exact h64)]
   go_wp2_with fail
   go_meet
   exact ⟨key, hy, HB, HBel⟩
  ·have d3 : decide (64 < key.size) = true := decide_eq_true (by omega)
   have d4 : decide ((64 : Int) < (key.size : Int)) = true := decide_eq_true (by omega)
   have hy : Hid (sumL (bl key) = keyOf (bl key)) := by unfold Hid keyOf; rw [if_neg (by rw [bl_len]; exact h64)]
   obtain ⟨c, w2, hcv, hby, hB2, hs2⟩ := conv_text W1 key
   have HS : Hid (Calls Tryz.prog 74 #[.slice (some ⟨W1.heap.size, 0, none⟩) key.size c] w2 fun e w' => e = .returned (.agg ((sumL (bl key)).map byteV).toArray) /\ Below w2.heap.size w2 w') :=
    sum_any w2 W1.heap.size 0 c key.size (bl key) (bl_len key) hby ((KAt.below hKH.out HBel.out).below hB2) (by omega)
   have hkb2 := Lib.hid (HB.out.below hB2 HB.out.lt)
   have HBel2 := Lib.hid (HBel.out.trans (hB2.mono HBel.out.size))
   rw [hsz] at hcv HS
   have hDl : Hid (((sumL (bl key)).map byteV).length = 32) := by unfold Hid; rw [List.length_map, sumL_len]
   have hDo : Hid (∀ v ∈ (sumL (bl key)).map byteV, v.oneCell' = true) := byteV_one _
   have hDb : Hid (∀ (W : World) (g : Nat), Blk W g 109 ((sumL (bl key)).map byteV).toArray -> (convert 66 9 (.slice (some ⟨g, 0, none⟩) 32 32)).run Tryz.prog W = .ok (.string (txt (sumL (bl key)))) W) := fun W g h => by
    have h2 := conv_bytes (c := 32) (blk_bytes h)
    rw [sumL_len] at h2
    exact h2
   have hyb : Hid (bl (txt (sumL (bl key))) = keyOf (bl key)) := hy
   generalize (sumL (bl key)).map byteV = D at *
   generalize txt (sumL (bl key)) = Y at *
   clear hby hB2 hs2 hy
   go_wp2_with (first | (go_at_call 74; refine HS.out.mono ?_; rintro e w3 ⟨rfl, hB3⟩; have HB3 := Lib.hid hB3; clear hB3) | (refine wpList_store_mid rfl 109 _ _ rfl w3.heap.size 0 D.toArray rfl rfl (there_of_blk (o := 0) (Blk.new w3 109 z32) (by rw [List.size_toArray, hDl.out]; exact Nat.le_refl _)) (by rw [List.size_toArray, hDl.out]; exact infoA32b) (all_oneCell_toArray hDo.out) ?_; refine world_is (P := fun W => wpList _ _ _ _ _ W) (fun W4 hW4 => ?_); have hb4 : Blk W4 w3.heap.size 109 D.toArray := (by rw [<- hW4]; exact blk_setWhole (Blk.new w3 109 z32) D (by rw [hDl.out]; rfl)); have hcv4 := hDb.out W4 _ hb4; have hl4 : Below w3.heap.size w3 W4 := (by rw [<- hW4]; exact below_setCells (Nat.le_refl _) _ 0 _ ((Below.refl _ w3).alloc (Nat.le_refl _) _)); have hk3 := hkb2.out.below HB3.out hkb2.out.lt; have hk4 := hk3.below hl4 hk3.lt; have ck4 := hk4.cell 0; have fk4 := hk4.frozen 0; have HK4 := Lib.hid hk4; have HL4 := Lib.hid ((HBel2.out.trans (HB3.out.mono HBel2.out.size)).trans (hl4.mono (HBel2.out.trans (HB3.out.mono HBel2.out.size)).size)); clear hW4 hb4 hl4 hk3 hk4) | fail)
   go_meet
   exact ⟨Y, hyb, HK4.out.set_ 0 _, HL4.out.setCell (p := ⟨w.heap.size, 0, none⟩) (Nat.le_refl _) _⟩
 case rest =>
  obtain ⟨y, hy, HBc, HBelc⟩ := hcut
  clear HB HBel hsz ck
  have hyl : y.size <= 64 := by rw [<- bl_len, hy]; exact keyOf_len _
  have HKc := Lib.hid (KAt.below hKH.out HBelc.out)
  have PAD1 : Hid (∀ wx, Below wc.heap.size wc wx -> Calls Tryz.prog 75 #[.int .u8 54, .pointer (some ⟨w.heap.size, 0, none⟩)] wx fun e w' => e = .returned (.string (txt (padK (bl y) 54))) /\ Below wx.heap.size wx w') := fun wx hB =>
   mac1_any wx w.heap.size y 54 hyl ((HBc.out.below hB HBc.out.lt).cell 0) (HBc.out.below hB HBc.out.lt).lt
  have PAD : Hid (∀ wx, Below w.heap.size w wx -> Blk wx w.heap.size 9 #[.string y] -> ∀ c : UInt8, Calls Tryz.prog 75 #[.int .u8 (c.toNat : Int), .pointer (some ⟨w.heap.size, 0, none⟩)] wx fun e w' => e = .returned (.string (txt (padK (bl y) c))) /\ Below wx.heap.size wx w') := fun wx _ hb c =>
   mac1_any wx w.heap.size y c hyl (hb.cell 0) hb.lt
  obtain ⟨P1, hP1⟩ : ∃ P1, padK (bl y) 54 = P1 := ⟨_, rfl⟩
  have hP1l : P1.length = 64 := by rw [<- hP1]; exact padK_len _ _ (by rw [bl_len]; exact hyl)
  obtain ⟨M1, hM1⟩ : ∃ M1, P1 ++ bl text = M1 := ⟨_, rfl⟩
  have hM1l : M1.length = 64 + text.size := by rw [<- hM1, List.length_append, hP1l, bl_len]
  have ADD0 : Hid (∀ wx, Below wc.heap.size wc wx -> Calls Tryz.prog 77 #[.agg (strL iv (List.replicate 64 0) 0).toArray, .string (txt P1)] wx fun e w' => ∃ s2 k2, e = .returned (.agg (strL s2 k2 64).toArray) /\ StrOf iv P1 s2 k2 /\ Below wx.heap.size wx w') := fun wx hB =>
   add_n wx [] iv (List.replicate 64 0) (txt P1) 0 64 rfl (by rw [txt_size, hP1l]) (strOf_start iv _ (List.length_replicate ..)) (HKc.out.below hB) (by decide)
  have ADD1 : Hid (∀ wx s k, Below wc.heap.size wc wx -> StrOf iv P1 s k -> Calls Tryz.prog 77 #[.agg (strL s k 64).toArray, .string text] wx fun e w' => ∃ s2 k2, e = .returned (.agg (strL s2 k2 (64 + text.size)).toArray) /\ StrOf iv M1 s2 k2 /\ Below wx.heap.size wx w') := fun wx s k hB hS => by
   have h := add_n wx P1 s k text 64 (64 + text.size) hP1l rfl hS (HKc.out.below hB) (by omega)
   rw [hM1] at h
   exact h
  have SUM1 : Hid (∀ wx s k, Below wc.heap.size wc wx -> StrOf iv M1 s k -> Calls Tryz.prog 78 #[.agg (strL s k (64 + text.size)).toArray] wx fun e w' => e = .returned (.agg ((sumL M1).map byteV).toArray) /\ Below wx.heap.size wx w') := fun wx s k hB hS =>
   stsum_n wx M1 s k _ hM1l hS (HKc.out.below hB) (by omega)
  have PAD1 : Hid (∀ wx, Below wc.heap.size wc wx -> Calls Tryz.prog 75 #[.int .u8 54, .pointer (some ⟨w.heap.size, 0, none⟩)] wx fun e w' => e = .returned (.string (txt P1)) /\ Below wx.heap.size wx w') := fun wx hB => by
   rw [<- hP1]
   exact PAD.out wx (HBelc.out.trans (hB.mono HBelc.out.size)) (HBc.out.below hB HBc.out.lt) 54
  have hD1 : Hid (((sumL M1).map byteV).length = 32) := by unfold Hid; rw [List.length_map, sumL_len]
  have hDo : Hid (∀ v ∈ (sumL M1).map byteV, v.oneCell' = true) := byteV_one _
  have hP1H := Lib.hid hP1
  have hM1H := Lib.hid hM1
  obtain ⟨D, hD⟩ : ∃ D, (sumL M1).map byteV = D := ⟨_, rfl⟩
  have hDH := Lib.hid hD
  rw [hD] at SUM1 hD1 hDo
  clear hP1 hM1 hP1l hM1l hD hyl
  go_upto_region 6 with (first
   | (go_at_call 78; refine (SUM1.out _ s3 k3 HB4.out HS3.out).mono ?_; rintro e w5 ⟨rfl, hB⟩; have HB5 := Lib.hid (HB4.out.trans (hB.mono HB4.out.size)); clear hB)
   | (go_at_call 77; refine (ADD1.out _ s2 k2 HB3.out HS2.out).mono ?_; rintro e w4 ⟨s3, k3, rfl, hS, hB⟩; have HB4 := Lib.hid (HB3.out.trans (hB.mono HB3.out.size)); have HS3 := Lib.hid hS; clear hB hS)
   | (go_at_call 77; refine (ADD0.out _ HB2.out).mono ?_; rintro e w3 ⟨s2, k2, rfl, hS, hB⟩; have HB3 := Lib.hid (HB2.out.trans (hB.mono HB2.out.size)); have HS2 := Lib.hid hS; clear hB hS)
   | (go_at_call 75; refine (PAD1.out _ HB1.out).mono ?_; rintro e w2 ⟨rfl, hB⟩; have HB2 := Lib.hid (HB1.out.trans (hB.mono HB1.out.size)); clear hB)
   | (go_at_call 76; refine (begin_any _).mono ?_; rintro e w1 ⟨rfl, hB⟩; have HB1 := Lib.hid hB; clear hB)
   | (refine wpList_store_mid rfl 109 _ _ rfl w5.heap.size 0 D.toArray rfl rfl (there_of_blk (o := 0) (Blk.new w5 109 z32) (by rw [List.size_toArray, hD1.out]; exact Nat.le_refl _)) (by rw [List.size_toArray, hD1.out]; exact infoA32b) (all_oneCell_toArray hDo.out) ?_)
   | fail)
  try simp only [Act.put]
  refine world_is (P := fun W => Code.wp _ _ _ _ W) (fun W7 hW7 => ?_)
  have hib : Hid (Blk W7 w5.heap.size 109 D.toArray) := by unfold Hid; rw [<- hW7]; exact blk_setWhole (Blk.new w5 109 z32) D (by rw [hD1.out]; rfl)
  have hBel7 : Hid (Below wc.heap.size wc W7) := by unfold Hid; rw [<- hW7]; exact below_setCells HB5.out.size _ 0 _ (HB5.out.alloc HB5.out.size _)
  clear hW7 HB4 HB3 HB2 HB1 HS2 HS3 ADD0 ADD1 SUM1 PAD1
  obtain ⟨ib, hibe⟩ : ∃ ib, w5.heap.size = ib := ⟨_, rfl⟩
  rw [hibe] at hib ⊢
  clear hibe HB5
  obtain ⟨X1, hX1⟩ : ∃ X1, txt (sumL M1) = X1 := ⟨_, rfl⟩
  have hX1b : bl X1 = sumL M1 := by rw [<- hX1]; rfl
  have hX1s : X1.size = 32 := by rw [<- bl_len, hX1b, sumL_len]
  have CV : Hid (∀ wx, Below W7.heap.size W7 wx -> (convert 66 9 (.slice (some ⟨ib, 0, none⟩) 32 32)).run Tryz.prog wx = .ok (.string X1) wx) := fun wx hB => by
   have h := hib.out.below hB hib.out.lt
   rw [<- hDH.out] at h
   have h2 := conv_bytes (c := 32) (blk_bytes h)
   rw [sumL_len] at h2
   rw [<- hX1]
   exact h2
  obtain ⟨P2, hP2⟩ : ∃ P2, padK (bl y) 92 = P2 := ⟨_, rfl⟩
  have hyl : y.size <= 64 := by rw [<- bl_len, hy]; exact keyOf_len _
  have hP2l : P2.length = 64 := by rw [<- hP2]; exact padK_len _ _ (by rw [bl_len]; exact hyl)
  obtain ⟨M2, hM2⟩ : ∃ M2, P2 ++ sumL M1 = M2 := ⟨_, rfl⟩
  have hM2l : M2.length = 96 := by rw [<- hM2, List.length_append, hP2l, sumL_len]
  have HKd := Lib.hid (HKc.out.below hBel7.out)
  have HBd := Lib.hid (HBc.out.below hBel7.out HBc.out.lt)
  have HBeld := Lib.hid (HBelc.out.trans (hBel7.out.mono HBelc.out.size))
  have PAD2 : Hid (∀ wx, Below W7.heap.size W7 wx -> Calls Tryz.prog 75 #[.int .u8 92, .pointer (some ⟨w.heap.size, 0, none⟩)] wx fun e w' => e = .returned (.string (txt P2)) /\ Below wx.heap.size wx w') := fun wx hB => by
   rw [<- hP2]
   exact PAD.out wx (HBeld.out.trans (hB.mono HBeld.out.size)) (HBd.out.below hB HBd.out.lt) 92
  have ADDA : Hid (∀ wx, Below W7.heap.size W7 wx -> Calls Tryz.prog 77 #[.agg (strL iv (List.replicate 64 0) 0).toArray, .string (txt P2)] wx fun e w' => ∃ s2 k2, e = .returned (.agg (strL s2 k2 64).toArray) /\ StrOf iv P2 s2 k2 /\ Below wx.heap.size wx w') := fun wx hB =>
   add_n wx [] iv (List.replicate 64 0) (txt P2) 0 64 rfl (by rw [txt_size, hP2l]) (strOf_start iv _ (List.length_replicate ..)) (HKd.out.below hB) (by decide)
  have ADDB : Hid (∀ wx s k, Below W7.heap.size W7 wx -> StrOf iv P2 s k -> Calls Tryz.prog 77 #[.agg (strL s k 64).toArray, .string X1] wx fun e w' => ∃ s2 k2, e = .returned (.agg (strL s2 k2 96).toArray) /\ StrOf iv M2 s2 k2 /\ Below wx.heap.size wx w') := fun wx s k hB hS => by
   have h := add_n wx P2 s k X1 64 96 hP2l (by rw [hX1s]) hS (HKd.out.below hB) (by decide)
   rw [hX1b, hM2] at h
   exact h
  have SUM2 : Hid (∀ wx s k, Below W7.heap.size W7 wx -> StrOf iv M2 s k -> Calls Tryz.prog 78 #[.agg (strL s k 96).toArray] wx fun e w' => e = .returned (.agg ((sumL M2).map byteV).toArray) /\ Below wx.heap.size wx w') := fun wx s k hB hS =>
   stsum_n wx M2 s k _ hM2l hS (HKd.out.below hB) (by decide)
  have HLD : Hid (((sumL M2).map byteV).length = 32) := by unfold Hid; rw [List.length_map, sumL_len]
  have hD2o : Hid (∀ v ∈ (sumL M2).map byteV, v.oneCell' = true) := byteV_one _
  have hfin : Hid (sumL M2 = macL (bl key) (bl text)) := by
   unfold Hid macL
   rw [<- hy, hP2, hP1H.out, hM1H.out, hM2]
  obtain ⟨D2, hD2⟩ : ∃ D2, (sumL M2).map byteV = D2 := ⟨_, rfl⟩
  have hD2H := Lib.hid hD2
  rw [hD2] at SUM2 HLD hD2o
  clear hX1 hX1b hX1s hP2 hyl hP2l hM2 hM2l hD2 hib HKc HBc HBelc hBel7
  go_cut [8] from 25 to 32 (fun p wx => ∃ ob, p = .pointer (some ⟨ob, 0, none⟩) /\ Hid (Blk wx ob 109 D2.toArray) /\ Hid (Below W7.heap.size W7 wx))
  case first =>
   refine wp_region_held_drew (S := (fun w' => (convert 66 9 (.slice (some ⟨ib, 0, none⟩) 32 32)).run Tryz.prog w' = .ok (.string X1) w')) (by kernel_rfl) (CV.out _ (Below.refl _ W7).drew) (fun hHeld => ?_)
   refine' tk 1 rfl hHeld ?_
   try simp only [sA, gA]
   refine' tk 4 rfl hHeld ?_
   try simp only [sA, gA]
   refine' tk 5 rfl hHeld ?_
   try simp only [sA, gA]
   refine wpAnyH_ready (rs := [0, 8]) (by kernel_rfl) (by simp) ?_
   refine AllReadyH.cons rfl (fun K hK => ?_) (AllReadyH.cons rfl (fun K hK => ?_) AllReadyH.nil)
   ·
    go_simp
    go_at_call 76
    refine (begin_any _).mono ?_
    rintro e x1 ⟨rfl, hB⟩
    have HBx1 := Lib.hid (((Below.refl W7.heap.size W7).drew).trans (hB.mono ((Below.refl W7.heap.size W7).drew).size))
    clear hB
    go_wp2_with fail
    refine hK.out _ _ ?_ (fun hHeld2 => ?_)
    ·exact CV.out _ HBx1.out
    clear hK K hHeld
    have hHeld := hHeld2
    clear hHeld2
    try simp only [sA, gA]
    refine wpAnyH_ready (rs := [2, 8]) (by kernel_rfl) (by simp) ?_
    refine AllReadyH.cons rfl (fun K hK => ?_) (AllReadyH.cons rfl (fun K hK => ?_) AllReadyH.nil)
    ·
     go_simp
     go_at_call 75
     refine (PAD2.out _ (HBx1.out)).mono ?_
     rintro e x2 ⟨rfl, hB⟩
     have HBx2 := Lib.hid ((HBx1.out).trans (hB.mono (HBx1.out).size))
     clear hB
     go_wp2_with fail
     refine hK.out _ _ ?_ (fun hHeld2 => ?_)
     ·exact CV.out _ HBx2.out
     clear hK K hHeld
     have hHeld := hHeld2
     clear hHeld2
     try simp only [sA, gA]
     refine wpAnyH_ready (rs := [3, 8]) (by kernel_rfl) (by simp) ?_
     refine AllReadyH.cons rfl (fun K hK => ?_) (AllReadyH.cons rfl (fun K hK => ?_) AllReadyH.nil)
     ·
      go_simp
      go_at_call 77
      refine (ADDA.out _ (HBx2.out)).mono ?_
      rintro e x3 ⟨s3, k3, rfl, hS3, hB⟩
      have HS3 := Lib.hid hS3
      clear hS3
      have HBx3 := Lib.hid ((HBx2.out).trans (hB.mono (HBx2.out).size))
      clear hB
      go_wp2_with fail
      refine hK.out _ _ ?_ (fun hHeld2 => ?_)
      ·exact CV.out _ HBx3.out
      clear hK K hHeld
      have hHeld := hHeld2
      clear hHeld2
      try simp only [sA, gA]
      refine wpAnyH_ready (rs := [6, 8]) (by kernel_rfl) (by simp) ?_
      refine AllReadyH.cons rfl (fun K hK => ?_) (AllReadyH.cons rfl (fun K hK => ?_) AllReadyH.nil)
      ·
       go_simp
       go_at_call 77
       refine (ADDB.out _ s3 k3 (HBx3.out) HS3.out).mono ?_
       rintro e x4 ⟨s4, k4, rfl, hS4, hB⟩
       have HS4 := Lib.hid hS4
       clear hS4
       have HBx4 := Lib.hid ((HBx3.out).trans (hB.mono (HBx3.out).size))
       clear hB
       go_wp2_with fail
       refine hK.out _ _ ?_ (fun hHeld2 => ?_)
       ·exact CV.out _ HBx4.out
       clear hK K hHeld
       have hHeld := hHeld2
       clear hHeld2
       try simp only [sA, gA]
       refine wpAnyH_ready (rs := [7, 8]) (by kernel_rfl) (by simp) ?_
       refine AllReadyH.cons rfl (fun K hK => ?_) (AllReadyH.cons rfl (fun K hK => ?_) AllReadyH.nil)
       ·
        go_simp
        go_at_call 78
        refine (SUM2.out _ s4 k4 (HBx4.out) HS4.out).mono ?_
        rintro e x5 ⟨rfl, hB⟩
        have HBx5 := Lib.hid ((HBx4.out).trans (hB.mono (HBx4.out).size))
        clear hB
        go_wp2_with fail
        refine hK.out _ _ ?_ (fun hHeld2 => ?_)
        ·exact CV.out _ HBx5.out
        clear hK K hHeld
        have hHeld := hHeld2
        clear hHeld2
        try simp only [sA, gA]
        refine td 8 rfl (fun K hK => ?_)
        go_simp
        have hge : Hid (W7.heap.size <= (x5).heap.size) := (HBx5.out).size
        have HBx6 := Lib.hid ((HBx5.out).alloc (HBx5.out).size (.cells z32 109))
        have HOx6 := Lib.hid (Blk.new (x5) 109 z32)
        refine hK.out _ _ ?_ (fun hHeld2 => ?_)
        ·exact CV.out _ HBx6.out
        clear hK K hHeld
        have hHeld := hHeld2
        clear hHeld2
        try simp only [sA, gA]
        refine td 9 rfl (fun K hK => ?_)
        refine wp_store_mid 109 _ _ rfl ((x5).heap.size) 0 D2.toArray rfl rfl ?h1x7 ?h2x7 ?h3x7 ?h4x7
        case h1x7 => exact there_of_blk (o := 0) (HOx6.out) (by rw [List.size_toArray, HLD.out]; exact Nat.le_refl _)
        case h2x7 => rw [List.size_toArray, HLD.out]; exact infoA32b
        case h3x7 => exact all_oneCell_toArray hD2o.out
        case h4x7 =>
        refine hK.out _ _ ?_ (fun hHeld2 => ?_)
        ·exact CV.out _ (below_setCells hge.out _ 0 _ (HBx6.out))
        clear hK K hHeld
        have hHeld := hHeld2
        clear hHeld2
        try simp only [Act.put, zq]
        refine wpAnyH_done (by kernel_rfl) ?_ _
        clear hHeld
        go_wp2_with fail
        go_meet
        exact ⟨_, rfl, blk_setWhole (HOx6.out) D2 (by rw [HLD.out]; rfl), below_setCells hge.out _ 0 _ (HBx6.out)⟩
       ·
        go_simp
        have hge : Hid (W7.heap.size <= (x4).heap.size) := (HBx4.out).size
        have HBx8 := Lib.hid ((HBx4.out).alloc (HBx4.out).size (.cells z32 109))
        have HOx8 := Lib.hid (Blk.new (x4) 109 z32)
        refine hK.out _ _ ?_ (fun hHeld2 => ?_)
        ·exact CV.out _ HBx8.out
        clear hK K hHeld
        have hHeld := hHeld2
        clear hHeld2
        try simp only [sA, gA]
        refine td 7 rfl (fun K hK => ?_)
        go_simp
        go_at_call 78
        refine (SUM2.out _ s4 k4 (HBx8.out) HS4.out).mono ?_
        rintro e x9 ⟨rfl, hB⟩
        have HBx9 := Lib.hid ((HBx8.out).trans (hB.mono (HBx8.out).size))
        have HOx9 := Lib.hid ((HOx8.out).below hB (HOx8.out).lt)
        clear hB
        go_wp2_with fail
        refine hK.out _ _ ?_ (fun hHeld2 => ?_)
        ·exact CV.out _ HBx9.out
        clear hK K hHeld
        have hHeld := hHeld2
        clear hHeld2
        try simp only [sA, gA]
        refine td 9 rfl (fun K hK => ?_)
        refine wp_store_mid 109 _ _ rfl ((x4).heap.size) 0 D2.toArray rfl rfl ?h1x10 ?h2x10 ?h3x10 ?h4x10
        case h1x10 => exact there_of_blk (o := 0) (HOx9.out) (by rw [List.size_toArray, HLD.out]; exact Nat.le_refl _)
        case h2x10 => rw [List.size_toArray, HLD.out]; exact infoA32b
        case h3x10 => exact all_oneCell_toArray hD2o.out
        case h4x10 =>
        refine hK.out _ _ ?_ (fun hHeld2 => ?_)
        ·exact CV.out _ (below_setCells hge.out _ 0 _ (HBx9.out))
        clear hK K hHeld
        have hHeld := hHeld2
        clear hHeld2
        try simp only [Act.put, zq]
        refine wpAnyH_done (by kernel_rfl) ?_ _
        clear hHeld
        go_wp2_with fail
        go_meet
        exact ⟨_, rfl, blk_setWhole (HOx9.out) D2 (by rw [HLD.out]; rfl), below_setCells hge.out _ 0 _ (HBx9.out)⟩
      ·
       go_simp
       have hge : Hid (W7.heap.size <= (x3).heap.size) := (HBx3.out).size
       have HBx11 := Lib.hid ((HBx3.out).alloc (HBx3.out).size (.cells z32 109))
       have HOx11 := Lib.hid (Blk.new (x3) 109 z32)
       refine hK.out _ _ ?_ (fun hHeld2 => ?_)
       ·exact CV.out _ HBx11.out
       clear hK K hHeld
       have hHeld := hHeld2
       clear hHeld2
       try simp only [sA, gA]
       refine td 6 rfl (fun K hK => ?_)
       go_simp
       go_at_call 77
       refine (ADDB.out _ s3 k3 (HBx11.out) HS3.out).mono ?_
       rintro e x12 ⟨s4, k4, rfl, hS4, hB⟩
       have HS4 := Lib.hid hS4
       clear hS4
       have HBx12 := Lib.hid ((HBx11.out).trans (hB.mono (HBx11.out).size))
       have HOx12 := Lib.hid ((HOx11.out).below hB (HOx11.out).lt)
       clear hB
       go_wp2_with fail
       refine hK.out _ _ ?_ (fun hHeld2 => ?_)
       ·exact CV.out _ HBx12.out
       clear hK K hHeld
       have hHeld := hHeld2
       clear hHeld2
       try simp only [sA, gA]
       refine td 7 rfl (fun K hK => ?_)
       go_simp
       go_at_call 78
       refine (SUM2.out _ s4 k4 (HBx12.out) HS4.out).mono ?_
       rintro e x13 ⟨rfl, hB⟩
       have HBx13 := Lib.hid ((HBx12.out).trans (hB.mono (HBx12.out).size))
       have HOx13 := Lib.hid ((HOx12.out).below hB (HOx12.out).lt)
       clear hB
       go_wp2_with fail
       refine hK.out _ _ ?_ (fun hHeld2 => ?_)
       ·exact CV.out _ HBx13.out
       clear hK K hHeld
       have hHeld := hHeld2
       clear hHeld2
       try simp only [sA, gA]
       refine td 9 rfl (fun K hK => ?_)
       refine wp_store_mid 109 _ _ rfl ((x3).heap.size) 0 D2.toArray rfl rfl ?h1x14 ?h2x14 ?h3x14 ?h4x14
       case h1x14 => exact there_of_blk (o := 0) (HOx13.out) (by rw [List.size_toArray, HLD.out]; exact Nat.le_refl _)
       case h2x14 => rw [List.size_toArray, HLD.out]; exact infoA32b
       case h3x14 => exact all_oneCell_toArray hD2o.out
       case h4x14 =>
       refine hK.out _ _ ?_ (fun hHeld2 => ?_)
       ·exact CV.out _ (below_setCells hge.out _ 0 _ (HBx13.out))
       clear hK K hHeld
       have hHeld := hHeld2
       clear hHeld2
       try simp only [Act.put, zq]
       refine wpAnyH_done (by kernel_rfl) ?_ _
       clear hHeld
       go_wp2_with fail
       go_meet
       exact ⟨_, rfl, blk_setWhole (HOx13.out) D2 (by rw [HLD.out]; rfl), below_setCells hge.out _ 0 _ (HBx13.out)⟩
     ·
      go_simp
      have hge : Hid (W7.heap.size <= (x2).heap.size) := (HBx2.out).size
      have HBx15 := Lib.hid ((HBx2.out).alloc (HBx2.out).size (.cells z32 109))
      have HOx15 := Lib.hid (Blk.new (x2) 109 z32)
      refine hK.out _ _ ?_ (fun hHeld2 => ?_)
      ·exact CV.out _ HBx15.out
      clear hK K hHeld
      have hHeld := hHeld2
      clear hHeld2
      try simp only [sA, gA]
      refine td 3 rfl (fun K hK => ?_)
      go_simp
      go_at_call 77
      refine (ADDA.out _ (HBx15.out)).mono ?_
      rintro e x16 ⟨s3, k3, rfl, hS3, hB⟩
      have HS3 := Lib.hid hS3
      clear hS3
      have HBx16 := Lib.hid ((HBx15.out).trans (hB.mono (HBx15.out).size))
      have HOx16 := Lib.hid ((HOx15.out).below hB (HOx15.out).lt)
      clear hB
      go_wp2_with fail
      refine hK.out _ _ ?_ (fun hHeld2 => ?_)
      ·exact CV.out _ HBx16.out
      clear hK K hHeld
      have hHeld := hHeld2
      clear hHeld2
      try simp only [sA, gA]
      refine td 6 rfl (fun K hK => ?_)
      go_simp
      go_at_call 77
      refine (ADDB.out _ s3 k3 (HBx16.out) HS3.out).mono ?_
      rintro e x17 ⟨s4, k4, rfl, hS4, hB⟩
      have HS4 := Lib.hid hS4
      clear hS4
      have HBx17 := Lib.hid ((HBx16.out).trans (hB.mono (HBx16.out).size))
      have HOx17 := Lib.hid ((HOx16.out).below hB (HOx16.out).lt)
      clear hB
      go_wp2_with fail
      refine hK.out _ _ ?_ (fun hHeld2 => ?_)
      ·exact CV.out _ HBx17.out
      clear hK K hHeld
      have hHeld := hHeld2
      clear hHeld2
      try simp only [sA, gA]
      refine td 7 rfl (fun K hK => ?_)
      go_simp
      go_at_call 78
      refine (SUM2.out _ s4 k4 (HBx17.out) HS4.out).mono ?_
      rintro e x18 ⟨rfl, hB⟩
      have HBx18 := Lib.hid ((HBx17.out).trans (hB.mono (HBx17.out).size))
      have HOx18 := Lib.hid ((HOx17.out).below hB (HOx17.out).lt)
      clear hB
      go_wp2_with fail
      refine hK.out _ _ ?_ (fun hHeld2 => ?_)
      ·exact CV.out _ HBx18.out
      clear hK K hHeld
      have hHeld := hHeld2
      clear hHeld2
      try simp only [sA, gA]
      refine td 9 rfl (fun K hK => ?_)
      refine wp_store_mid 109 _ _ rfl ((x2).heap.size) 0 D2.toArray rfl rfl ?h1x19 ?h2x19 ?h3x19 ?h4x19
      case h1x19 => exact there_of_blk (o := 0) (HOx18.out) (by rw [List.size_toArray, HLD.out]; exact Nat.le_refl _)
      case h2x19 => rw [List.size_toArray, HLD.out]; exact infoA32b
      case h3x19 => exact all_oneCell_toArray hD2o.out
      case h4x19 =>
      refine hK.out _ _ ?_ (fun hHeld2 => ?_)
      ·exact CV.out _ (below_setCells hge.out _ 0 _ (HBx18.out))
      clear hK K hHeld
      have hHeld := hHeld2
      clear hHeld2
      try simp only [Act.put, zq]
      refine wpAnyH_done (by kernel_rfl) ?_ _
      clear hHeld
      go_wp2_with fail
      go_meet
      exact ⟨_, rfl, blk_setWhole (HOx18.out) D2 (by rw [HLD.out]; rfl), below_setCells hge.out _ 0 _ (HBx18.out)⟩
    ·
     go_simp
     have hge : Hid (W7.heap.size <= (x1).heap.size) := (HBx1.out).size
     have HBx20 := Lib.hid ((HBx1.out).alloc (HBx1.out).size (.cells z32 109))
     have HOx20 := Lib.hid (Blk.new (x1) 109 z32)
     refine hK.out _ _ ?_ (fun hHeld2 => ?_)
     ·exact CV.out _ HBx20.out
     clear hK K hHeld
     have hHeld := hHeld2
     clear hHeld2
     try simp only [sA, gA]
     refine td 2 rfl (fun K hK => ?_)
     go_simp
     go_at_call 75
     refine (PAD2.out _ (HBx20.out)).mono ?_
     rintro e x21 ⟨rfl, hB⟩
     have HBx21 := Lib.hid ((HBx20.out).trans (hB.mono (HBx20.out).size))
     have HOx21 := Lib.hid ((HOx20.out).below hB (HOx20.out).lt)
     clear hB
     go_wp2_with fail
     refine hK.out _ _ ?_ (fun hHeld2 => ?_)
     ·exact CV.out _ HBx21.out
     clear hK K hHeld
     have hHeld := hHeld2
     clear hHeld2
     try simp only [sA, gA]
     refine td 3 rfl (fun K hK => ?_)
     go_simp
     go_at_call 77
     refine (ADDA.out _ (HBx21.out)).mono ?_
     rintro e x22 ⟨s3, k3, rfl, hS3, hB⟩
     have HS3 := Lib.hid hS3
     clear hS3
     have HBx22 := Lib.hid ((HBx21.out).trans (hB.mono (HBx21.out).size))
     have HOx22 := Lib.hid ((HOx21.out).below hB (HOx21.out).lt)
     clear hB
     go_wp2_with fail
     refine hK.out _ _ ?_ (fun hHeld2 => ?_)
     ·exact CV.out _ HBx22.out
     clear hK K hHeld
     have hHeld := hHeld2
     clear hHeld2
     try simp only [sA, gA]
     refine td 6 rfl (fun K hK => ?_)
     go_simp
     go_at_call 77
     refine (ADDB.out _ s3 k3 (HBx22.out) HS3.out).mono ?_
     rintro e x23 ⟨s4, k4, rfl, hS4, hB⟩
     have HS4 := Lib.hid hS4
     clear hS4
     have HBx23 := Lib.hid ((HBx22.out).trans (hB.mono (HBx22.out).size))
     have HOx23 := Lib.hid ((HOx22.out).below hB (HOx22.out).lt)
     clear hB
     go_wp2_with fail
     refine hK.out _ _ ?_ (fun hHeld2 => ?_)
     ·exact CV.out _ HBx23.out
     clear hK K hHeld
     have hHeld := hHeld2
     clear hHeld2
     try simp only [sA, gA]
     refine td 7 rfl (fun K hK => ?_)
     go_simp
     go_at_call 78
     refine (SUM2.out _ s4 k4 (HBx23.out) HS4.out).mono ?_
     rintro e x24 ⟨rfl, hB⟩
     have HBx24 := Lib.hid ((HBx23.out).trans (hB.mono (HBx23.out).size))
     have HOx24 := Lib.hid ((HOx23.out).below hB (HOx23.out).lt)
     clear hB
     go_wp2_with fail
     refine hK.out _ _ ?_ (fun hHeld2 => ?_)
     ·exact CV.out _ HBx24.out
     clear hK K hHeld
     have hHeld := hHeld2
     clear hHeld2
     try simp only [sA, gA]
     refine td 9 rfl (fun K hK => ?_)
     refine wp_store_mid 109 _ _ rfl ((x1).heap.size) 0 D2.toArray rfl rfl ?h1x25 ?h2x25 ?h3x25 ?h4x25
     case h1x25 => exact there_of_blk (o := 0) (HOx24.out) (by rw [List.size_toArray, HLD.out]; exact Nat.le_refl _)
     case h2x25 => rw [List.size_toArray, HLD.out]; exact infoA32b
     case h3x25 => exact all_oneCell_toArray hD2o.out
     case h4x25 =>
     refine hK.out _ _ ?_ (fun hHeld2 => ?_)
     ·exact CV.out _ (below_setCells hge.out _ 0 _ (HBx24.out))
     clear hK K hHeld
     have hHeld := hHeld2
     clear hHeld2
     try simp only [Act.put, zq]
     refine wpAnyH_done (by kernel_rfl) ?_ _
     clear hHeld
     go_wp2_with fail
     go_meet
     exact ⟨_, rfl, blk_setWhole (HOx24.out) D2 (by rw [HLD.out]; rfl), below_setCells hge.out _ 0 _ (HBx24.out)⟩
   ·
    go_simp
    have hge : Hid (W7.heap.size <= (W7.drew).heap.size) := ((Below.refl W7.heap.size W7).drew).size
    have HBx26 := Lib.hid (((Below.refl W7.heap.size W7).drew).alloc ((Below.refl W7.heap.size W7).drew).size (.cells z32 109))
    have HOx26 := Lib.hid (Blk.new (W7.drew) 109 z32)
    refine hK.out _ _ ?_ (fun hHeld2 => ?_)
    ·exact CV.out _ HBx26.out
    clear hK K hHeld
    have hHeld := hHeld2
    clear hHeld2
    try simp only [sA, gA]
    refine td 0 rfl (fun K hK => ?_)
    go_simp
    go_at_call 76
    refine (begin_any _).mono ?_
    rintro e x27 ⟨rfl, hB⟩
    have HBx27 := Lib.hid ((HBx26.out).trans (hB.mono (HBx26.out).size))
    have HOx27 := Lib.hid ((HOx26.out).below hB (HOx26.out).lt)
    clear hB
    go_wp2_with fail
    refine hK.out _ _ ?_ (fun hHeld2 => ?_)
    ·exact CV.out _ HBx27.out
    clear hK K hHeld
    have hHeld := hHeld2
    clear hHeld2
    try simp only [sA, gA]
    refine td 2 rfl (fun K hK => ?_)
    go_simp
    go_at_call 75
    refine (PAD2.out _ (HBx27.out)).mono ?_
    rintro e x28 ⟨rfl, hB⟩
    have HBx28 := Lib.hid ((HBx27.out).trans (hB.mono (HBx27.out).size))
    have HOx28 := Lib.hid ((HOx27.out).below hB (HOx27.out).lt)
    clear hB
    go_wp2_with fail
    refine hK.out _ _ ?_ (fun hHeld2 => ?_)
    ·exact CV.out _ HBx28.out
    clear hK K hHeld
    have hHeld := hHeld2
    clear hHeld2
    try simp only [sA, gA]
    refine td 3 rfl (fun K hK => ?_)
    go_simp
    go_at_call 77
    refine (ADDA.out _ (HBx28.out)).mono ?_
    rintro e x29 ⟨s3, k3, rfl, hS3, hB⟩
    have HS3 := Lib.hid hS3
    clear hS3
    have HBx29 := Lib.hid ((HBx28.out).trans (hB.mono (HBx28.out).size))
    have HOx29 := Lib.hid ((HOx28.out).below hB (HOx28.out).lt)
    clear hB
    go_wp2_with fail
    refine hK.out _ _ ?_ (fun hHeld2 => ?_)
    ·exact CV.out _ HBx29.out
    clear hK K hHeld
    have hHeld := hHeld2
    clear hHeld2
    try simp only [sA, gA]
    refine td 6 rfl (fun K hK => ?_)
    go_simp
    go_at_call 77
    refine (ADDB.out _ s3 k3 (HBx29.out) HS3.out).mono ?_
    rintro e x30 ⟨s4, k4, rfl, hS4, hB⟩
    have HS4 := Lib.hid hS4
    clear hS4
    have HBx30 := Lib.hid ((HBx29.out).trans (hB.mono (HBx29.out).size))
    have HOx30 := Lib.hid ((HOx29.out).below hB (HOx29.out).lt)
    clear hB
    go_wp2_with fail
    refine hK.out _ _ ?_ (fun hHeld2 => ?_)
    ·exact CV.out _ HBx30.out
    clear hK K hHeld
    have hHeld := hHeld2
    clear hHeld2
    try simp only [sA, gA]
    refine td 7 rfl (fun K hK => ?_)
    go_simp
    go_at_call 78
    refine (SUM2.out _ s4 k4 (HBx30.out) HS4.out).mono ?_
    rintro e x31 ⟨rfl, hB⟩
    have HBx31 := Lib.hid ((HBx30.out).trans (hB.mono (HBx30.out).size))
    have HOx31 := Lib.hid ((HOx30.out).below hB (HOx30.out).lt)
    clear hB
    go_wp2_with fail
    refine hK.out _ _ ?_ (fun hHeld2 => ?_)
    ·exact CV.out _ HBx31.out
    clear hK K hHeld
    have hHeld := hHeld2
    clear hHeld2
    try simp only [sA, gA]
    refine td 9 rfl (fun K hK => ?_)
    refine wp_store_mid 109 _ _ rfl ((W7.drew).heap.size) 0 D2.toArray rfl rfl ?h1x32 ?h2x32 ?h3x32 ?h4x32
    case h1x32 => exact there_of_blk (o := 0) (HOx31.out) (by rw [List.size_toArray, HLD.out]; exact Nat.le_refl _)
    case h2x32 => rw [List.size_toArray, HLD.out]; exact infoA32b
    case h3x32 => exact all_oneCell_toArray hD2o.out
    case h4x32 =>
    refine hK.out _ _ ?_ (fun hHeld2 => ?_)
    ·exact CV.out _ (below_setCells hge.out _ 0 _ (HBx31.out))
    clear hK K hHeld
    have hHeld := hHeld2
    clear hHeld2
    try simp only [Act.put, zq]
    refine wpAnyH_done (by kernel_rfl) ?_ _
    clear hHeld
    go_wp2_with fail
    go_meet
    exact ⟨_, rfl, blk_setWhole (HOx31.out) D2 (by rw [HLD.out]; rfl), below_setCells hge.out _ 0 _ (HBx31.out)⟩
  case rest =>
  obtain ⟨ob, rfl, hOB, hBelR⟩ := hcut
  have hcv : (convert 66 9 (.slice (some ⟨ob, 0, none⟩) 32 32)).run Tryz.prog wc = .ok (.string (txt (sumL M2))) wc := by
   have h := hOB.out
   rw [<- hD2H.out] at h
   have h2 := conv_bytes (c := 32) (blk_bytes h)
   rw [sumL_len] at h2
   exact h2
  go_wp2_with fail
  go_ret
  exact ⟨by rw [<- hfin.out]; rfl, HBeld.out.trans (hBelR.out.mono HBeld.out.size)⟩
end Go.Proofs.YtpghocekofdpbaaGreatDoor
namespace Go.Proofs.YtpghocekofdpbaaGreatDoor
def kFrom (n : Nat) : Nat -> Nat
 | 0 => 0
 | j + 1 => if 0 < n / 2 ^ (8 * j) then j + 1 else kFrom n j
theorem kFrom_le (n : Nat) : ∀ j, kFrom n j <= j
 | 0 => Nat.le_refl _
 | j + 1 => by
  unfold kFrom
  split
  ·exact Nat.le_refl _
  ·exact Nat.le_succ_of_le (kFrom_le n j)
def kOf (n : Nat) : Nat := kFrom n 8
theorem kOf_le (n : Nat) : kOf n <= 8 := kFrom_le n 8
def digL (n k : Nat) : List UInt8 := (List.range k).map fun i => UInt8.ofNat (n / 2 ^ (8 * (k - 1 - i)))
theorem digL_len (n k : Nat) : (digL n k).length = k := by unfold digL; rw [List.length_map, List.length_range]
theorem digL_snoc (n k t : Nat) (h : t < k) : (digL n k).take (t + 1) = (digL n k).take t ++ [UInt8.ofNat (n / 2 ^ (8 * (k - 1 - t)))] := by
 rw [List.take_add_one]
 unfold digL
 rw [List.getElem?_map, List.getElem?_range h]
 rfl
def intL (n : Nat) : List UInt8 := UInt8.ofNat (128 + kOf n) :: digL n (kOf n)
theorem intL_len (n : Nat) : (intL n).length = kOf n + 1 := by unfold intL; rw [List.length_cons, digL_len]
theorem intL_le (n : Nat) : (intL n).length <= 9 := by rw [intL_len]; have := kOf_le n; omega
def bytesL (b : List UInt8) : List UInt8 := intL b.length ++ b
end Go.Proofs.YtpghocekofdpbaaGreatDoor
