import Derived.Test.YtpghocekofdpbaaGreatDoorQb50
import Derived.Test.YtpghocekofdpbaaGreatDoorQb30
namespace Go.Proofs.YtpghocekofdpbaaGreatDoor
open Go.RowKit Go.Shelf
attribute [local go_sem] Oper.semAt_some
set_option maxRecDepth 100000 in
set_option maxHeartbeats 1600000 in
theorem rint_any (w : World) (n : Nat) (hn : n < 9223372036854775808) :
  Calls Tryz.prog 43 #[.int .i64 n] w fun e w' => ∃ v, e = .returned v /\ BRow w' w.heap.size v (intL n) /\ Below w.heap.size w w' := by
 have q2 : ¬ (n : Int) < 0 := by omega
 have q3 : decide ((n : Int) < 0) = false := decide_eq_false q2
 have q4 : decide ((n : Int) >= 0) = true := decide_eq_true (by omega)
 have hnH := Lib.hid hn
 clear hn
 go_enter Tryz.func43, Tryz.ntmps43
 have HR0 : Hid (BRow w w.heap.size (.slice none 0 0) (lowL n 0)) := brow_nil w _
 have H0 : Hid (n / 2 ^ (8 * 0) = n) := by unfold Hid; simp
 go_wp2_with fail
 go_loopw [3, 4] (fun p q wr => ∃ t m : Nat, p = .int .i64 m /\ Hid (n / 2 ^ (8 * t) = m) /\ Hid (t <= kOf n) /\ Hid (BRow wr w.heap.size q (lowL n t)) /\ Hid (Below w.heap.size w wr)) (fun p _ _ => (intOf p).toNat)
 case atStart => exact ⟨0, n, rfl, H0, Nat.zero_le _, HR0, Below.refl _ _⟩
 case round =>
  clear HR0 H0
  obtain ⟨t, m, rfl, hm, ht, hR, hB⟩ := hrel
  by_cases h0 : 0 < m
  ·have d1 : decide (0 < m) = true := decide_eq_true h0
   have d2 : decide ((0 : Int) < (m : Int)) = true := decide_eq_true (by omega)
   obtain ⟨bx, hbx⟩ : ∃ bx, UInt8.ofNat m = bx := ⟨_, rfl⟩
   have hv : Value.int IntKind.u8 ((m : Int) % 256) = byteV bx := by
    unfold byteV
    rw [<- hbx]
    congr 1
   have hvH := Lib.hid hv
   have hsn : Hid (lowL n (t + 1) = lowL n t ++ [bx]) := by unfold Hid; rw [lowL_snoc, hm.out, hbx]
   have hk1 : Hid (t + 1 <= kOf n) := kOf_gt n t hnH.out (by rw [hm.out]; exact h0)
   have hk8 : Hid (kOf n <= 8) := kOf_le n
   have hln : Hid ((lowL n t).length < 99999999999) := by unfold Hid; rw [lowL_len]; have h1 := hk1.out; have h2 := hk8.out; omega
   have hnx : Hid (n / 2 ^ (8 * (t + 1)) = m / 256) := by unfold Hid; rw [<- div_next, hm.out]
   have hms : Hid (m / 256 < m) := Nat.div_lt_self h0 (by decide)
   have hmb : m < 9223372036854775808 := by rw [<- hm.out]; exact Nat.lt_of_le_of_lt (Nat.div_le_self _ _) hnH.out
   have hdv : Hid (wrap64 ((m : Int) / 256) = ((m / 256 : Nat) : Int)) := w64_is (m / 256) (by omega)
   clear hmb
   have hz := Lib.hid hB.out.size
   clear hv hbx
   go_wp2_with (at_builtin; refine wp_push rfl _ _ rfl w.heap.size _ (lowL n t) rfl hR.out 1 bx hvH.out rfl hln.out hz.out ?_; intro v' w' hP; rw [<- hsn.out] at hP)
   have hB2 := Lib.hid (hP.bel _ _ (Nat.le_refl _) hz.out hB.out)
   have hR2 := Lib.hid hP.row
   rw [hdv.out]
   exact ⟨⟨t + 1, m / 256, rfl, hnx, hk1, hR2, hB2⟩, hms.out⟩
  ·have d1 : decide (0 < m) = false := decide_eq_false h0
   have d2 : decide ((0 : Int) < (m : Int)) = false := decide_eq_false (by omega)
   have hk : t = kOf n := Nat.le_antisymm ht.out (kOf_end n t (by rw [hm.out]; omega))
   subst hk
   obtain ⟨wo, rfl⟩ : ∃ wo, wo = wr := ⟨_, rfl⟩
   have hk8 := kOf_le n
   have hL : Hid (intL n = UInt8.ofNat (128 + kOf n) :: digL n (kOf n)) := rfl
   have hlow : Hid (∀ i, i < kOf n -> (lowL n (kOf n))[i]? = some (UInt8.ofNat (n / 2 ^ (8 * i)))) := fun i => lowL_get n _ i
   have hll : Hid ((lowL n (kOf n)).length = kOf n) := lowL_len n _
   generalize lowL n (kOf n) = LL at *
   generalize kOf n = k at *
   obtain ⟨A, cc, eA⟩ := hR.out.any
   rw [hll.out] at eA
   clear hm ht
   subst eA
   have hkH := Lib.hid hk8
   have hN0 : Hid (BRow wo wo.heap.size (.slice none 0 0) []) := brow_nil wo _
   have hx : Value.int IntKind.u8 (128 + (k : Int)) = byteV (UInt8.ofNat (128 + k)) := by
    unfold byteV
    rw [UInt8.toNat_ofNat', Nat.mod_eq_of_lt (by omega)]
    rfl
   obtain ⟨x0, hx0⟩ : ∃ x0, UInt8.ofNat (128 + k) = x0 := ⟨_, rfl⟩
   rw [hx0] at hx hL
   have hxH := Lib.hid hx
   clear hx hx0
   have hl0 : Hid (([] : List UInt8).length < 99999999999) := by unfold Hid; decide
   go_wp2_with (at_builtin; refine wp_push rfl _ _ rfl wo.heap.size _ [] rfl hN0.out 1 x0 hxH.out rfl hl0.out (Nat.le_refl _) ?_; intro v1 w1 hP1)
   have hR1 := Lib.hid hP1.row
   have hB1 := Lib.hid (hP1.bel wo.heap.size wo (Nat.le_refl _) (Nat.le_refl _) (Below.refl _ _))
   have hR10 : Hid (BRow w1 wo.heap.size v1 (x0 :: (digL n k).take (k - k))) := by
    have h := hR1.out
    unfold Hid
    rw [Nat.sub_self, List.take_zero]
    exact h
   clear hP1 hR1
   go_loopw [6, 7] (fun p q wr => ∃ j : Nat, q = .int .i64 ((j : Int) - 1) /\ Hid (j <= k) /\ Hid (BRow wr wo.heap.size p (x0 :: (digL n k).take (k - j))) /\ Hid (Below wo.heap.size wo wr)) (fun _ q _ => (intOf q + 1).toNat)
   case atStart => exact ⟨k, rfl, Nat.le_refl _, hR10, hB1⟩
   case round =>
    clear hR10 hB1
    obtain ⟨j, rfl, hj, hO, hB2⟩ := hrel
    cases j with
    | zero =>
     have hRf : BRow wr w.heap.size u6 (intL n) := by
      have h := hO.out
      rw [Nat.sub_zero, List.take_of_length_le (by rw [digL_len]; exact Nat.le_refl _)] at h
      rw [hL.out]
      exact h.more hB.out.size
     have hBf : Below w.heap.size w wr := hB.out.trans (hB2.out.mono hB.out.size)
     go_wp2_with fail
     go_ret
     exact ⟨_, rfl, hRf, hBf⟩
    | succ i =>
     have hik : Hid (i < k) := hj.out
     have hsn := digL_snoc n k (k - (i + 1)) (by have := hik.out; omega)
     rw [show k - 1 - (k - (i + 1)) = i by (have := hik.out; omega), show k - (i + 1) + 1 = k - i by (have := hik.out; omega)] at hsn
     have hlo := hlow.out i hik.out
     obtain ⟨bx, hbx⟩ : ∃ bx, UInt8.ofNat (n / 2 ^ (8 * i)) = bx := ⟨_, rfl⟩
     rw [hbx] at hsn hlo
     have hsnH := Lib.hid hsn
     have hRd := hR.out.below hB2.out
     obtain ⟨g, c2, e2, _, hg⟩ := hRd.slice (by intro e; have h1 := hll.out; rw [e, List.length_nil] at h1; have h2 := hik.out; omega)
     rw [hll.out] at e2
     injection e2 with eA _ eC
     subst eA eC
     have cx : wr.cell? ⟨g, i, none⟩ = some (byteV bx) := hRd.cell i bx hlo
     unfold byteV at cx
     have hln : Hid ((x0 :: (digL n k).take (k - (i + 1))).length < 99999999999) := by
      unfold Hid
      rw [List.length_cons, List.length_take]
      have := hkH.out
      omega
     have t1 : i < k := hik.out
     have hsz := Lib.hid hB2.out.size
     clear hsn hbx hlo hRd
     go_wp2_with (at_builtin; refine wp_push rfl _ _ rfl wo.heap.size _ (x0 :: (digL n k).take (k - (i + 1))) rfl hO.out 1 bx rfl rfl hln.out hsz.out ?_; intro v' w' hP; rw [List.cons_append, <- hsnH.out] at hP)
     have hj2 : Hid (i <= k) := Nat.le_of_lt hik.out
     refine ⟨⟨i, rfl, hj2, hP.row, hP.bel _ _ (Nat.le_refl _) hsz.out hB2.out⟩, ?_⟩
     simp [intOf]
end Go.Proofs.YtpghocekofdpbaaGreatDoor
namespace Go.Proofs.YtpghocekofdpbaaGreatDoor
open Go.RowKit Go.Shelf
attribute [local go_sem] Oper.semAt_some
theorem sub255b (b : UInt8) : (255 - b).toNat = 255 - b.toNat := by
 have h := b.toNat_lt
 rw [UInt8.toNat_sub_of_le _ _ (by rw [UInt8.le_iff_toNat_le]; show b.toNat <= 255; omega)]
 rfl
theorem sub255 (a : Nat) (h : a < 256) : (255 - UInt8.ofNat a).toNat = 255 - a := by
 rw [sub255b, UInt8.toNat_ofNat', Nat.mod_eq_of_lt (by omega)]
set_option maxRecDepth 100000 in
set_option maxHeartbeats 1600000 in
theorem rint_neg (w : World) (n : Nat) (hn : n < 9223372036854775808) :
  Calls Tryz.prog 43 #[.int .i64 (-1 - (n : Int))] w fun e w' => ∃ v, e = .returned v /\ BRow w' w.heap.size v (invL (intL n)) /\ Below w.heap.size w w' := by
 have q2 : (-1 - (n : Int)) < 0 := by omega
 have q3 : decide ((-1 - (n : Int)) < 0) = true := decide_eq_true q2
 have q5 : ¬ (0 : Int) <= (-1 - (n : Int)) := by omega
 have q4 : decide ((0 : Int) <= (-1 - (n : Int))) = false := decide_eq_false q5
 have q1 : wrap64 (-1 - (-1 - (n : Int))) = (n : Int) := by unfold wrap64; omega
 obtain ⟨z, hz⟩ : ∃ z, -1 - (n : Int) = z := ⟨_, rfl⟩
 rw [hz] at q1 q2 q3 q4 q5 ⊢
 have hnH := Lib.hid hn
 clear hz hn
 go_enter Tryz.func43, Tryz.ntmps43
 have HR0 : Hid (BRow w w.heap.size (.slice none 0 0) (lowL n 0)) := brow_nil w _
 have H0 : Hid (n / 2 ^ (8 * 0) = n) := by unfold Hid; simp
 go_wp2_with fail
 go_loopw [3, 4] (fun p q wr => ∃ t m : Nat, p = .int .i64 m /\ Hid (n / 2 ^ (8 * t) = m) /\ Hid (t <= kOf n) /\ Hid (BRow wr w.heap.size q (lowL n t)) /\ Hid (Below w.heap.size w wr)) (fun p _ _ => (intOf p).toNat)
 case atStart => exact ⟨0, n, rfl, H0, Nat.zero_le _, HR0, Below.refl _ _⟩
 case round =>
  clear HR0 H0
  obtain ⟨t, m, rfl, hm, ht, hR, hB⟩ := hrel
  by_cases h0 : 0 < m
  ·have d1 : decide (0 < m) = true := decide_eq_true h0
   have d2 : decide ((0 : Int) < (m : Int)) = true := decide_eq_true (by omega)
   obtain ⟨bx, hbx⟩ : ∃ bx, UInt8.ofNat m = bx := ⟨_, rfl⟩
   have hv : Value.int IntKind.u8 ((m : Int) % 256) = byteV bx := by
    unfold byteV
    rw [<- hbx]
    congr 1
   have hvH := Lib.hid hv
   have hsn : Hid (lowL n (t + 1) = lowL n t ++ [bx]) := by unfold Hid; rw [lowL_snoc, hm.out, hbx]
   have hk1 : Hid (t + 1 <= kOf n) := kOf_gt n t hnH.out (by rw [hm.out]; exact h0)
   have hk8 : Hid (kOf n <= 8) := kOf_le n
   have hln : Hid ((lowL n t).length < 99999999999) := by unfold Hid; rw [lowL_len]; have h1 := hk1.out; have h2 := hk8.out; omega
   have hnx : Hid (n / 2 ^ (8 * (t + 1)) = m / 256) := by unfold Hid; rw [<- div_next, hm.out]
   have hms : Hid (m / 256 < m) := Nat.div_lt_self h0 (by decide)
   have hmb : m < 9223372036854775808 := by rw [<- hm.out]; exact Nat.lt_of_le_of_lt (Nat.div_le_self _ _) hnH.out
   have hdv : Hid (wrap64 ((m : Int) / 256) = ((m / 256 : Nat) : Int)) := w64_is (m / 256) (by omega)
   clear hmb
   have hz := Lib.hid hB.out.size
   clear hv hbx
   go_wp2_with (at_builtin; refine wp_push rfl _ _ rfl w.heap.size _ (lowL n t) rfl hR.out 1 bx hvH.out rfl hln.out hz.out ?_; intro v' w' hP; rw [<- hsn.out] at hP)
   have hB2 := Lib.hid (hP.bel _ _ (Nat.le_refl _) hz.out hB.out)
   have hR2 := Lib.hid hP.row
   rw [hdv.out]
   exact ⟨⟨t + 1, m / 256, rfl, hnx, hk1, hR2, hB2⟩, hms.out⟩
  ·have d1 : decide (0 < m) = false := decide_eq_false h0
   have d2 : decide ((0 : Int) < (m : Int)) = false := decide_eq_false (by omega)
   have hk : t = kOf n := Nat.le_antisymm ht.out (kOf_end n t (by rw [hm.out]; omega))
   subst hk
   obtain ⟨wo, rfl⟩ : ∃ wo, wo = wr := ⟨_, rfl⟩
   have hk8 := kOf_le n
   have hL : Hid (invL (intL n) = (255 - UInt8.ofNat (128 + kOf n)) :: invL (digL n (kOf n))) := rfl
   have hlow : Hid (∀ i, i < kOf n -> (lowL n (kOf n))[i]? = some (UInt8.ofNat (n / 2 ^ (8 * i)))) := fun i => lowL_get n _ i
   have hll : Hid ((lowL n (kOf n)).length = kOf n) := lowL_len n _
   generalize lowL n (kOf n) = LL at *
   generalize kOf n = k at *
   obtain ⟨A, cc, eA⟩ := hR.out.any
   rw [hll.out] at eA
   clear hm ht
   subst eA
   have hkH := Lib.hid hk8
   have hN0 : Hid (BRow wo wo.heap.size (.slice none 0 0) []) := brow_nil wo _
   have hx : Value.int IntKind.u8 (127 - (k : Int)) = byteV (255 - UInt8.ofNat (128 + k)) := by
    unfold byteV
    rw [sub255 (128 + k) (by omega)]
    congr 1
    omega
   obtain ⟨x0, hx0⟩ : ∃ x0, 255 - UInt8.ofNat (128 + k) = x0 := ⟨_, rfl⟩
   rw [hx0] at hx hL
   have hxH := Lib.hid hx
   clear hx hx0
   have hl0 : Hid (([] : List UInt8).length < 99999999999) := by unfold Hid; decide
   go_wp2_with (at_builtin; refine wp_push rfl _ _ rfl wo.heap.size _ [] rfl hN0.out 1 x0 hxH.out rfl hl0.out (Nat.le_refl _) ?_; intro v1 w1 hP1)
   have hR1 := Lib.hid hP1.row
   have hB1 := Lib.hid (hP1.bel wo.heap.size wo (Nat.le_refl _) (Nat.le_refl _) (Below.refl _ _))
   have hR10 : Hid (BRow w1 wo.heap.size v1 (x0 :: (invL (digL n k)).take (k - k))) := by
    have h := hR1.out
    unfold Hid
    rw [Nat.sub_self, List.take_zero]
    exact h
   clear hP1 hR1
   go_loopw [6, 7] (fun p q wr => ∃ j : Nat, q = .int .i64 ((j : Int) - 1) /\ Hid (j <= k) /\ Hid (BRow wr wo.heap.size p (x0 :: (invL (digL n k)).take (k - j))) /\ Hid (Below wo.heap.size wo wr)) (fun _ q _ => (intOf q + 1).toNat)
   case atStart => exact ⟨k, rfl, Nat.le_refl _, hR10, hB1⟩
   case round =>
    clear hR10 hB1
    obtain ⟨j, rfl, hj, hO, hB2⟩ := hrel
    cases j with
    | zero =>
     have hRf : BRow wr w.heap.size u6 (invL (intL n)) := by
      have h := hO.out
      rw [Nat.sub_zero, List.take_of_length_le (by rw [digI_len]; exact Nat.le_refl _)] at h
      rw [hL.out]
      exact h.more hB.out.size
     have hBf : Below w.heap.size w wr := hB.out.trans (hB2.out.mono hB.out.size)
     go_wp2_with fail
     go_ret
     exact ⟨_, rfl, hRf, hBf⟩
    | succ i =>
     have hik : Hid (i < k) := hj.out
     have hsn := inv_snoc n k (k - (i + 1)) (by have := hik.out; omega)
     rw [show k - 1 - (k - (i + 1)) = i by (have := hik.out; omega), show k - (i + 1) + 1 = k - i by (have := hik.out; omega)] at hsn
     have hlo := hlow.out i hik.out
     obtain ⟨bx, hbx⟩ : ∃ bx, UInt8.ofNat (n / 2 ^ (8 * i)) = bx := ⟨_, rfl⟩
     rw [hbx] at hsn hlo
     obtain ⟨cx0, hcx0⟩ : ∃ cx, 255 - bx = cx := ⟨_, rfl⟩
     rw [hcx0] at hsn
     have hcv : Value.int IntKind.u8 ((255 - (bx.toNat : Int)) % 256) = byteV cx0 := by
      unfold byteV
      rw [<- hcx0, sub255b]
      congr 1
      have := bx.toNat_lt
      omega
     have hcvH := Lib.hid hcv
     clear hcx0 hcv
     have hsnH := Lib.hid hsn
     have hRd := hR.out.below hB2.out
     obtain ⟨g, c2, e2, _, hg⟩ := hRd.slice (by intro e; have h1 := hll.out; rw [e, List.length_nil] at h1; have h2 := hik.out; omega)
     rw [hll.out] at e2
     injection e2 with eA _ eC
     subst eA eC
     have cx : wr.cell? ⟨g, i, none⟩ = some (byteV bx) := hRd.cell i bx hlo
     unfold byteV at cx
     have hln : Hid ((x0 :: (invL (digL n k)).take (k - (i + 1))).length < 99999999999) := by
      unfold Hid
      rw [List.length_cons, List.length_take]
      have := hkH.out
      omega
     have t1 : i < k := hik.out
     have hsz := Lib.hid hB2.out.size
     clear hsn hbx hlo hRd
     go_wp2_with (at_builtin; refine wp_push rfl _ _ rfl wo.heap.size _ (x0 :: (invL (digL n k)).take (k - (i + 1))) rfl hO.out 1 cx0 hcvH.out rfl hln.out hsz.out ?_; intro v' w' hP; rw [List.cons_append, <- hsnH.out] at hP)
     have hj2 : Hid (i <= k) := Nat.le_of_lt hik.out
     refine ⟨⟨i, rfl, hj2, hP.row, hP.bel _ _ (Nat.le_refl _) hsz.out hB2.out⟩, ?_⟩
     simp [intOf]
end Go.Proofs.YtpghocekofdpbaaGreatDoor
