/-
  The hash's specification: a digest as a text, the key's padding, the code.
  The hash's specification: the key's padding.
  The hash's specification: the code of a text.
  The wire's specification in plain words: a number's digits, the lowest first.
  The wire's specification: the encoding of a number, its walk.
  The wire's specification: the encodings of a text and of a list of numbers.
-/
import Derived.Test.YtbhagfdkipgggaaDoorR02W3
import Derived.Test.YtbhagfdkipgggaaDoorMC
import Derived.Test.YtbhagfdkipgggaaDoorME
import Derived.Deep.Cut
import Derived.Test.YtbhagfdkipgggaaDoorMB
import Derived.Test.YtbhagfdkipgggaaDoorMD
namespace Go.Proofs.YtbhagfdkipgggaaDoor
open Go.RowKit Go.Shelf
attribute [local go_sem] Oper.semAt_some b_xor_fin
set_option maxRecDepth 100000 in
set_option maxHeartbeats 1600000 in
theorem rbytes32_any (w : World) (D : List UInt8) (hD : D.length = 32) :
    Calls Tryd.prog 69 #[.agg (D.map byteV).toArray] w fun e w' => e = .returned (.string (txt D)) ∧ Below w.heap.size w w' := by
  have hDl : Hid ((D.map byteV).length = 32) := by unfold Hid; rw [List.length_map, hD]
  have hDH := Lib.hid hD
  clear hD
  go_enter Tryd.func69, Tryd.ntmps69
  go_upto_region 1 with fail
  refine world_is (P := fun W => Code.wp _ _ _ _ W) (fun W1 hW1 => ?_)
  have HD1 : Hid (Blk W1 w.heap.size 102 (D.map byteV).toArray) := by unfold Hid; rw [← hW1]; exact Blk.new w _ _
  have HB1 : Hid (Below w.heap.size w W1) := by unfold Hid; rw [← hW1]; exact (Below.refl _ w).alloc (Nat.le_refl _) _
  have hbase : Hid (w.heap.size < W1.heap.size) := HD1.out.lt
  have HR1 : Hid (BRow W1 W1.heap.size (.slice none 0 0) (D.take 0)) := brow_nil W1 _
  clear hW1
  go_wp2_with fail
  go_loopw [3, 4] (fun v q wr => ∃ i : Nat, q = .int .i64 i ∧ Hid (i ≤ 32) ∧ Hid (BRow wr W1.heap.size v (D.take i)) ∧ Hid (Blk wr w.heap.size 102 (D.map byteV).toArray) ∧ Hid (Below w.heap.size w wr) ∧ Hid (W1.heap.size ≤ wr.heap.size)) (fun _ q _ => 32 - (intOf q).toNat)
  case atStart => exact ⟨0, rfl, Nat.zero_le _, HR1, HD1, HB1, Nat.le_refl _⟩
  case round =>
    rename_i v0 _ _
    clear HR1 HD1 HB1
    obtain ⟨i, rfl, hi, hR, hd, hB, hz⟩ := hrel
    by_cases hlt : i < 32
    · have d1 : decide (i < 32) = true := decide_eq_true hlt
      have d2 : decide ((i : Int) < 32) = true := decide_eq_true (by omega)
      have t2 : ¬ 32 ≤ (i : Int) := by omega
      obtain ⟨x, hx⟩ : ∃ x, D[i]? = some x := ⟨_, List.getElem?_eq_getElem (by rw [hDH.out]; exact hlt)⟩
      have cx : wr.cell? ⟨w.heap.size, i, none⟩ = some (byteV x) := by rw [hd.out.cell i, List.getElem?_toArray, List.getElem?_map, hx]; rfl
      have hsn : Hid (D.take (i + 1) = D.take i ++ [x]) := by unfold Hid; rw [List.take_add_one, hx]; rfl
      have hltH := Lib.hid hlt
      have hln : Hid ((D.take i).length < 99999999999) := by unfold Hid; rw [List.length_take]; omega
      clear hx hlt
      unfold byteV at cx
      go_wp2_with (at_builtin; refine wp_push rfl _ _ rfl W1.heap.size _ (D.take i) rfl hR.out 1 x rfl rfl hln.out hz.out ?_; intro v' w' hP; rw [← hsn.out] at hP)
      have hd2 := Lib.hid (hd.out.grown hP.grown (fun e => by have h1 := hbase.out; have h2 := (hR.out.lt _ e.symm).1; omega))
      have hB2 := Lib.hid (hP.bel _ _ (Nat.le_of_lt hbase.out) hz.out hB.out)
      have hz2 := Lib.hid (Nat.le_trans hz.out hP.grown.size)
      have hR2 := Lib.hid hP.row
      have hwi : wrap64 ((i : Int) + 1) = ((i + 1 : Nat) : Int) := w64_is (i + 1) (by have := hltH.out; omega)
      refine ⟨⟨i + 1, by first | (rw [hwi]; done) | go_num, hltH.out, hR2, hd2, hB2, hz2⟩, ?_⟩
      have hm : 32 - (i + 1) < 32 - i := by have := hltH.out; omega
      try rw [hwi]
      exact hm
    · have d1 : decide (i < 32) = false := decide_eq_false hlt
      have d2 : decide ((i : Int) < 32) = false := decide_eq_false (by omega)
      have hR2 : Hid (BRow wr W1.heap.size u3 D) := by
        have h := hR.out
        rw [List.take_of_length_le (by rw [hDH.out]; omega)] at h
        exact h
      have hcv := conv_row hR2.out
      clear hR hlt
      go_wp2_with fail
      go_ret
      exact ⟨rfl, hB.out⟩
end Go.Proofs.YtbhagfdkipgggaaDoor
namespace Go.Proofs.YtbhagfdkipgggaaDoor
open Go.RowKit Go.Shelf
attribute [local go_sem] Oper.semAt_some b_xor_fin
theorem padK_step (K : List UInt8) (c : UInt8) (hK : K.length ≤ 64) (i : Nat) (hi : i < 64) :
    (∃ x, K[i]? = some x ∧ i < K.length ∧ (padK K c).take (i + 1) = (padK K c).take i ++ [bxor x c]) ∨ (K.length ≤ i ∧ (padK K c).take (i + 1) = (padK K c).take i ++ [bxor 0 c]) := by
  by_cases h : i < K.length
  · refine .inl ⟨K[i], List.getElem?_eq_getElem h, h, ?_⟩
    rw [List.take_add_one]
    unfold padK key64
    rw [List.getElem?_map, List.getElem?_append_left h, List.getElem?_eq_getElem h]
    rfl
  · refine .inr ⟨by omega, ?_⟩
    rw [List.take_add_one]
    unfold padK key64
    rw [List.getElem?_map, List.getElem?_append_right (by omega), List.getElem?_replicate, if_pos (by omega)]
    rfl
set_option maxRecDepth 100000 in
set_option maxHeartbeats 1600000 in
theorem rpadKey_any (w : World) (key : ByteArray) (c : UInt8) (hk : key.size < 1000000000) (hK : KAt w 0) :
    Calls Tryd.prog 68 #[.string key, .int .u8 (c.toNat : Int)] w fun e w' => ∃ v', e = .returned v' ∧ BRow w' w.heap.size v' (padK (keyOf (bl key)) c) ∧ Below w.heap.size w w' := by
  have HK := Lib.hid hK
  clear hK
  have hbase := Lib.hid (Nat.le_refl w.heap.size)
  go_enter Tryd.func68, Tryd.ntmps68
  go_upto_if 12 with fail
  go_cut [5] from 9 (fun v wx => ∃ kk : ByteArray, v = .string kk ∧ Hid (bl kk = keyOf (bl key)) ∧ Hid (Below w.heap.size w wx))
  case first =>
    by_cases h64 : key.size ≤ 64
    · have d1 : decide ((64 : Int) < (key.size : Int)) = false := decide_eq_false (by omega)
      have t1 : (key.size : Int) ≤ 64 := by omega
      have hkk : Hid (bl key = keyOf (bl key)) := by unfold Hid keyOf; rw [if_pos (by rw [bl_len]; exact h64)]
      clear hk h64
      go_wp2_with fail
      go_meet
      exact ⟨key, rfl, hkk, Below.refl _ w⟩
    · have d1 : decide ((64 : Int) < (key.size : Int)) = true := decide_eq_true (by omega)
      have t1 : ¬ (key.size : Int) ≤ 64 := by omega
      obtain ⟨cc, w1, hcv, hba, hbel, hsz⟩ := conv_text w key
      have hlb : (bl key).length = key.size := bl_len key
      have hkk : Hid (bl (txt (sumL (bl key))) = keyOf (bl key)) := by unfold Hid keyOf; rw [if_neg (by rw [bl_len]; exact h64), bl_txt]
      have HSUM := Lib.hid (rsum_any w1 w.heap.size 0 cc key.size (bl key) hlb hba (by omega) (HK.out.below hbel))
      have hl32 : Hid ((sumL (bl key)).length = 32) := sumL_len _
      have hbelH := Lib.hid hbel
      generalize sumL (bl key) = D at *
      clear hba hbel hsz hlb h64 hk
      go_wp2_with (first
        | (go_at_call 69; refine (rbytes32_any _ D hl32.out).mono ?_; rintro e w3 ⟨rfl, hB⟩; have HB3 := Lib.hid (HB2.out.trans (hB.mono HB2.out.size)); clear hB)
        | (go_at_call 70; refine HSUM.out.mono ?_; rintro e w2 ⟨rfl, hB⟩; have HB2 := Lib.hid (hbelH.out.trans (hB.mono hbelH.out.size)); clear hB)
        | fail)
      go_meet
      exact ⟨txt D, rfl, hkk, HB3.out⟩
  case rest =>
  obtain ⟨kk, rfl, hkk, hB0⟩ := hcut
  have hkl : (keyOf (bl key)).length ≤ 64 := keyOf_len _
  have hks : kk.size = (keyOf (bl key)).length := by rw [← hkk.out, bl_len]
  obtain ⟨K, hK0⟩ : ∃ K, keyOf (bl key) = K := ⟨_, rfl⟩
  rw [hK0] at hkk hkl hks
  have hst := Lib.hid (padK_step K c hkl)
  have hpl := Lib.hid (padK_len K c hkl)
  have hksH := Lib.hid hks
  have HR1 : Hid (BRow wc w.heap.size (.slice none 0 0) ((padK K c).take 0)) := brow_nil wc _
  have hz0 := Lib.hid hB0.out.size
  clear hkl hks HK
  have hK0H := Lib.hid hK0
  clear hK0
  obtain ⟨L, hL0⟩ : ∃ L, padK K c = L := ⟨_, rfl⟩
  rw [hL0] at HR1 hst hpl
  have hL0H := Lib.hid hL0
  clear hL0
  go_wp2_with fail
  go_loopw [6, 7] (fun v q wr => ∃ i : Nat, q = .int .i64 i ∧ Hid (i ≤ 64) ∧ Hid (BRow wr w.heap.size v (L.take i)) ∧ Hid (Below w.heap.size w wr)) (fun _ q _ => 64 - (intOf q).toNat)
  case atStart => exact ⟨0, rfl, Nat.zero_le _, HR1, hB0⟩
  case round =>
    clear HR1 hB0 hz0
    obtain ⟨i, rfl, hi, hR, hB⟩ := hrel
    by_cases hlt : i < 64
    · have d1 : decide (i < 64) = true := decide_eq_true hlt
      have d2 : decide ((i : Int) < 64) = true := decide_eq_true (by omega)
      have hltH := Lib.hid hlt
      have hln : Hid ((L.take i).length < 99999999999) := by unfold Hid; rw [List.length_take]; omega
      have hwi : wrap64 ((i : Int) + 1) = ((i + 1 : Nat) : Int) := w64_is (i + 1) (by omega)
      have hm : Hid (64 - (i + 1) < 64 - i) := by unfold Hid; omega
      rcases hst.out i hlt with ⟨x, hx, hxl, hsn⟩ | ⟨hge, hsn⟩
      · have t3 : decide (i < kk.size) = true := decide_eq_true (by rw [hksH.out]; omega)
        have d3 : decide ((i : Int) < (kk.size : Int)) = true := decide_eq_true (by rw [hksH.out]; omega)
        have hix := fun wx => text_index wx kk i x (by rw [hkk.out]; exact hx)
        have hxf := b_xor_fin x c
        have hsnH := Lib.hid hsn
        clear hx hxl hsn hlt
        go_wp2_with (at_builtin; refine wp_push rfl _ _ rfl w.heap.size _ (L.take i) rfl hR.out 1 (bxor x c) rfl rfl hln.out hB.out.size ?_; intro v' w' hP; rw [← hsnH.out] at hP)
        have hB2 := Lib.hid (hP.bel _ _ (Nat.le_refl _) hB.out.size hB.out)
        have hR2 := Lib.hid hP.row
        refine ⟨⟨i + 1, by first | (rw [hwi]; done) | go_num, hltH.out, hR2, hB2⟩, ?_⟩
        try rw [hwi]
        exact hm.out
      · have t3 : decide (i < kk.size) = false := decide_eq_false (by rw [hksH.out]; omega)
        have d3 : decide ((i : Int) < (kk.size : Int)) = false := decide_eq_false (by rw [hksH.out]; omega)
        have hxf : bits .xor .u8 0 (c.toNat : Int) = ((bxor 0 c).toNat : Int) := b_xor_fin 0 c
        have hsnH := Lib.hid hsn
        clear hge hsn hlt
        go_wp2_with (at_builtin; refine wp_push rfl _ _ rfl w.heap.size _ (L.take i) rfl hR.out 1 (bxor 0 c) rfl rfl hln.out hB.out.size ?_; intro v' w' hP; rw [← hsnH.out] at hP)
        have hB2 := Lib.hid (hP.bel _ _ (Nat.le_refl _) hB.out.size hB.out)
        have hR2 := Lib.hid hP.row
        refine ⟨⟨i + 1, by first | (rw [hwi]; done) | go_num, hltH.out, hR2, hB2⟩, ?_⟩
        try rw [hwi]
        exact hm.out
    · have d1 : decide (i < 64) = false := decide_eq_false hlt
      have d2 : decide ((i : Int) < 64) = false := decide_eq_false (by omega)
      have hR2 : Hid (BRow wr w.heap.size u6 L) := by
        have h := hR.out
        rw [List.take_of_length_le (by rw [hpl.out]; omega)] at h
        exact h
      clear hR hlt
      go_wp2_with fail
      go_ret
      exact ⟨_, rfl, by rw [hK0H.out, hL0H.out]; exact hR2.out, hB.out⟩
end Go.Proofs.YtbhagfdkipgggaaDoor
namespace Go.Proofs.YtbhagfdkipgggaaDoor
open Go.RowKit Go.Shelf
attribute [local go_sem] Oper.semAt_some
theorem brow_len {w : World} {base : Nat} {v : Value} {l : List UInt8} {N : Nat} (h : BRow w base v l) (hN : l.length = N) (h0 : 0 < N) : ∃ g c, v = .slice (some ⟨g, 0, none⟩) N c ∧ base ≤ g ∧ g < w.heap.size := by
  obtain ⟨g, c, e, h1, h2⟩ := h.slice (by intro e; rw [e, List.length_nil] at hN; omega)
  exact ⟨g, c, by rw [e, hN], h1, h2⟩
set_option maxRecDepth 100000 in
set_option maxHeartbeats 1600000 in
theorem rmac_any (w : World) (key text : ByteArray) (hk : key.size < 1000000000) (ht : text.size < 1000000000) (hK : KAt w 0) :
    Calls Tryd.prog 46 #[.string key, .string text] w fun e w' => e = .returned (.string (txt (macL (bl key) (bl text)))) ∧ Below w.heap.size w w' := by
  have HK := Lib.hid hK
  have HP1 := Lib.hid (rpadKey_any w key 54 hk hK)
  have HP2 : Hid (∀ wx, Below w.heap.size w wx → Calls Tryd.prog 68 #[.string key, .int .u8 92] wx fun e w' => ∃ v', e = .returned v' ∧ BRow w' wx.heap.size v' (padK (keyOf (bl key)) 92) ∧ Below wx.heap.size wx w') := fun wx hB => rpadKey_any wx key 92 hk (hK.below hB)
  have l1 := padK_len (keyOf (bl key)) 54 (keyOf_len _)
  have l2 := padK_len (keyOf (bl key)) 92 (keyOf_len _)
  have hfin : Hid (macL (bl key) (bl text) = sumL (padK (keyOf (bl key)) 92 ++ sumL (padK (keyOf (bl key)) 54 ++ bl text))) := rfl
  have htl : (bl text).length = text.size := bl_len text
  generalize padK (keyOf (bl key)) 54 = PA at *
  generalize padK (keyOf (bl key)) 92 = PB at *
  obtain ⟨N, hN⟩ : ∃ N, 64 + text.size = N := ⟨_, rfl⟩
  have hI : Hid ((PA ++ bl text).length = N) := by unfold Hid; rw [List.length_append, l1, htl, hN]
  have hcat1 : Hid (PA.length + text.size < 100000000000) := by unfold Hid; omega
  have hN0 : Hid (0 < N ∧ N < 10000000000) := ⟨by omega, by omega⟩
  obtain ⟨D1, hD1⟩ : ∃ D, sumL (PA ++ bl text) = D := ⟨_, rfl⟩
  have hD1l : Hid (D1.length = 32) := by unfold Hid; rw [← hD1]; exact sumL_len _
  rw [hD1] at hfin
  have hD1H := Lib.hid hD1
  have hd1s : (txt D1).size = 32 := by rw [txt_size, hD1l.out]
  have hbd1 : Hid (bl (txt D1) = D1) := bl_txt D1
  have hO : Hid ((PB ++ D1).length = 96) := by unfold Hid; rw [List.length_append, l2, hD1l.out]
  have hcat2 : Hid (PB.length + (txt D1).size < 100000000000) := by unfold Hid; omega
  clear hk ht hK htl l1 l2 hN hD1 hd1s
  go_enter Tryd.func46, Tryd.ntmps46
  go_upto_region 3 with (first
    | (at_builtin; refine wp_cat_text rfl _ _ rfl w.heap.size v1 PA rfl hR1.out text rfl hcat1.out hB1.out.size ?_; intro v2 w2 hP2)
    | (go_at_call 68; refine HP1.out.mono ?_; rintro e w1 ⟨v1, rfl, hR, hB⟩; have hR1 := Lib.hid hR; have hB1 := Lib.hid hB; clear hR hB)
    | fail)
  try simp only [sA]
  have hB2 := Lib.hid (hP2.bel _ _ (Nat.le_refl _) hB1.out.size hB1.out)
  have hR2 := Lib.hid hP2.row
  obtain ⟨g2, c2, e2, _, hg2⟩ := brow_len hR2.out hI.out hN0.out.1
  subst e2
  clear hP2 hR1 hB1
  go_upto_region 4 with (first
    | (go_at_call 68; refine (HP2.out _ hB2.out).mono ?_; rintro e w3 ⟨v3, rfl, hR, hB⟩; have hR3 := Lib.hid hR; have hB3 := Lib.hid (hB2.out.trans (hB.mono hB2.out.size)); have hI3 := Lib.hid (hR2.out.below hB); have hz3 := Lib.hid hB.size; clear hR hB)
    | fail)
  have HS1 := Lib.hid (rsum_any w3 g2 0 c2 N (PA ++ bl text) hI.out hI3.out.bytesAt hN0.out.2 (HK.out.below hB3.out))
  rw [hD1H.out] at HS1
  go_upto_region 5 with (first
    | (at_builtin; refine wp_cat_text rfl _ _ rfl w2.heap.size v3 PB rfl hR5.out (txt D1) rfl hcat2.out hz5.out ?_; intro v6 w6 hP6)
    | (go_at_call 69; refine (rbytes32_any _ D1 hD1l.out).mono ?_; rintro e w5 ⟨rfl, hB⟩; have hR5 := Lib.hid (hR4.out.below hB); have hB5 := Lib.hid (hB4.out.trans (hB.mono hB4.out.size)); have hz5 := Lib.hid (Nat.le_trans hz4.out hB.size); clear hB)
    | (go_at_call 70; refine HS1.out.mono ?_; rintro e w4 ⟨rfl, hB⟩; have hR4 := Lib.hid (hR3.out.below hB); have hB4 := Lib.hid (hB3.out.trans (hB.mono hB3.out.size)); have hz4 := Lib.hid (Nat.le_trans hz3.out hB.size); clear hB)
    | fail)
  try simp only [sA]
  have hB6 := Lib.hid (hP6.bel _ _ hB2.out.size hz5.out hB5.out)
  have hR6 := hP6.row
  rw [hbd1.out] at hR6
  obtain ⟨g6, c6, e6, _, hg6⟩ := brow_len hR6 hO.out (by decide)
  subst e6
  have HS2 := Lib.hid (rsum_any w6 g6 0 c6 96 (PB ++ D1) hO.out hR6.bytesAt (by decide) (HK.out.below hB6.out))
  have hD2l : Hid ((sumL (PB ++ D1)).length = 32) := sumL_len _
  generalize sumL (PB ++ D1) = D2 at *
  clear hP6 hR6 hR5 hB5
  go_wp2_with (first
    | (go_at_call 69; refine (rbytes32_any _ D2 hD2l.out).mono ?_; rintro e w8 ⟨rfl, hB⟩; have hB8 := Lib.hid (hB7.out.trans (hB.mono hB7.out.size)); clear hB)
    | (go_at_call 70; refine HS2.out.mono ?_; rintro e w7 ⟨rfl, hB⟩; have hB7 := Lib.hid (hB6.out.trans (hB.mono hB6.out.size)); clear hB)
    | fail)
  go_ret
  exact ⟨by rw [hfin.out]; rfl, hB8.out⟩
end Go.Proofs.YtbhagfdkipgggaaDoor
namespace Go.Proofs.YtbhagfdkipgggaaDoor
theorem kFrom_gt (n t : Nat) (h : 0 < n / 2 ^ (8 * t)) : ∀ j, t < j → t < kFrom n j
  | 0, hj => absurd hj (Nat.not_lt_zero _)
  | j + 1, hj => by
    unfold kFrom
    split
    · exact hj
    · rename_i hn
      rcases Nat.lt_or_eq_of_le (Nat.le_of_lt_succ hj) with h1 | h1
      · exact kFrom_gt n t h j h1
      · rw [h1] at h
        exact absurd h hn
theorem kFrom_end (n t : Nat) (h : n / 2 ^ (8 * t) = 0) : ∀ j, kFrom n j ≤ t
  | 0 => Nat.zero_le _
  | j + 1 => by
    unfold kFrom
    split
    · rename_i hn
      rcases Nat.lt_or_ge j t with h1 | h1
      · exact h1
      · have h2 : n / 2 ^ (8 * j) ≤ n / 2 ^ (8 * t) := Nat.div_le_div_left (Nat.pow_le_pow_right (by decide) (Nat.mul_le_mul_left 8 h1)) (Nat.two_pow_pos _)
        omega
    · exact kFrom_end n t h j
theorem kOf_gt (n t : Nat) (hn : n < 9223372036854775808) (h : 0 < n / 2 ^ (8 * t)) : t < kOf n := by
  refine kFrom_gt n t h 8 ?_
  rcases Nat.lt_or_ge t 8 with h1 | h1
  · exact h1
  · have h2 : n / 2 ^ (8 * t) ≤ n / 2 ^ (8 * 8) := Nat.div_le_div_left (Nat.pow_le_pow_right (by decide) (Nat.mul_le_mul_left 8 h1)) (Nat.two_pow_pos _)
    have h3 : n / 2 ^ (8 * 8) = 0 := Nat.div_eq_of_lt (by omega)
    omega
theorem kOf_end (n t : Nat) (h : n / 2 ^ (8 * t) = 0) : kOf n ≤ t := kFrom_end n t h 8
/-- The digits of a number, the lowest first. -/
def lowL (n t : Nat) : List UInt8 := (List.range t).map fun i => UInt8.ofNat (n / 2 ^ (8 * i))
theorem lowL_len (n t : Nat) : (lowL n t).length = t := by unfold lowL; rw [List.length_map, List.length_range]
theorem lowL_snoc (n t : Nat) : lowL n (t + 1) = lowL n t ++ [UInt8.ofNat (n / 2 ^ (8 * t))] := by
  unfold lowL
  rw [List.range_succ, List.map_append]
  rfl
theorem lowL_get (n k i : Nat) (h : i < k) : (lowL n k)[i]? = some (UInt8.ofNat (n / 2 ^ (8 * i))) := by
  unfold lowL
  rw [List.getElem?_map, List.getElem?_range h]
  rfl
theorem div_next (n t : Nat) : n / 2 ^ (8 * t) / 256 = n / 2 ^ (8 * (t + 1)) := by
  rw [Nat.div_div_eq_div_mul]
  congr 1
  rw [show 8 * (t + 1) = 8 * t + 8 by omega, Nat.pow_add]
end Go.Proofs.YtbhagfdkipgggaaDoor
namespace Go.Proofs.YtbhagfdkipgggaaDoor
open Go.RowKit Go.Shelf
attribute [local go_sem] Oper.semAt_some
set_option maxRecDepth 100000 in
set_option maxHeartbeats 1600000 in
theorem rint_any (w : World) (n : Nat) (hn : n < 9223372036854775808) :
    Calls Tryd.prog 84 #[.int .i64 n] w fun e w' => ∃ v, e = .returned v ∧ BRow w' w.heap.size v (intL n) ∧ Below w.heap.size w w' := by
  have q2 : ¬ (n : Int) < 0 := by omega
  have q3 : decide ((n : Int) < 0) = false := decide_eq_false q2
  have q4 : decide ((n : Int) ≥ 0) = true := decide_eq_true (by omega)
  have hnH := Lib.hid hn
  clear hn
  go_enter Tryd.func84, Tryd.ntmps84
  have HR0 : Hid (BRow w w.heap.size (.slice none 0 0) (lowL n 0)) := brow_nil w _
  have H0 : Hid (n / 2 ^ (8 * 0) = n) := by unfold Hid; simp
  go_wp2_with fail
  go_loopw [3, 4] (fun p q wr => ∃ t m : Nat, p = .int .i64 m ∧ Hid (n / 2 ^ (8 * t) = m) ∧ Hid (t ≤ kOf n) ∧ Hid (BRow wr w.heap.size q (lowL n t)) ∧ Hid (Below w.heap.size w wr)) (fun p _ _ => (intOf p).toNat)
  case atStart => exact ⟨0, n, rfl, H0, Nat.zero_le _, HR0, Below.refl _ _⟩
  case round =>
    clear HR0 H0
    obtain ⟨t, m, rfl, hm, ht, hR, hB⟩ := hrel
    by_cases h0 : 0 < m
    · have d1 : decide (0 < m) = true := decide_eq_true h0
      have d2 : decide ((0 : Int) < (m : Int)) = true := decide_eq_true (by omega)
      obtain ⟨bx, hbx⟩ : ∃ bx, UInt8.ofNat m = bx := ⟨_, rfl⟩
      have hv : Value.int IntKind.u8 ((m : Int) % 256) = byteV bx := by
        unfold byteV
        rw [← hbx]
        congr 1
      have hvH := Lib.hid hv
      have hsn : Hid (lowL n (t + 1) = lowL n t ++ [bx]) := by unfold Hid; rw [lowL_snoc, hm.out, hbx]
      have hk1 : Hid (t + 1 ≤ kOf n) := kOf_gt n t hnH.out (by rw [hm.out]; exact h0)
      have hk8 : Hid (kOf n ≤ 8) := kOf_le n
      have hln : Hid ((lowL n t).length < 99999999999) := by unfold Hid; rw [lowL_len]; have h1 := hk1.out; have h2 := hk8.out; omega
      have hnx : Hid (n / 2 ^ (8 * (t + 1)) = m / 256) := by unfold Hid; rw [← div_next, hm.out]
      have hms : Hid (m / 256 < m) := Nat.div_lt_self h0 (by decide)
      have hmb : m < 9223372036854775808 := by rw [← hm.out]; exact Nat.lt_of_le_of_lt (Nat.div_le_self _ _) hnH.out
      have hdv : Hid (wrap64 ((m : Int) / 256) = ((m / 256 : Nat) : Int)) := w64_is (m / 256) (by omega)
      clear hmb
      have hz := Lib.hid hB.out.size
      clear hv hbx
      go_wp2_with (at_builtin; refine wp_push rfl _ _ rfl w.heap.size _ (lowL n t) rfl hR.out 1 bx hvH.out rfl hln.out hz.out ?_; intro v' w' hP; rw [← hsn.out] at hP)
      have hB2 := Lib.hid (hP.bel _ _ (Nat.le_refl _) hz.out hB.out)
      have hR2 := Lib.hid hP.row
      rw [hdv.out]
      exact ⟨⟨t + 1, m / 256, rfl, hnx, hk1, hR2, hB2⟩, hms.out⟩
    · have d1 : decide (0 < m) = false := decide_eq_false h0
      have d2 : decide ((0 : Int) < (m : Int)) = false := decide_eq_false (by omega)
      have hk : t = kOf n := Nat.le_antisymm ht.out (kOf_end n t (by rw [hm.out]; omega))
      subst hk
      obtain ⟨wo, rfl⟩ : ∃ wo, wo = wr := ⟨_, rfl⟩
      have hk8 := kOf_le n
      have hL : Hid (intL n = UInt8.ofNat (128 + kOf n) :: digL n (kOf n)) := rfl
      have hlow : Hid (∀ i, i < kOf n → (lowL n (kOf n))[i]? = some (UInt8.ofNat (n / 2 ^ (8 * i)))) := fun i => lowL_get n _ i
      have hll : Hid ((lowL n (kOf n)).length = kOf n) := lowL_len n _
      generalize lowL n (kOf n) = LL at *
      generalize kOf n = k at *
      obtain ⟨A, cc, eA⟩ := hR.out.any
      rw [hll.out] at eA
      clear hm ht
      subst eA
      have hkH := Lib.hid hk8
      have hN0 : Hid (BRow wo wo.heap.size (.slice none 0 0) []) := brow_nil wo _
      have hx : Value.int IntKind.u8 (128 + (k : Int)) = byteV (UInt8.ofNat (128 + k)) := by
        unfold byteV
        rw [UInt8.toNat_ofNat', Nat.mod_eq_of_lt (by omega)]
        rfl
      obtain ⟨x0, hx0⟩ : ∃ x0, UInt8.ofNat (128 + k) = x0 := ⟨_, rfl⟩
      rw [hx0] at hx hL
      have hxH := Lib.hid hx
      clear hx hx0
      have hl0 : Hid (([] : List UInt8).length < 99999999999) := by unfold Hid; decide
      go_wp2_with (at_builtin; refine wp_push rfl _ _ rfl wo.heap.size _ [] rfl hN0.out 1 x0 hxH.out rfl hl0.out (Nat.le_refl _) ?_; intro v1 w1 hP1)
      have hR1 := Lib.hid hP1.row
      have hB1 := Lib.hid (hP1.bel wo.heap.size wo (Nat.le_refl _) (Nat.le_refl _) (Below.refl _ _))
      have hR10 : Hid (BRow w1 wo.heap.size v1 (x0 :: (digL n k).take (k - k))) := by
        have h := hR1.out
        unfold Hid
        rw [Nat.sub_self, List.take_zero]
        exact h
      clear hP1 hR1
      go_loopw [6, 7] (fun p q wr => ∃ j : Nat, q = .int .i64 ((j : Int) - 1) ∧ Hid (j ≤ k) ∧ Hid (BRow wr wo.heap.size p (x0 :: (digL n k).take (k - j))) ∧ Hid (Below wo.heap.size wo wr)) (fun _ q _ => (intOf q + 1).toNat)
      case atStart => exact ⟨k, rfl, Nat.le_refl _, hR10, hB1⟩
      case round =>
        clear hR10 hB1
        obtain ⟨j, rfl, hj, hO, hB2⟩ := hrel
        cases j with
        | zero =>
          have hRf : BRow wr w.heap.size u6 (intL n) := by
            have h := hO.out
            rw [Nat.sub_zero, List.take_of_length_le (by rw [digL_len]; exact Nat.le_refl _)] at h
            rw [hL.out]
            exact h.more hB.out.size
          have hBf : Below w.heap.size w wr := hB.out.trans (hB2.out.mono hB.out.size)
          go_wp2_with fail
          go_ret
          exact ⟨_, rfl, hRf, hBf⟩
        | succ i =>
          have hik : Hid (i < k) := hj.out
          have hsn := digL_snoc n k (k - (i + 1)) (by have := hik.out; omega)
          rw [show k - 1 - (k - (i + 1)) = i by (have := hik.out; omega), show k - (i + 1) + 1 = k - i by (have := hik.out; omega)] at hsn
          have hlo := hlow.out i hik.out
          obtain ⟨bx, hbx⟩ : ∃ bx, UInt8.ofNat (n / 2 ^ (8 * i)) = bx := ⟨_, rfl⟩
          rw [hbx] at hsn hlo
          have hsnH := Lib.hid hsn
          have hRd := hR.out.below hB2.out
          obtain ⟨g, c2, e2, _, hg⟩ := hRd.slice (by intro e; have h1 := hll.out; rw [e, List.length_nil] at h1; have h2 := hik.out; omega)
          rw [hll.out] at e2
          injection e2 with eA _ eC
          subst eA eC
          have cx : wr.cell? ⟨g, i, none⟩ = some (byteV bx) := hRd.cell i bx hlo
          unfold byteV at cx
          have hln : Hid ((x0 :: (digL n k).take (k - (i + 1))).length < 99999999999) := by
            unfold Hid
            rw [List.length_cons, List.length_take]
            have := hkH.out
            omega
          have t1 : i < k := hik.out
          have hsz := Lib.hid hB2.out.size
          clear hsn hbx hlo hRd
          go_wp2_with (at_builtin; refine wp_push rfl _ _ rfl wo.heap.size _ (x0 :: (digL n k).take (k - (i + 1))) rfl hO.out 1 bx rfl rfl hln.out hsz.out ?_; intro v' w' hP; rw [List.cons_append, ← hsnH.out] at hP)
          have hj2 : Hid (i ≤ k) := Nat.le_of_lt hik.out
          refine ⟨⟨i, rfl, hj2, hP.row, hP.bel _ _ (Nat.le_refl _) hsz.out hB2.out⟩, ?_⟩
          simp [intOf]
end Go.Proofs.YtbhagfdkipgggaaDoor
namespace Go.Proofs.YtbhagfdkipgggaaDoor
open Go.RowKit Go.Shelf
attribute [local go_sem] Oper.semAt_some
theorem rbytes_any (w : World) (x : ByteArray) (hx : x.size < 10000000000) :
    Calls Tryd.prog 66 #[.string x] w fun e w' => ∃ v, e = .returned v ∧ BRow w' w.heap.size v (bytesL (bl x)) ∧ Below w.heap.size w w' := by
  have HI := Lib.hid (rint_any w x.size (by omega))
  have hxl : Hid ((bl x).length = x.size) := bl_len x
  go_enter Tryd.func66, Tryd.ntmps66
  have hlen : Hid ((intL x.size).length + x.size < 100000000000) := by unfold Hid; have := intL_le x.size; omega
  have hcv := fun w1 => conv_text w1 x
  have hcvH := Lib.hid hcv
  clear hcv
  go_wp2_with (first
    | (go_at_call 84; refine HI.out.mono ?_; rintro e w1 ⟨v, rfl, hR, hB⟩; obtain ⟨cc, w2, hcv, hba, hbel, _⟩ := hcvH.out w1; rw [← hxl.out] at hcv hlen; have hR1 := Lib.hid (hR.below hbel); have hB1 := Lib.hid (hB.trans (hbel.mono hB.size)); have hbaH := Lib.hid hba; clear hR hB hba hbel)
    | (at_builtin; refine wp_cat rfl _ _ rfl w.heap.size v (intL x.size) rfl hR1.out _ 0 cc (bl x) rfl hbaH.out hlen.out hB1.out.size ?_; intro v' w' hP; have hPH := Lib.hid hP; clear hP)
    | fail)
  go_ret
  refine ⟨_, rfl, ?_, hPH.out.bel _ _ (Nat.le_refl _) hB1.out.size hB1.out⟩
  unfold bytesL
  rw [bl_len]
  exact hPH.out.row
set_option maxRecDepth 100000 in
set_option maxHeartbeats 1600000 in
theorem rints_any (w : World) (g o c n : Nat) (l : List Nat) (hn : l.length = n) (hl : n < 1000) (hx : ∀ x ∈ l, x < 9223372036854775808) (hA : NatsAt w g o l) :
    Calls Tryd.prog 65 #[.slice (some ⟨g, o, none⟩) n c] w fun e w' => ∃ v, e = .returned v ∧ BRow w' w.heap.size v (intsL l) ∧ Below w.heap.size w w' := by
  have HI := Lib.hid (rint_any w n (by omega))
  have HX := Lib.hid hx
  have HA := Lib.hid hA
  clear hx hA
  go_enter Tryd.func65, Tryd.ntmps65
  go_wp2_with (first | (go_at_call 84; refine HI.out.mono ?_; rintro e w1 ⟨v, rfl, hR, hB⟩; have hR1 := Lib.hid hR; have hB1 := Lib.hid hB; clear hR hB) | fail)
  have hR0 : Hid (BRow w1 w.heap.size v (intL n ++ (l.take 0).flatMap intL)) := by
    unfold Hid
    rw [List.take_zero, List.flatMap_nil, List.append_nil]
    exact hR1.out
  go_loopw [3, 4] (fun p q wr => ∃ t : Nat, q = .int .i64 t ∧ Hid (t ≤ n) ∧ Hid (BRow wr w.heap.size p (intL n ++ (l.take t).flatMap intL)) ∧ Hid (Below w.heap.size w wr)) (fun _ q _ => n - (intOf q).toNat)
  case atStart => exact ⟨0, rfl, Nat.zero_le _, hR0, hB1⟩
  case round =>
    clear hR0 hB1 hR1
    obtain ⟨t, rfl, ht, hR, hB⟩ := hrel
    by_cases hlt : t < n
    · have d1 : decide (t < n) = true := decide_eq_true hlt
      have d2 : decide ((t : Int) < (n : Int)) = true := decide_eq_true (by omega)
      obtain ⟨x, hx⟩ : ∃ x, l[t]? = some x := ⟨_, List.getElem?_eq_getElem (by omega)⟩
      have cx : wr.cell? ⟨g, o + t, none⟩ = some (.int .i64 (x : Int)) := (hB.out.cell (p := ⟨g, o + t, none⟩) HA.out.1).trans (HA.out.2 t x hx)
      have HI2 := Lib.hid (rint_any wr x (HX.out x (List.mem_of_getElem? hx)))
      have hsn := Lib.hid (flat_snoc l t x hx)
      have hlen : Hid ((intL n ++ (l.take t).flatMap intL).length + (intL x).length < 100000000000) := by
        unfold Hid
        have h1 := flat_len (l.take t)
        have h2 := intL_le n
        have h3 := intL_le x
        rw [List.length_append]
        rw [List.length_take] at h1
        omega
      have hltH := Lib.hid hlt
      clear hx
      go_wp2_with (first
        | (go_at_call 84; refine HI2.out.mono ?_; rintro e w2 ⟨v2, rfl, hR2, hB2⟩; obtain ⟨g2, c2, rfl, hg2, hg2l⟩ := hR2.slice (intL_ne x); have hRR := Lib.hid (hR.out.below hB2); have hR2b := Lib.hid hR2.bytesAt; have hBB := Lib.hid (hB.out.trans (hB2.mono hB.out.size)); clear hR2 hB2 hg2 hg2l)
        | (at_builtin; refine wp_cat rfl _ _ rfl w.heap.size _ (intL n ++ (l.take t).flatMap intL) rfl hRR.out g2 0 c2 (intL x) rfl hR2b.out hlen.out hBB.out.size ?_; intro v' w' hP; rw [List.append_assoc, ← hsn.out] at hP; have hPH := Lib.hid hP; clear hP)
        | fail)
      refine ⟨⟨t + 1, by go_num, hltH.out, hPH.out.row, hPH.out.bel _ _ (Nat.le_refl _) hBB.out.size hBB.out⟩, ?_⟩
      have := hltH.out
      simp [intOf]
      omega
    · have d1 : decide (t < n) = false := decide_eq_false hlt
      have d2 : decide ((t : Int) < (n : Int)) = false := decide_eq_false (by omega)
      have et : Hid (t = n) := Nat.le_antisymm ht (Nat.le_of_not_lt hlt)
      go_wp2_with fail
      go_ret
      refine ⟨_, rfl, ?_, hB.out⟩
      have h := hR.out
      rw [et.out, ← hn, List.take_length] at h
      exact h
end Go.Proofs.YtbhagfdkipgggaaDoor
