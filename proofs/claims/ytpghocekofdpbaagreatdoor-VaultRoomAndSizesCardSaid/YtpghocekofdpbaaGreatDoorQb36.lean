import Derived.Test.YtpghocekofdpbaaGreatDoorQb32
import Derived.Test.YtpghocekofdpbaaGreatDoorQb03
import Derived.Deep.CutRange
namespace Go.Proofs.YtpghocekofdpbaaGreatDoor
open Go.RowKit Go.Shelf
attribute [local go_sem] Oper.semAt_some
theorem bl_append (x y : ByteArray) : bl (x ++ y) = bl x ++ bl y := by
 unfold bl
 rw [ByteArray.data_append, Array.toList_append]
theorem txt_head (l : List UInt8) (n : Nat) : (txt l).extract 0 n = txt (l.take n) := by
 rw [<- txt_bl ((txt l).extract 0 n)]
 congr 1
 unfold bl txt
 rw [ByteArray.data_extract]
 simp
theorem keys_any (w : World) (key : ByteArray) (hk : key.size = 32) (hK : KAt w 1) :
  Calls Tryz.prog 119 #[.string key] w fun e w' => e = .returned (.tuple #[.string (txt (encK (bl key))), .string (txt (macK (bl key))), .int .i64 0]) /\ Below w.heap.size w w' := by
 have H1 : Hid (Calls Tryz.prog 41 #[.string key, .string ⟨#[101, 110, 99]⟩] w fun e w' => e = .returned (.string (txt (encK (bl key)))) /\ Below w.heap.size w w') := mac_any w key ⟨#[101, 110, 99]⟩ hK (by omega) (by decide)
 have H2 : Hid (∀ wx, Below w.heap.size w wx -> Calls Tryz.prog 41 #[.string key, .string ⟨#[109, 97, 99]⟩] wx fun e w' => e = .returned (.string (txt (macK (bl key)))) /\ Below wx.heap.size wx w') := fun wx hB => mac_any wx key ⟨#[109, 97, 99]⟩ (hK.below hB) (by omega) (by decide)
 clear hK
 go_enter Tryz.func119, Tryz.ntmps119
 go_wp2_with (first | (go_at_call_of 41 (Value.string ⟨#[101, 110, 99]⟩); refine H1.out.mono ?_; rintro e w1 ⟨rfl, hB1⟩; have HB1 := Lib.hid hB1; clear hB1) | (go_at_call_of 41 (Value.string ⟨#[109, 97, 99]⟩); refine (H2.out _ HB1.out).mono ?_; rintro e w2 ⟨rfl, hB2⟩; have HB2 := Lib.hid (HB1.out.trans (hB2.mono HB1.out.size)); clear hB2) | fail)
 go_ret3
 exact ⟨rfl, HB2.out⟩
theorem seCode_any (w : World) (key : ByteArray) (n g k c : Nat) (l : List ByteArray) (hl : l.length = k) (h2 : 2 <= k) (hkc : k <= c) (h100 : k <= 100) (hx : ∀ x ∈ l, x.size <= 2000000) (hA : TextsAt w (some ⟨g, 0, none⟩) l) (hn : n <= 32) (hkey : key.size < 10000000000) (hK : KAt w 1) :
  Calls Tryz.prog 121 #[.string key, .int .i64 n, .slice (some ⟨g, 0, none⟩) k c] w fun e w' => e = .returned (.string (txt ((macL (bl key) (catL l)).take n))) /\ Below w.heap.size w w' := by
 have HJ := Lib.hid (join_any w g k c l hl h2 hkc h100 hx hA)
 have hcl := catL_len l hx
 have HM : Hid (∀ wx, Below w.heap.size w wx -> Calls Tryz.prog 41 #[.string key, .string (txt (catL l))] wx fun e w' => e = .returned (.string (txt (macL (bl key) (catL l)))) /\ Below wx.heap.size wx w') := fun wx hB =>
  mac_any wx key (txt (catL l)) (hK.below hB) hkey (by rw [txt_size]; omega)
 have hms : Hid ((txt (macL (bl key) (catL l))).size = 32) := by unfold Hid; rw [txt_size, macL_len]
 have hxt := Lib.hid (txt_head (macL (bl key) (catL l)) n)
 clear hx hA hK hcl
 generalize txt (macL (bl key) (catL l)) = M at *
 have n1 : (0 : Int) <= (n : Int) := by omega
 have n2 : (n : Int) <= (M.size : Int) := by have := hms.out; omega
 go_enter Tryz.func121, Tryz.ntmps121
 go_wp2_with (first | (go_at_call 151; refine HJ.out.mono ?_; rintro e w1 ⟨rfl, hB1⟩; have HB1 := Lib.hid hB1; clear hB1) | (go_at_call 41; refine (HM.out _ HB1.out).mono ?_; rintro e w2 ⟨rfl, hB2⟩; have HB2 := Lib.hid (HB1.out.trans (hB2.mono HB1.out.size)); clear hB2) | fail)
 go_ret
 exact ⟨by rw [<- hxt.out]; rfl, HB2.out⟩
end Go.Proofs.YtpghocekofdpbaaGreatDoor
namespace Go.Proofs.YtpghocekofdpbaaGreatDoor
open Go.RowKit Go.Shelf
attribute [local go_sem] Oper.semAt_some
theorem lit_texts (w : World) (l : List ByteArray) : TextsAt (w.alloc (.cells (l.map Value.string).toArray 9)) (some ⟨w.heap.size, 0, none⟩) l := by
 refine .inr ⟨w.heap.size, 0, rfl, by rw [World.size_alloc]; exact Nat.lt_succ_self _, fun i x hx => ?_⟩
 rw [(Blk.new w 9 (l.map Value.string).toArray).cell, Nat.zero_add, List.getElem?_toArray, List.getElem?_map, hx]
 rfl
theorem code3 (wx : World) (M a b c : ByteArray) (n : Nat) (hn : n <= 32) (hK : KAt wx 1) (hM : M.size < 10000000000) (ha : a.size <= 2000000) (hb : b.size <= 2000000) (hc : c.size <= 2000000) :
  Calls Tryz.prog 121 #[.string M, .int .i64 n, .slice (some ⟨wx.heap.size, 0, none⟩) 3 3] (wx.alloc (.cells #[.string a, .string b, .string c] 9)) fun e w' => e = .returned (.string (txt ((macL (bl M) (bl a ++ bl b ++ bl c)).take n))) /\ Below wx.heap.size wx w' := by
 have hB := (Below.refl wx.heap.size wx).alloc (Nat.le_refl _) (.cells #[.string a, .string b, .string c] 9)
 have h := seCode_any (wx.alloc (.cells #[.string a, .string b, .string c] 9)) M n wx.heap.size 3 3 [a, b, c] rfl (by decide) (by decide) (by decide) (by intro x hx; simp at hx; rcases hx with rfl | rfl | rfl <;> assumption) (lit_texts wx [a, b, c]) hn hM (hK.below hB)
 refine h.mono ?_
 rintro e w' ⟨he, hB2⟩
 refine ⟨?_, hB.trans (hB2.mono hB.size)⟩
 rw [he]
 unfold catL
 simp [List.append_assoc]
theorem code4 (wx : World) (M a b c d : ByteArray) (n : Nat) (hn : n <= 32) (hK : KAt wx 1) (hM : M.size < 10000000000) (ha : a.size <= 2000000) (hb : b.size <= 2000000) (hc : c.size <= 2000000) (hd : d.size <= 2000000) :
  Calls Tryz.prog 121 #[.string M, .int .i64 n, .slice (some ⟨wx.heap.size, 0, none⟩) 4 4] (wx.alloc (.cells #[.string a, .string b, .string c, .string d] 9)) fun e w' => e = .returned (.string (txt ((macL (bl M) (bl a ++ bl b ++ bl c ++ bl d)).take n))) /\ Below wx.heap.size wx w' := by
 have hB := (Below.refl wx.heap.size wx).alloc (Nat.le_refl _) (.cells #[.string a, .string b, .string c, .string d] 9)
 have h := seCode_any (wx.alloc (.cells #[.string a, .string b, .string c, .string d] 9)) M n wx.heap.size 4 4 [a, b, c, d] rfl (by decide) (by decide) (by decide) (by intro x hx; simp at hx; rcases hx with rfl | rfl | rfl | rfl <;> assumption) (lit_texts wx [a, b, c, d]) hn hM (hK.below hB)
 refine h.mono ?_
 rintro e w' ⟨he, hB2⟩
 refine ⟨?_, hB.trans (hB2.mono hB.size)⟩
 rw [he]
 unfold catL
 simp [List.append_assoc]
set_option maxRecDepth 100000 in
set_option maxHeartbeats 1600000 in
theorem seal_any (w : World) (key ad text : ByteArray) (hk : key.size = 32) (had : ad.size <= 1000000) (ht : text.size <= 1000000) (hK : KAt w 1) :
  Calls Tryz.prog 84 #[.string key, .string ad, .string text] w fun e w' => e = .returned (.tuple #[.string (txt (sealL (bl key) (bl ad) (bl text))), .int .i64 0]) /\ Below w.heap.size w w' := by
 have HKEYS := Lib.hid (keys_any w key hk hK)
 obtain ⟨E, hE⟩ : ∃ E, txt (encK (bl key)) = E := ⟨_, rfl⟩
 obtain ⟨M, hM⟩ : ∃ M, txt (macK (bl key)) = M := ⟨_, rfl⟩
 have hEb : bl E = encK (bl key) := by rw [<- hE]; rfl
 have hMb : bl M = macK (bl key) := by rw [<- hM]; rfl
 have hEs : E.size = 32 := by rw [<- bl_len, hEb]; exact macL_len _ _
 have hMs : M.size = 32 := by rw [<- bl_len, hMb]; exact macL_len _ _
 rw [hE, hM] at HKEYS
 obtain ⟨C, hC⟩ : ∃ C, txt (bytesL (bl ad)) = C := ⟨_, rfl⟩
 have hCb : bl C = bytesL (bl ad) := by rw [<- hC]; rfl
 have hCs : C.size <= 1000009 := by rw [<- bl_len, hCb]; have := bytesL_le (bl ad); rw [bl_len] at this; omega
 obtain ⟨N, hN⟩ : ∃ N, txt (nonceL (bl M) (bl ad) (bl text)) = N := ⟨_, rfl⟩
 have hNb : bl N = nonceL (bl M) (bl ad) (bl text) := by rw [<- hN]; rfl
 have hNs : N.size = 12 := by rw [<- bl_len, hNb]; exact nonceL_len _ _ _
 obtain ⟨X, hX⟩ : ∃ X, txt (xorL (bl E) 1 (bl N) (bl text)) = X := ⟨_, rfl⟩
 have hXb : bl X = xorL (bl E) 1 (bl N) (bl text) := by rw [<- hX]; rfl
 have hXs : X.size <= 1000000 := by rw [<- bl_len, hXb, xorL_len, bl_len]; exact ht
 obtain ⟨T, hT⟩ : ∃ T, txt (tagL (bl M) (bl N) (bl ad) (bl X)) = T := ⟨_, rfl⟩
 have hTb : bl T = tagL (bl M) (bl N) (bl ad) (bl X) := by rw [<- hT]; rfl
 have z1 : N.size <= 12 := by omega
 have z2 : T.size <= 16 := by rw [<- bl_len, hTb, tagL_len]; exact Nat.le_refl _
 have hfin : Hid (N ++ X ++ T = txt (sealL (bl key) (bl ad) (bl text))) := by
  unfold Hid
  rw [<- txt_bl (N ++ X ++ T), bl_append, bl_append, hTb, hXb, hNb, hEb, hMb]
  rfl
 have HBY : Hid (∀ wx, Calls Tryz.prog 120 #[.string ad] wx fun e w' => ∃ v, e = .returned v /\ (convert 66 9 v).run Tryz.prog w' = .ok (.string C) w' /\ Below wx.heap.size wx w') := fun wx => by
  refine (bytes_any wx ad (by omega)).mono ?_
  rintro e w' ⟨v, rfl, hR, hB⟩
  exact ⟨v, rfl, by rw [<- hC]; exact conv_row hR, hB⟩
 have HC1 : Hid (∀ wx, Below w.heap.size w wx -> Calls Tryz.prog 121 #[.string M, .int .i64 12, .slice (some ⟨wx.heap.size, 0, none⟩) 3 3] (wx.alloc (.cells #[.string ⟨#[110, 111, 110, 99, 101]⟩, .string C, .string text] 9)) fun e w' => e = .returned (.string N) /\ Below wx.heap.size wx w') := fun wx hB => by
  have h := code3 wx M ⟨#[110, 111, 110, 99, 101]⟩ C text 12 (by decide) (hK.below hB) (by omega) (by decide) (by omega) (by omega)
  rw [hCb] at h
  rw [<- hN]
  exact h
 have HX1 : Hid (∀ wx, Calls Tryz.prog 122 #[.string E, .int .u32 1, .string N, .string text] wx fun e w' => e = .returned (.tuple #[.string X, .int .i64 0]) /\ Below wx.heap.size wx w') := fun wx => by
  have h := xor_any wx E N text 1 hEs hNs (by omega)
  rw [hX] at h
  exact h
 have HC2 : Hid (∀ wx, Below w.heap.size w wx -> Calls Tryz.prog 121 #[.string M, .int .i64 16, .slice (some ⟨wx.heap.size, 0, none⟩) 4 4] (wx.alloc (.cells #[.string ⟨#[116, 97, 103]⟩, .string N, .string C, .string X] 9)) fun e w' => e = .returned (.string T) /\ Below wx.heap.size wx w') := fun wx hB => by
  have h := code4 wx M ⟨#[116, 97, 103]⟩ N C X 16 (by decide) (hK.below hB) (by omega) (by decide) (by omega) (by omega) (by omega)
  rw [hCb] at h
  rw [<- hT]
  exact h
 have a1 : decide ((1048576 : Int) < (ad.size : Int)) = false := decide_eq_false (by omega)
 have a2 : decide ((1048576 : Int) < (text.size : Int)) = false := decide_eq_false (by omega)
 have a3 : decide (1048576 < ad.size) = false := decide_eq_false (by omega)
 have a4 : decide (1048576 < text.size) = false := decide_eq_false (by omega)
 clear hE hM hC hN hX hT hEb hMb hCb hNb hXb hTb hEs hMs hCs hNs hK
 go_enter Tryz.func84, Tryz.ntmps84
 go_wp2_with (first
  | (go_at_call 119; refine HKEYS.out.mono ?_; rintro e w1 ⟨rfl, hB⟩; have HB1 := Lib.hid hB; clear hB)
  | (go_at_call 120; refine (HBY.out _).mono ?_; rintro e w2 ⟨v2, rfl, hcv2, hB⟩; have HB2 := Lib.hid (HB1.out.trans (hB.mono HB1.out.size)); clear hB)
  | (go_at_call_of 121 (Value.int IntKind.i64 16); refine (HC2.out _ HB4.out).mono ?_; rintro e w5 ⟨rfl, hB⟩; have HB5 := Lib.hid (HB4.out.trans (hB.mono HB4.out.size)); clear hB)
  | (go_at_call 122; refine (HX1.out _).mono ?_; rintro e w4 ⟨rfl, hB⟩; have HB4 := Lib.hid (HB3.out.trans (hB.mono HB3.out.size)); clear hB)
  | (go_at_call_of 121 (Value.int IntKind.i64 12); refine (HC1.out _ HB2.out).mono ?_; rintro e w3 ⟨rfl, hB⟩; have HB3 := Lib.hid (HB2.out.trans (hB.mono HB2.out.size)); clear hB)
  | fail)
 go_ret2
 exact ⟨by rw [<- hfin.out]; rfl, HB5.out⟩
end Go.Proofs.YtpghocekofdpbaaGreatDoor
namespace Go.Proofs.YtpghocekofdpbaaGreatDoor
open Go.RowKit Go.Shelf
attribute [local go_sem] Oper.semAt_some
theorem bl_ext (y : ByteArray) (a b : Nat) (_hb : b <= y.size) : bl (y.extract a b) = ((bl y).drop a).take (b - a) := by
 unfold bl
 rw [ByteArray.data_extract, Array.toList_extract, List.extract_eq_take_drop]
theorem bl_inj {x y : ByteArray} (h : bl x = bl y) : x = y := ByteArray.ext (Array.ext' h)
theorem open_texts (k ad b : List UInt8) (E M G V N X T Y : ByteArray) (h28 : ¬ b.length < 28) (hE : bl E = encK k) (hM : bl M = macK k) (hN : bl N = b.take 12) (hX : bl X = (b.drop 12).take (b.length - 28)) (hT : bl T = b.drop (b.length - 16))
  (hG : txt (tagL (bl M) (bl N) ad (bl X)) = G) (hY : txt (xorL (bl E) 1 (bl N) (bl X)) = Y) (hV : txt (nonceL (bl M) ad (bl Y)) = V) :
  openL k ad b = if G = T then (if V = N then (bl Y, 0) else ([], 8)) else ([], 8) := by
 have hYb : bl Y = xorL (bl E) 1 (bl N) (bl X) := by rw [<- hY, bl_txt]
 have hGb : bl G = tagL (bl M) (bl N) ad (bl X) := by rw [<- hG, bl_txt]
 have hVb : bl V = nonceL (bl M) ad (bl Y) := by rw [<- hV, bl_txt]
 unfold openL
 rw [if_neg h28]
 simp only
 rw [<- hT, <- hX, <- hN, <- hE, <- hM, <- hYb, <- hGb, <- hVb]
 have e1 : (bl G = bl T) = (G = T) := propext ⟨bl_inj, fun h => congrArg bl h⟩
 have e2 : (bl V = bl N) = (V = N) := propext ⟨bl_inj, fun h => congrArg bl h⟩
 simp only [e1, e2]
set_option maxRecDepth 100000 in
set_option maxHeartbeats 3200000 in
theorem open_any (w : World) (key ad blob : ByteArray) (hk : key.size = 32) (had : ad.size <= 1000000) (hb : blob.size <= 1000000) (hK : KAt w 1) :
  Calls Tryz.prog 109 #[.string key, .string ad, .string blob] w fun e w' => e = .returned (.tuple #[.string (txt (openL (bl key) (bl ad) (bl blob)).1), .int .i64 ((openL (bl key) (bl ad) (bl blob)).2 : Nat)]) /\ Below w.heap.size w w' := by
 have HKEYS := Lib.hid (keys_any w key hk hK)
 obtain ⟨E, hE⟩ : ∃ E, txt (encK (bl key)) = E := ⟨_, rfl⟩
 obtain ⟨M, hM⟩ : ∃ M, txt (macK (bl key)) = M := ⟨_, rfl⟩
 have hEb : bl E = encK (bl key) := by rw [<- hE]; rfl
 have hMb : bl M = macK (bl key) := by rw [<- hM]; rfl
 have hEs : E.size = 32 := by rw [<- bl_len, hEb]; exact macL_len _ _
 have hMs : M.size = 32 := by rw [<- bl_len, hMb]; exact macL_len _ _
 rw [hE, hM] at HKEYS
 have a1 : decide ((1048576 : Int) < (ad.size : Int)) = false := decide_eq_false (by omega)
 have a2 : decide ((1048604 : Int) < (blob.size : Int)) = false := decide_eq_false (by omega)
 by_cases h28 : blob.size < 28
 ·have a5 : decide ((blob.size : Int) < 28) = true := decide_eq_true (by omega)
  have a6 : decide (blob.size < 28) = true := decide_eq_true h28
  have hfin : Hid (openL (bl key) (bl ad) (bl blob) = ([], 5)) := by unfold Hid openL; rw [if_pos (by rw [bl_len]; exact h28)]
  clear hE hM hEb hMb hEs hMs hK
  go_enter Tryz.func109, Tryz.ntmps109
  go_wp2_with (first | (go_at_call 119; refine HKEYS.out.mono ?_; rintro e w1 ⟨rfl, hB⟩; have HB1 := Lib.hid hB; clear hB) | fail)
  go_ret2
  exact ⟨by rw [hfin.out]; rfl, HB1.out⟩
 ·have a5 : decide ((blob.size : Int) < 28) = false := decide_eq_false (by omega)
  have a6 : decide (blob.size < 28) = false := decide_eq_false h28
  obtain ⟨C, hC⟩ : ∃ C, txt (bytesL (bl ad)) = C := ⟨_, rfl⟩
  have hCb : bl C = bytesL (bl ad) := by rw [<- hC]; rfl
  have hCs : C.size <= 1000009 := by rw [<- bl_len, hCb]; have := bytesL_le (bl ad); rw [bl_len] at this; omega
  obtain ⟨D, hD⟩ : ∃ D, blob.size - 16 = D := ⟨_, rfl⟩
  have d1 : (blob.size : Int) - 16 = (D : Int) := by omega
  have d2 : (12 : Int) <= (D : Int) := by omega
  have d3 : (D : Int) <= (blob.size : Int) := by omega
  have d4 : (0 : Int) <= (D : Int) := by omega
  have d5 : (12 : Int) <= (blob.size : Int) := by omega
  have hNb : bl (blob.extract 0 12) = (bl blob).take 12 := by rw [bl_ext _ _ _ (by omega)]; rfl
  have hXb : bl (blob.extract 12 D) = ((bl blob).drop 12).take ((bl blob).length - 28) := by rw [bl_ext _ _ _ (by omega), bl_len, <- hD]; congr 1
  have hTb : bl (blob.extract D blob.size) = (bl blob).drop ((bl blob).length - 16) := by rw [bl_extract _ _ (by omega), bl_len, <- hD]
  have hNs : (blob.extract 0 12).size = 12 := by rw [<- bl_len, hNb, List.length_take, bl_len]; omega
  have hXs : (blob.extract 12 D).size <= 1000000 := by rw [<- bl_len, hXb, List.length_take, bl_len]; omega
  obtain ⟨G, hG⟩ : ∃ G, txt (tagL (bl M) (bl (blob.extract 0 12)) (bl ad) (bl (blob.extract 12 D))) = G := ⟨_, rfl⟩
  obtain ⟨Y, hY⟩ : ∃ Y, txt (xorL (bl E) 1 (bl (blob.extract 0 12)) (bl (blob.extract 12 D))) = Y := ⟨_, rfl⟩
  have hYs : Y.size <= 1000000 := by rw [<- hY, txt_size, xorL_len, bl_len]; exact hXs
  obtain ⟨V, hV⟩ : ∃ V, txt (nonceL (bl M) (bl ad) (bl Y)) = V := ⟨_, rfl⟩
  have HBY : Hid (∀ wx, Calls Tryz.prog 120 #[.string ad] wx fun e w' => ∃ v, e = .returned v /\ (convert 66 9 v).run Tryz.prog w' = .ok (.string C) w' /\ Below wx.heap.size wx w') := fun wx => by
   refine (bytes_any wx ad (by omega)).mono ?_
   rintro e w' ⟨v, rfl, hR, hB⟩
   exact ⟨v, rfl, by rw [<- hC]; exact conv_row hR, hB⟩
  have HC1 : Hid (∀ wx, Below w.heap.size w wx -> Calls Tryz.prog 121 #[.string M, .int .i64 12, .slice (some ⟨wx.heap.size, 0, none⟩) 3 3] (wx.alloc (.cells #[.string ⟨#[110, 111, 110, 99, 101]⟩, .string C, .string Y] 9)) fun e w' => e = .returned (.string V) /\ Below wx.heap.size wx w') := fun wx hB => by
   have h := code3 wx M ⟨#[110, 111, 110, 99, 101]⟩ C Y 12 (by decide) (hK.below hB) (by omega) (by decide) (by omega) (by omega)
   rw [hCb] at h
   rw [<- hV]
   exact h
  have HX1 : Hid (∀ wx, Calls Tryz.prog 122 #[.string E, .int .u32 1, .string (blob.extract 0 12), .string (blob.extract 12 D)] wx fun e w' => e = .returned (.tuple #[.string Y, .int .i64 0]) /\ Below wx.heap.size wx w') := fun wx => by
   have h := xor_any wx E (blob.extract 0 12) (blob.extract 12 D) 1 hEs hNs (by omega)
   rw [hY] at h
   exact h
  have HC2 : Hid (∀ wx, Below w.heap.size w wx -> Calls Tryz.prog 121 #[.string M, .int .i64 16, .slice (some ⟨wx.heap.size, 0, none⟩) 4 4] (wx.alloc (.cells #[.string ⟨#[116, 97, 103]⟩, .string (blob.extract 0 12), .string C, .string (blob.extract 12 D)] 9)) fun e w' => e = .returned (.string G) /\ Below wx.heap.size wx w') := fun wx hB => by
   have h := code4 wx M ⟨#[116, 97, 103]⟩ (blob.extract 0 12) C (blob.extract 12 D) 16 (by decide) (hK.below hB) (by omega) (by decide) (by omega) (by omega) (by omega)
   rw [hCb] at h
   rw [<- hG]
   exact h
  have hO : Hid (openL (bl key) (bl ad) (bl blob) = if G = blob.extract D blob.size then (if V = blob.extract 0 12 then (bl Y, 0) else ([], 8)) else ([], 8)) :=
   open_texts (bl key) (bl ad) (bl blob) E M G V (blob.extract 0 12) (blob.extract 12 D) (blob.extract D blob.size) Y (by rw [bl_len]; exact h28) hEb hMb hNb hXb hTb hG hY hV
  have g1 : ∀ wx, (Instr.slice 9 (.string blob) (some (.int .i64 12)) (some (.int .i64 (D : Int))) none).run Tryz.prog wx = .ok (.string (blob.extract 12 D)) wx := fun wx => by
   simp [go_sem, d2, d3]
  clear hE hM hC hD hG hY hV hEb hMb hCb hNb hXb hTb hEs hMs hCs hNs hXs hK hYs
  go_enter Tryz.func109, Tryz.ntmps109
  go_wp2_with (first
   | (go_at_call 119; refine HKEYS.out.mono ?_; rintro e w1 ⟨rfl, hB⟩; have HB1 := Lib.hid hB; clear hB)
   | (go_at_call 120; refine (HBY.out _).mono ?_; rintro e w2 ⟨v2, rfl, hcv2, hB⟩; have HB2 := Lib.hid (HB1.out.trans (hB.mono HB1.out.size)); clear hB)
   | fail)
  go_region
  go_wp2_with fail
  refine wp_region_held_drew (S := (fun _ => True)) (by kernel_rfl) trivial (fun hHeld => ?_)
  refine' tk 0 rfl hHeld ?_
  try simp only [sA, gA]
  refine' tk 1 rfl hHeld ?_
  try simp only [sA, gA]
  refine' tk 2 rfl hHeld ?_
  try simp only [sA, gA]
  refine' tk 3 rfl hHeld ?_
  try simp only [sA, gA]
  refine' tk 6 rfl hHeld ?_
  try simp only [sA, gA]
  refine' tk 7 rfl hHeld ?_
  try simp only [sA, gA]
  refine' tk 8 rfl hHeld ?_
  try simp only [sA, gA]
  refine td 4 rfl (fun K hK => ?_)
  go_simp
  refine hK.out _ _ ?_ (fun hHeld2 => ?_)
  ·exact trivial
  clear hK K hHeld
  have hHeld := hHeld2
  clear hHeld2
  try simp only [sA, gA]
  refine td 5 rfl (fun K hK => ?_)
  go_simp
  go_at_call 121
  refine (HC2.out _ (by first | exact HB2.out.drew.drew | exact HB2.out.drew | exact HB2.out)).mono ?_
  rintro e w9 ⟨rfl, hB9⟩
  have HB9 := Lib.hid (HB2.out.drew.drew.trans (hB9.mono HB2.out.size))
  clear hB9
  go_wp2_with fail
  refine hK.out _ _ ?_ (fun hHeld2 => ?_)
  ·exact trivial
  clear hK K hHeld
  have hHeld := hHeld2
  clear hHeld2
  try simp only [sA, gA]
  refine' tk 9 rfl hHeld ?_
  try simp only [sA, gA]
  refine wpAnyH_done (by kernel_rfl) ?_ _
  clear hHeld
  by_cases hGT : G = blob.extract D blob.size
  ·have t1 : (!G.toList == (blob.extract D blob.size).toList) = false := by rw [text_eqS hGT]; rfl
   rw [if_pos hGT] at hO
   rw [t1]
   by_cases hVN : V = blob.extract 0 12
   ·have t2 : Hid ((!V.toList == (blob.extract 0 12).toList) = false) := by unfold Hid; exact (by rw [text_eqS hVN]; rfl)
    rw [if_pos hVN] at hO
    have hOH := Lib.hid hO
    have hY : Hid (txt (bl Y) = Y) := txt_bl Y
    clear hGT hVN hO
    go_upto_if 71 with (first
    | (go_at_call 122; refine (HX1.out _).mono ?_; rintro e w10 ⟨rfl, hB⟩; have HB10 := Lib.hid (HB9.out.trans (hB.mono HB9.out.size)); clear hB)
    | (go_at_call 121; refine (HC1.out _ HB10.out).mono ?_; rintro e w11 ⟨rfl, hB⟩; have HB11 := Lib.hid (HB10.out.trans (hB.mono HB10.out.size)); clear hB)
    | fail)
    rw [t2.out]
    go_wp2_with fail
    go_ret2
    exact ⟨by rw [hOH.out.out]; show _ = Ending.returned (.tuple #[.string (txt (bl Y)), _]); rw [hY.out]; rfl, HB11.out⟩
   ·have t2 : Hid ((!V.toList == (blob.extract 0 12).toList) = true) := by unfold Hid; exact (by rw [text_ne hVN]; rfl)
    rw [if_neg hVN] at hO
    have hOH := Lib.hid hO
    clear hGT hVN hO
    go_upto_if 71 with (first
    | (go_at_call 122; refine (HX1.out _).mono ?_; rintro e w10 ⟨rfl, hB⟩; have HB10 := Lib.hid (HB9.out.trans (hB.mono HB9.out.size)); clear hB)
    | (go_at_call 121; refine (HC1.out _ HB10.out).mono ?_; rintro e w11 ⟨rfl, hB⟩; have HB11 := Lib.hid (HB10.out.trans (hB.mono HB10.out.size)); clear hB)
    | fail)
    rw [t2.out]
    go_wp2_with fail
    go_ret2
    exact ⟨by rw [hOH.out.out]; rfl, HB11.out⟩
  ·have t1 : (!G.toList == (blob.extract D blob.size).toList) = true := by rw [text_ne hGT]; rfl
   rw [if_neg hGT] at hO
   rw [t1]
   have hOH := Lib.hid hO
   clear hGT hO
   go_wp2_with fail
   go_ret2
   exact ⟨by rw [hOH.out.out]; rfl, HB9.out⟩
end Go.Proofs.YtpghocekofdpbaaGreatDoor
