/-
  Layer 4 (seal) in plain words.
  Layer 4 (seal): the keys, a code, a sealed text.
  Layer 4 (seal): a text is sealed.
  Layer 4 (seal): a sealed text is opened.
  Layer 2 (hash): whether two texts are equal.
-/
import Derived.Test.YtbhagfdkipgggaaDoorMD
import Derived.Test.YtbhagfdkipgggaaDoorMF
import Derived.Test.YtbhagfdkipgggaaDoorMB
import Derived.Deep.CutRange
namespace Go.Proofs.YtbhagfdkipgggaaDoor
def encK (k : List UInt8) : List UInt8 := macL k [101, 110, 99]
def macK (k : List UInt8) : List UInt8 := macL k [109, 97, 99]
def nonceL (m ad t : List UInt8) : List UInt8 := (macL m ([110, 111, 110, 99, 101] ++ bytesL ad ++ t)).take 12
def tagL (m n ad c : List UInt8) : List UInt8 := (macL m ([116, 97, 103] ++ n ++ bytesL ad ++ c)).take 16
theorem nonceL_len (m ad t : List UInt8) : (nonceL m ad t).length = 12 := by unfold nonceL; rw [List.length_take, macL_len]; rfl
theorem tagL_len (m n ad c : List UInt8) : (tagL m n ad c).length = 16 := by unfold tagL; rw [List.length_take, macL_len]; rfl
/-- A sealed text. -/
def sealL (k ad t : List UInt8) : List UInt8 :=
  let n := nonceL (macK k) ad t
  let c := xorL (encK k) 1 n t
  n ++ c ++ tagL (macK k) n ad c
theorem sealL_len (k ad t : List UInt8) : (sealL k ad t).length = t.length + 28 := by
  unfold sealL
  simp only [List.length_append, nonceL_len, tagL_len, xorL_len]
  omega
/-- What a sealed text opens to; 0 is OK, 5 truncated, 8 not authentic. -/
def openL (k ad b : List UInt8) : List UInt8 × Nat :=
  if b.length < 28 then ([], 5) else
  let n := b.take 12
  let c := (b.drop 12).take (b.length - 28)
  if tagL (macK k) n ad c = b.drop (b.length - 16) then
    let t := xorL (encK k) 1 n c
    if nonceL (macK k) ad t = n then (t, 0) else ([], 8)
  else ([], 8)
/-- What was sealed opens. -/
theorem open_seal (k ad t : List UInt8) : openL k ad (sealL k ad t) = (t, 0) := by
  unfold openL
  have hl := sealL_len k ad t
  rw [if_neg (by omega)]
  have hn := nonceL_len (macK k) ad t
  have e1 : (sealL k ad t).take 12 = nonceL (macK k) ad t := by
    unfold sealL
    simp only [List.append_assoc]
    rw [List.take_append_of_le_length (by omega), List.take_of_length_le (by omega)]
  have e2 : (sealL k ad t).drop 12 = xorL (encK k) 1 (nonceL (macK k) ad t) t ++ tagL (macK k) (nonceL (macK k) ad t) ad (xorL (encK k) 1 (nonceL (macK k) ad t) t) := by
    unfold sealL
    simp only [List.append_assoc]
    rw [List.drop_append_of_le_length (by omega), List.drop_of_length_le (by omega), List.nil_append]
  have e3 : ((sealL k ad t).drop 12).take ((sealL k ad t).length - 28) = xorL (encK k) 1 (nonceL (macK k) ad t) t := by
    rw [e2, hl, Nat.add_sub_cancel, List.take_append_of_le_length (by rw [xorL_len]; exact Nat.le_refl _), List.take_of_length_le (by rw [xorL_len]; exact Nat.le_refl _)]
  have e4 : (sealL k ad t).drop ((sealL k ad t).length - 16) = tagL (macK k) (nonceL (macK k) ad t) ad (xorL (encK k) 1 (nonceL (macK k) ad t) t) := by
    have h : (sealL k ad t).length - 16 = 12 + t.length := by omega
    rw [h, ← List.drop_drop, e2, List.drop_append_of_le_length (by rw [xorL_len]; exact Nat.le_refl _), List.drop_of_length_le (by rw [xorL_len]; exact Nat.le_refl _), List.nil_append]
  simp only [e1, e3, e4, if_true, xorL_twice]
/-- What opens was sealed. -/
theorem seal_open (k ad b t : List UInt8) (h : openL k ad b = (t, 0)) : sealL k ad t = b := by
  unfold openL at h
  by_cases h1 : b.length < 28
  · rw [if_pos h1] at h
    simp at h
  · rw [if_neg h1] at h
    simp only at h
    by_cases h2 : tagL (macK k) (b.take 12) ad ((b.drop 12).take (b.length - 28)) = b.drop (b.length - 16)
    · rw [if_pos h2] at h
      by_cases h3 : nonceL (macK k) ad (xorL (encK k) 1 (b.take 12) ((b.drop 12).take (b.length - 28))) = b.take 12
      · rw [if_pos h3] at h
        have ht : xorL (encK k) 1 (b.take 12) ((b.drop 12).take (b.length - 28)) = t := congrArg Prod.fst h
        unfold sealL
        rw [← ht]
        simp only [h3, xorL_twice]
        rw [h2, show b.length - 16 = 12 + (b.length - 28) by omega, ← List.drop_drop, List.append_assoc, List.take_append_drop, List.take_append_drop]
      · rw [if_neg h3] at h
        simp at h
    · rw [if_neg h2] at h
      simp at h
end Go.Proofs.YtbhagfdkipgggaaDoor
namespace Go.Proofs.YtbhagfdkipgggaaDoor
open Go.RowKit Go.Shelf
attribute [local go_sem] Oper.semAt_some
theorem bl_append (x y : ByteArray) : bl (x ++ y) = bl x ++ bl y := by
  unfold bl
  rw [ByteArray.data_append, Array.toList_append]
theorem txt_append (l m : List UInt8) : txt l ++ txt m = txt (l ++ m) := by
  rw [← txt_bl (txt l ++ txt m), bl_append, bl_txt, bl_txt]
theorem txt_head (l : List UInt8) (n : Nat) : (txt l).extract 0 n = txt (l.take n) := by
  rw [← txt_bl ((txt l).extract 0 n)]
  congr 1
  unfold bl txt
  rw [ByteArray.data_extract]
  simp
theorem keys_any (w : World) (key : ByteArray) (hk : key.size = 32) (hK : KAt w 1) :
    Calls Tryd.prog 71 #[.string key] w fun e w' => e = .returned (.tuple #[.string (txt (encK (bl key))), .string (txt (macK (bl key))), .int .i64 0]) ∧ Below w.heap.size w w' := by
  have H1 : Hid (Calls Tryd.prog 81 #[.string key, .string ⟨#[101, 110, 99]⟩] w fun e w' => e = .returned (.string (txt (encK (bl key)))) ∧ Below w.heap.size w w') := mac_any w key ⟨#[101, 110, 99]⟩ hK (by omega) (by decide)
  have H2 : Hid (∀ wx, Below w.heap.size w wx → Calls Tryd.prog 81 #[.string key, .string ⟨#[109, 97, 99]⟩] wx fun e w' => e = .returned (.string (txt (macK (bl key)))) ∧ Below wx.heap.size wx w') := fun wx hB => mac_any wx key ⟨#[109, 97, 99]⟩ (hK.below hB) (by omega) (by decide)
  clear hK
  go_enter Tryd.func71, Tryd.ntmps71
  go_wp2_with (first | (go_at_call_of 81 (Value.string ⟨#[101, 110, 99]⟩); refine H1.out.mono ?_; rintro e w1 ⟨rfl, hB1⟩; have HB1 := Lib.hid hB1; clear hB1) | (go_at_call_of 81 (Value.string ⟨#[109, 97, 99]⟩); refine (H2.out _ HB1.out).mono ?_; rintro e w2 ⟨rfl, hB2⟩; have HB2 := Lib.hid (HB1.out.trans (hB2.mono HB1.out.size)); clear hB2) | fail)
  go_ret3
  exact ⟨rfl, HB2.out⟩
theorem seCode_any (w : World) (key : ByteArray) (n g k c : Nat) (l : List ByteArray) (hl : l.length = k) (h2 : 2 ≤ k) (hkc : k ≤ c) (h100 : k ≤ 100) (hx : ∀ x ∈ l, x.size ≤ 2000000) (hA : TextsAt w (some ⟨g, 0, none⟩) l) (hn : n ≤ 32) (hkey : key.size < 10000000000) (hK : KAt w 1) :
    Calls Tryd.prog 72 #[.string key, .int .i64 n, .slice (some ⟨g, 0, none⟩) k c] w fun e w' => e = .returned (.string (txt ((macL (bl key) (catL l)).take n))) ∧ Below w.heap.size w w' := by
  have HJ := Lib.hid (join_any w g k c l hl h2 hkc h100 hx hA)
  have hcl := catL_len l hx
  have HM : Hid (∀ wx, Below w.heap.size w wx → Calls Tryd.prog 81 #[.string key, .string (txt (catL l))] wx fun e w' => e = .returned (.string (txt (macL (bl key) (catL l)))) ∧ Below wx.heap.size wx w') := fun wx hB =>
    mac_any wx key (txt (catL l)) (hK.below hB) hkey (by rw [txt_size]; omega)
  have hms : Hid ((txt (macL (bl key) (catL l))).size = 32) := by unfold Hid; rw [txt_size, macL_len]
  have hxt := Lib.hid (txt_head (macL (bl key) (catL l)) n)
  clear hx hA hK hcl
  generalize txt (macL (bl key) (catL l)) = M at *
  have n1 : (0 : Int) ≤ (n : Int) := by omega
  have n2 : (n : Int) ≤ (M.size : Int) := by have := hms.out; omega
  go_enter Tryd.func72, Tryd.ntmps72
  go_wp2_with (first | (go_at_call 89; refine HJ.out.mono ?_; rintro e w1 ⟨rfl, hB1⟩; have HB1 := Lib.hid hB1; clear hB1) | (go_at_call 81; refine (HM.out _ HB1.out).mono ?_; rintro e w2 ⟨rfl, hB2⟩; have HB2 := Lib.hid (HB1.out.trans (hB2.mono HB1.out.size)); clear hB2) | fail)
  go_ret
  exact ⟨by rw [← hxt.out]; rfl, HB2.out⟩
end Go.Proofs.YtbhagfdkipgggaaDoor
namespace Go.Proofs.YtbhagfdkipgggaaDoor
open Go.RowKit Go.Shelf
attribute [local go_sem] Oper.semAt_some
/-- A literal's texts. -/
theorem lit_texts (w : World) (l : List ByteArray) : TextsAt (w.alloc (.cells (l.map Value.string).toArray 9)) (some ⟨w.heap.size, 0, none⟩) l := by
  refine .inr ⟨w.heap.size, 0, rfl, by rw [World.size_alloc]; exact Nat.lt_succ_self _, fun i x hx => ?_⟩
  rw [(Blk.new w 9 (l.map Value.string).toArray).cell, Nat.zero_add, List.getElem?_toArray, List.getElem?_map, hx]
  rfl
def sNonce : ByteArray := ⟨#[110, 111, 110, 99, 101]⟩
def sTag : ByteArray := ⟨#[116, 97, 103]⟩
/-- The code of three texts; of four. -/
theorem code3 (wx : World) (M a b c : ByteArray) (n : Nat) (hn : n ≤ 32) (hK : KAt wx 1) (hM : M.size < 10000000000) (ha : a.size ≤ 2000000) (hb : b.size ≤ 2000000) (hc : c.size ≤ 2000000) :
    Calls Tryd.prog 72 #[.string M, .int .i64 n, .slice (some ⟨wx.heap.size, 0, none⟩) 3 3] (wx.alloc (.cells #[.string a, .string b, .string c] 9)) fun e w' => e = .returned (.string (txt ((macL (bl M) (bl a ++ bl b ++ bl c)).take n))) ∧ Below wx.heap.size wx w' := by
  have hB := (Below.refl wx.heap.size wx).alloc (Nat.le_refl _) (.cells #[.string a, .string b, .string c] 9)
  have h := seCode_any (wx.alloc (.cells #[.string a, .string b, .string c] 9)) M n wx.heap.size 3 3 [a, b, c] rfl (by decide) (by decide) (by decide) (by intro x hx; simp at hx; rcases hx with rfl | rfl | rfl <;> assumption) (lit_texts wx [a, b, c]) hn hM (hK.below hB)
  refine h.mono ?_
  rintro e w' ⟨he, hB2⟩
  refine ⟨?_, hB.trans (hB2.mono hB.size)⟩
  rw [he]
  unfold catL
  simp [List.append_assoc]
theorem code4 (wx : World) (M a b c d : ByteArray) (n : Nat) (hn : n ≤ 32) (hK : KAt wx 1) (hM : M.size < 10000000000) (ha : a.size ≤ 2000000) (hb : b.size ≤ 2000000) (hc : c.size ≤ 2000000) (hd : d.size ≤ 2000000) :
    Calls Tryd.prog 72 #[.string M, .int .i64 n, .slice (some ⟨wx.heap.size, 0, none⟩) 4 4] (wx.alloc (.cells #[.string a, .string b, .string c, .string d] 9)) fun e w' => e = .returned (.string (txt ((macL (bl M) (bl a ++ bl b ++ bl c ++ bl d)).take n))) ∧ Below wx.heap.size wx w' := by
  have hB := (Below.refl wx.heap.size wx).alloc (Nat.le_refl _) (.cells #[.string a, .string b, .string c, .string d] 9)
  have h := seCode_any (wx.alloc (.cells #[.string a, .string b, .string c, .string d] 9)) M n wx.heap.size 4 4 [a, b, c, d] rfl (by decide) (by decide) (by decide) (by intro x hx; simp at hx; rcases hx with rfl | rfl | rfl | rfl <;> assumption) (lit_texts wx [a, b, c, d]) hn hM (hK.below hB)
  refine h.mono ?_
  rintro e w' ⟨he, hB2⟩
  refine ⟨?_, hB.trans (hB2.mono hB.size)⟩
  rw [he]
  unfold catL
  simp [List.append_assoc]
set_option maxRecDepth 100000 in
set_option maxHeartbeats 1600000 in
theorem seal_any (w : World) (key ad text : ByteArray) (hk : key.size = 32) (had : ad.size ≤ 1000000) (ht : text.size ≤ 1000000) (hK : KAt w 1) :
    Calls Tryd.prog 47 #[.string key, .string ad, .string text] w fun e w' => e = .returned (.tuple #[.string (txt (sealL (bl key) (bl ad) (bl text))), .int .i64 0]) ∧ Below w.heap.size w w' := by
  have HKEYS := Lib.hid (keys_any w key hk hK)
  obtain ⟨E, hE⟩ : ∃ E, txt (encK (bl key)) = E := ⟨_, rfl⟩
  obtain ⟨M, hM⟩ : ∃ M, txt (macK (bl key)) = M := ⟨_, rfl⟩
  have hEb : bl E = encK (bl key) := by rw [← hE]; rfl
  have hMb : bl M = macK (bl key) := by rw [← hM]; rfl
  have hEs : E.size = 32 := by rw [← bl_len, hEb]; exact macL_len _ _
  have hMs : M.size = 32 := by rw [← bl_len, hMb]; exact macL_len _ _
  rw [hE, hM] at HKEYS
  obtain ⟨C, hC⟩ : ∃ C, txt (bytesL (bl ad)) = C := ⟨_, rfl⟩
  have hCb : bl C = bytesL (bl ad) := by rw [← hC]; rfl
  have hCs : C.size ≤ 1000009 := by rw [← bl_len, hCb]; have := bytesL_le (bl ad); rw [bl_len] at this; omega
  obtain ⟨N, hN⟩ : ∃ N, txt (nonceL (bl M) (bl ad) (bl text)) = N := ⟨_, rfl⟩
  have hNb : bl N = nonceL (bl M) (bl ad) (bl text) := by rw [← hN]; rfl
  have hNs : N.size = 12 := by rw [← bl_len, hNb]; exact nonceL_len _ _ _
  obtain ⟨X, hX⟩ : ∃ X, txt (xorL (bl E) 1 (bl N) (bl text)) = X := ⟨_, rfl⟩
  have hXb : bl X = xorL (bl E) 1 (bl N) (bl text) := by rw [← hX]; rfl
  have hXs : X.size ≤ 1000000 := by rw [← bl_len, hXb, xorL_len, bl_len]; exact ht
  obtain ⟨T, hT⟩ : ∃ T, txt (tagL (bl M) (bl N) (bl ad) (bl X)) = T := ⟨_, rfl⟩
  have hTb : bl T = tagL (bl M) (bl N) (bl ad) (bl X) := by rw [← hT]; rfl
  have z1 : N.size ≤ 12 := by omega
  have z2 : T.size ≤ 16 := by rw [← bl_len, hTb, tagL_len]; exact Nat.le_refl _
  have hfin : Hid (N ++ X ++ T = txt (sealL (bl key) (bl ad) (bl text))) := by
    unfold Hid
    rw [← txt_bl (N ++ X ++ T), bl_append, bl_append, hTb, hXb, hNb, hEb, hMb]
    rfl
  have HBY : Hid (∀ wx, Calls Tryd.prog 64 #[.string ad] wx fun e w' => ∃ v, e = .returned v ∧ (convert 65 9 v).run Tryd.prog w' = .ok (.string C) w' ∧ Below wx.heap.size wx w') := fun wx => by
    refine (bytes_any wx ad (by omega)).mono ?_
    rintro e w' ⟨v, rfl, hR, hB⟩
    exact ⟨v, rfl, by rw [← hC]; exact conv_row hR, hB⟩
  have HC1 : Hid (∀ wx, Below w.heap.size w wx → Calls Tryd.prog 72 #[.string M, .int .i64 12, .slice (some ⟨wx.heap.size, 0, none⟩) 3 3] (wx.alloc (.cells #[.string ⟨#[110, 111, 110, 99, 101]⟩, .string C, .string text] 9)) fun e w' => e = .returned (.string N) ∧ Below wx.heap.size wx w') := fun wx hB => by
    have h := code3 wx M ⟨#[110, 111, 110, 99, 101]⟩ C text 12 (by decide) (hK.below hB) (by omega) (by decide) (by omega) (by omega)
    rw [hCb] at h
    rw [← hN]
    exact h
  have HX1 : Hid (∀ wx, Calls Tryd.prog 73 #[.string E, .int .u32 1, .string N, .string text] wx fun e w' => e = .returned (.tuple #[.string X, .int .i64 0]) ∧ Below wx.heap.size wx w') := fun wx => by
    have h := xor_any wx E N text 1 hEs hNs (by omega)
    rw [hX] at h
    exact h
  have HC2 : Hid (∀ wx, Below w.heap.size w wx → Calls Tryd.prog 72 #[.string M, .int .i64 16, .slice (some ⟨wx.heap.size, 0, none⟩) 4 4] (wx.alloc (.cells #[.string ⟨#[116, 97, 103]⟩, .string N, .string C, .string X] 9)) fun e w' => e = .returned (.string T) ∧ Below wx.heap.size wx w') := fun wx hB => by
    have h := code4 wx M ⟨#[116, 97, 103]⟩ N C X 16 (by decide) (hK.below hB) (by omega) (by decide) (by omega) (by omega) (by omega)
    rw [hCb] at h
    rw [← hT]
    exact h
  have a1 : decide ((1048576 : Int) < (ad.size : Int)) = false := decide_eq_false (by omega)
  have a2 : decide ((1048576 : Int) < (text.size : Int)) = false := decide_eq_false (by omega)
  have a3 : decide (1048576 < ad.size) = false := decide_eq_false (by omega)
  have a4 : decide (1048576 < text.size) = false := decide_eq_false (by omega)
  clear hE hM hC hN hX hT hEb hMb hCb hNb hXb hTb hEs hMs hCs hNs hK
  go_enter Tryd.func47, Tryd.ntmps47
  go_wp2_with (first
    | (go_at_call 71; refine HKEYS.out.mono ?_; rintro e w1 ⟨rfl, hB⟩; have HB1 := Lib.hid hB; clear hB)
    | (go_at_call 64; refine (HBY.out _).mono ?_; rintro e w2 ⟨v2, rfl, hcv2, hB⟩; have HB2 := Lib.hid (HB1.out.trans (hB.mono HB1.out.size)); clear hB)
    | (go_at_call_of 72 (Value.int IntKind.i64 16); refine (HC2.out _ HB4.out).mono ?_; rintro e w5 ⟨rfl, hB⟩; have HB5 := Lib.hid (HB4.out.trans (hB.mono HB4.out.size)); clear hB)
    | (go_at_call 73; refine (HX1.out _).mono ?_; rintro e w4 ⟨rfl, hB⟩; have HB4 := Lib.hid (HB3.out.trans (hB.mono HB3.out.size)); clear hB)
    | (go_at_call_of 72 (Value.int IntKind.i64 12); refine (HC1.out _ HB2.out).mono ?_; rintro e w3 ⟨rfl, hB⟩; have HB3 := Lib.hid (HB2.out.trans (hB.mono HB2.out.size)); clear hB)
    | fail)
  go_ret2
  exact ⟨by rw [← hfin.out]; rfl, HB5.out⟩
end Go.Proofs.YtbhagfdkipgggaaDoor
namespace Go.Proofs.YtbhagfdkipgggaaDoor
open Go.RowKit Go.Shelf
attribute [local go_sem] Oper.semAt_some
theorem bl_ext (y : ByteArray) (a b : Nat) (_hb : b ≤ y.size) : bl (y.extract a b) = ((bl y).drop a).take (b - a) := by
  unfold bl
  rw [ByteArray.data_extract, Array.toList_extract, List.extract_eq_take_drop]
theorem bl_inj {x y : ByteArray} (h : bl x = bl y) : x = y := ByteArray.ext (Array.ext' h)
theorem open_texts (k ad b : List UInt8) (E M G V N X T Y : ByteArray) (h28 : ¬ b.length < 28) (hE : bl E = encK k) (hM : bl M = macK k) (hN : bl N = b.take 12) (hX : bl X = (b.drop 12).take (b.length - 28)) (hT : bl T = b.drop (b.length - 16))
    (hG : txt (tagL (bl M) (bl N) ad (bl X)) = G) (hY : txt (xorL (bl E) 1 (bl N) (bl X)) = Y) (hV : txt (nonceL (bl M) ad (bl Y)) = V) :
    openL k ad b = if G = T then (if V = N then (bl Y, 0) else ([], 8)) else ([], 8) := by
  have hYb : bl Y = xorL (bl E) 1 (bl N) (bl X) := by rw [← hY, bl_txt]
  have hGb : bl G = tagL (bl M) (bl N) ad (bl X) := by rw [← hG, bl_txt]
  have hVb : bl V = nonceL (bl M) ad (bl Y) := by rw [← hV, bl_txt]
  unfold openL
  rw [if_neg h28]
  simp only
  rw [← hT, ← hX, ← hN, ← hE, ← hM, ← hYb, ← hGb, ← hVb]
  have e1 : (bl G = bl T) = (G = T) := propext ⟨bl_inj, fun h => congrArg bl h⟩
  have e2 : (bl V = bl N) = (V = N) := propext ⟨bl_inj, fun h => congrArg bl h⟩
  simp only [e1, e2]
set_option maxRecDepth 100000 in
set_option maxHeartbeats 3200000 in
theorem open_any (w : World) (key ad blob : ByteArray) (hk : key.size = 32) (had : ad.size ≤ 1000000) (hb : blob.size ≤ 1000000) (hK : KAt w 1) :
    Calls Tryd.prog 51 #[.string key, .string ad, .string blob] w fun e w' => e = .returned (.tuple #[.string (txt (openL (bl key) (bl ad) (bl blob)).1), .int .i64 ((openL (bl key) (bl ad) (bl blob)).2 : Nat)]) ∧ Below w.heap.size w w' := by
  have HKEYS := Lib.hid (keys_any w key hk hK)
  obtain ⟨E, hE⟩ : ∃ E, txt (encK (bl key)) = E := ⟨_, rfl⟩
  obtain ⟨M, hM⟩ : ∃ M, txt (macK (bl key)) = M := ⟨_, rfl⟩
  have hEb : bl E = encK (bl key) := by rw [← hE]; rfl
  have hMb : bl M = macK (bl key) := by rw [← hM]; rfl
  have hEs : E.size = 32 := by rw [← bl_len, hEb]; exact macL_len _ _
  have hMs : M.size = 32 := by rw [← bl_len, hMb]; exact macL_len _ _
  rw [hE, hM] at HKEYS
  have a1 : decide ((1048576 : Int) < (ad.size : Int)) = false := decide_eq_false (by omega)
  have a2 : decide ((1048604 : Int) < (blob.size : Int)) = false := decide_eq_false (by omega)
  by_cases h28 : blob.size < 28
  · have a5 : decide ((blob.size : Int) < 28) = true := decide_eq_true (by omega)
    have a6 : decide (blob.size < 28) = true := decide_eq_true h28
    have hfin : Hid (openL (bl key) (bl ad) (bl blob) = ([], 5)) := by unfold Hid openL; rw [if_pos (by rw [bl_len]; exact h28)]
    clear hE hM hEb hMb hEs hMs hK
    go_enter Tryd.func51, Tryd.ntmps51
    go_wp2_with (first | (go_at_call 71; refine HKEYS.out.mono ?_; rintro e w1 ⟨rfl, hB⟩; have HB1 := Lib.hid hB; clear hB) | fail)
    go_ret2
    exact ⟨by rw [hfin.out]; rfl, HB1.out⟩
  · have a5 : decide ((blob.size : Int) < 28) = false := decide_eq_false (by omega)
    have a6 : decide (blob.size < 28) = false := decide_eq_false h28
    obtain ⟨C, hC⟩ : ∃ C, txt (bytesL (bl ad)) = C := ⟨_, rfl⟩
    have hCb : bl C = bytesL (bl ad) := by rw [← hC]; rfl
    have hCs : C.size ≤ 1000009 := by rw [← bl_len, hCb]; have := bytesL_le (bl ad); rw [bl_len] at this; omega
    obtain ⟨D, hD⟩ : ∃ D, blob.size - 16 = D := ⟨_, rfl⟩
    have d1 : (blob.size : Int) - 16 = (D : Int) := by omega
    have d2 : (12 : Int) ≤ (D : Int) := by omega
    have d3 : (D : Int) ≤ (blob.size : Int) := by omega
    have d4 : (0 : Int) ≤ (D : Int) := by omega
    have d5 : (12 : Int) ≤ (blob.size : Int) := by omega
    have hNb : bl (blob.extract 0 12) = (bl blob).take 12 := by rw [bl_ext _ _ _ (by omega)]; rfl
    have hXb : bl (blob.extract 12 D) = ((bl blob).drop 12).take ((bl blob).length - 28) := by rw [bl_ext _ _ _ (by omega), bl_len, ← hD]; congr 1
    have hTb : bl (blob.extract D blob.size) = (bl blob).drop ((bl blob).length - 16) := by rw [bl_extract _ _ (by omega), bl_len, ← hD]
    have hNs : (blob.extract 0 12).size = 12 := by rw [← bl_len, hNb, List.length_take, bl_len]; omega
    have hXs : (blob.extract 12 D).size ≤ 1000000 := by rw [← bl_len, hXb, List.length_take, bl_len]; omega
    obtain ⟨G, hG⟩ : ∃ G, txt (tagL (bl M) (bl (blob.extract 0 12)) (bl ad) (bl (blob.extract 12 D))) = G := ⟨_, rfl⟩
    obtain ⟨Y, hY⟩ : ∃ Y, txt (xorL (bl E) 1 (bl (blob.extract 0 12)) (bl (blob.extract 12 D))) = Y := ⟨_, rfl⟩
    have hYs : Y.size ≤ 1000000 := by rw [← hY, txt_size, xorL_len, bl_len]; exact hXs
    obtain ⟨V, hV⟩ : ∃ V, txt (nonceL (bl M) (bl ad) (bl Y)) = V := ⟨_, rfl⟩
    have HBY : Hid (∀ wx, Calls Tryd.prog 64 #[.string ad] wx fun e w' => ∃ v, e = .returned v ∧ (convert 65 9 v).run Tryd.prog w' = .ok (.string C) w' ∧ Below wx.heap.size wx w') := fun wx => by
      refine (bytes_any wx ad (by omega)).mono ?_
      rintro e w' ⟨v, rfl, hR, hB⟩
      exact ⟨v, rfl, by rw [← hC]; exact conv_row hR, hB⟩
    have HC1 : Hid (∀ wx, Below w.heap.size w wx → Calls Tryd.prog 72 #[.string M, .int .i64 12, .slice (some ⟨wx.heap.size, 0, none⟩) 3 3] (wx.alloc (.cells #[.string ⟨#[110, 111, 110, 99, 101]⟩, .string C, .string Y] 9)) fun e w' => e = .returned (.string V) ∧ Below wx.heap.size wx w') := fun wx hB => by
      have h := code3 wx M ⟨#[110, 111, 110, 99, 101]⟩ C Y 12 (by decide) (hK.below hB) (by omega) (by decide) (by omega) (by omega)
      rw [hCb] at h
      rw [← hV]
      exact h
    have HX1 : Hid (∀ wx, Calls Tryd.prog 73 #[.string E, .int .u32 1, .string (blob.extract 0 12), .string (blob.extract 12 D)] wx fun e w' => e = .returned (.tuple #[.string Y, .int .i64 0]) ∧ Below wx.heap.size wx w') := fun wx => by
      have h := xor_any wx E (blob.extract 0 12) (blob.extract 12 D) 1 hEs hNs (by omega)
      rw [hY] at h
      exact h
    have HC2 : Hid (∀ wx, Below w.heap.size w wx → Calls Tryd.prog 72 #[.string M, .int .i64 16, .slice (some ⟨wx.heap.size, 0, none⟩) 4 4] (wx.alloc (.cells #[.string ⟨#[116, 97, 103]⟩, .string (blob.extract 0 12), .string C, .string (blob.extract 12 D)] 9)) fun e w' => e = .returned (.string G) ∧ Below wx.heap.size wx w') := fun wx hB => by
      have h := code4 wx M ⟨#[116, 97, 103]⟩ (blob.extract 0 12) C (blob.extract 12 D) 16 (by decide) (hK.below hB) (by omega) (by decide) (by omega) (by omega) (by omega)
      rw [hCb] at h
      rw [← hG]
      exact h
    have hO : Hid (openL (bl key) (bl ad) (bl blob) = if G = blob.extract D blob.size then (if V = blob.extract 0 12 then (bl Y, 0) else ([], 8)) else ([], 8)) :=
      open_texts (bl key) (bl ad) (bl blob) E M G V (blob.extract 0 12) (blob.extract 12 D) (blob.extract D blob.size) Y (by rw [bl_len]; exact h28) hEb hMb hNb hXb hTb hG hY hV
    have g1 : ∀ wx, (Instr.slice 9 (.string blob) (some (.int .i64 12)) (some (.int .i64 (D : Int))) none).run Tryd.prog wx = .ok (.string (blob.extract 12 D)) wx := fun wx => by
      simp [go_sem, d2, d3]
    clear hE hM hC hD hG hY hV hEb hMb hCb hNb hXb hTb hEs hMs hCs hNs hXs hK hYs
    go_enter Tryd.func51, Tryd.ntmps51
    go_wp2_with (first
      | (go_at_call 71; refine HKEYS.out.mono ?_; rintro e w1 ⟨rfl, hB⟩; have HB1 := Lib.hid hB; clear hB)
      | (go_at_call 64; refine (HBY.out _).mono ?_; rintro e w2 ⟨v2, rfl, hcv2, hB⟩; have HB2 := Lib.hid (HB1.out.trans (hB.mono HB1.out.size)); clear hB)
      | fail)
    go_region
    go_wp2_with fail
    refine wp_region_held_drew (S := (fun _ => True)) (by kernel_rfl) trivial (fun hHeld => ?_)
    refine' wpAnyH_take (i := 0) (v := ?v0A) rfl (by kernel_rfl) (by kernel_rfl) (by kernel_rfl) (fun _ _ _ h => h) (Or.inl ⟨by rfl, ?hy0A⟩) hHeld ?rest0A
    case hy0A => intro w hSw; (try dsimp only at hSw); go_simp; all_goals with_reducible rfl
    try simp only [sA, gA]
    refine' wpAnyH_take (i := 1) (v := ?v1A) rfl (by kernel_rfl) (by kernel_rfl) (by kernel_rfl) (fun _ _ _ h => h) (Or.inl ⟨by rfl, ?hy1A⟩) hHeld ?rest1A
    case hy1A => intro w hSw; (try dsimp only at hSw); go_simp; all_goals with_reducible rfl
    try simp only [sA, gA]
    refine' wpAnyH_take (i := 2) (v := ?v2A) rfl (by kernel_rfl) (by kernel_rfl) (by kernel_rfl) (fun _ _ _ h => h) (Or.inl ⟨by rfl, ?hy2A⟩) hHeld ?rest2A
    case hy2A => intro w hSw; (try dsimp only at hSw); go_simp; all_goals with_reducible rfl
    try simp only [sA, gA]
    refine' wpAnyH_take (i := 3) (v := ?v3A) rfl (by kernel_rfl) (by kernel_rfl) (by kernel_rfl) (fun _ _ _ h => h) (Or.inl ⟨by rfl, ?hy3A⟩) hHeld ?rest3A
    case hy3A => intro w hSw; (try dsimp only at hSw); go_simp; all_goals with_reducible rfl
    try simp only [sA, gA]
    refine' wpAnyH_take (i := 6) (v := ?v6A) rfl (by kernel_rfl) (by kernel_rfl) (by kernel_rfl) (fun _ _ _ h => h) (Or.inl ⟨by rfl, ?hy6A⟩) hHeld ?rest6A
    case hy6A => intro w hSw; (try dsimp only at hSw); go_simp; all_goals with_reducible rfl
    try simp only [sA, gA]
    refine' wpAnyH_take (i := 7) (v := ?v7A) rfl (by kernel_rfl) (by kernel_rfl) (by kernel_rfl) (fun _ _ _ h => h) (Or.inl ⟨by rfl, ?hy7A⟩) hHeld ?rest7A
    case hy7A => intro w hSw; (try dsimp only at hSw); go_simp; all_goals with_reducible rfl
    try simp only [sA, gA]
    refine' wpAnyH_take (i := 8) (v := ?v8A) rfl (by kernel_rfl) (by kernel_rfl) (by kernel_rfl) (fun _ _ _ h => h) (Or.inl ⟨by rfl, ?hy8A⟩) hHeld ?rest8A
    case hy8A => intro w hSw; (try dsimp only at hSw); go_simp; all_goals with_reducible rfl
    try simp only [sA, gA]
    refine wpAnyH_ready (rs := [4]) (by kernel_rfl) (by simp) ?_
    refine AllReadyH.cons rfl (fun K hK => ?_) AllReadyH.nil
    go_simp
    refine hK.out _ _ ?_ (fun hHeld2 => ?_)
    · exact trivial
    clear hK K hHeld
    have hHeld := hHeld2
    clear hHeld2
    try simp only [sA, gA]
    refine wpAnyH_ready (rs := [5]) (by kernel_rfl) (by simp) ?_
    refine AllReadyH.cons rfl (fun K hK => ?_) AllReadyH.nil
    go_simp
    go_at_call 72
    refine (HC2.out _ (by first | exact HB2.out.drew.drew | exact HB2.out.drew | exact HB2.out)).mono ?_
    rintro e w9 ⟨rfl, hB9⟩
    have HB9 := Lib.hid (HB2.out.drew.drew.trans (hB9.mono HB2.out.size))
    clear hB9
    go_wp2_with fail
    refine hK.out _ _ ?_ (fun hHeld2 => ?_)
    · exact trivial
    clear hK K hHeld
    have hHeld := hHeld2
    clear hHeld2
    try simp only [sA, gA]
    refine' wpAnyH_take (i := 9) (v := ?v9A) rfl (by kernel_rfl) (by kernel_rfl) (by kernel_rfl) (fun _ _ _ h => h) (Or.inl ⟨by rfl, ?hy9A⟩) hHeld ?rest9A
    case hy9A => intro w hSw; (try dsimp only at hSw); go_simp; all_goals with_reducible rfl
    try simp only [sA, gA]
    refine wpAnyH_done (by kernel_rfl) ?_ _
    clear hHeld
    by_cases hGT : G = blob.extract D blob.size
    · have t1 : (!G.toList == (blob.extract D blob.size).toList) = false := by rw [text_eq hGT]; rfl
      rw [if_pos hGT] at hO
      rw [t1]
      by_cases hVN : V = blob.extract 0 12
      · have t2 : Hid ((!V.toList == (blob.extract 0 12).toList) = false) := by unfold Hid; exact (by rw [text_eq hVN]; rfl)
        rw [if_pos hVN] at hO
        have hOH := Lib.hid hO
        have hY : Hid (txt (bl Y) = Y) := txt_bl Y
        clear hGT hVN hO
        go_upto_if 71 with (first
        | (go_at_call 73; refine (HX1.out _).mono ?_; rintro e w10 ⟨rfl, hB⟩; have HB10 := Lib.hid (HB9.out.trans (hB.mono HB9.out.size)); clear hB)
        | (go_at_call 72; refine (HC1.out _ HB10.out).mono ?_; rintro e w11 ⟨rfl, hB⟩; have HB11 := Lib.hid (HB10.out.trans (hB.mono HB10.out.size)); clear hB)
        | fail)
        rw [t2.out]
        go_wp2_with fail
        go_ret2
        exact ⟨by rw [hOH.out.out]; show _ = Ending.returned (.tuple #[.string (txt (bl Y)), _]); rw [hY.out]; rfl, HB11.out⟩
      · have t2 : Hid ((!V.toList == (blob.extract 0 12).toList) = true) := by unfold Hid; exact (by rw [text_ne hVN]; rfl)
        rw [if_neg hVN] at hO
        have hOH := Lib.hid hO
        clear hGT hVN hO
        go_upto_if 71 with (first
        | (go_at_call 73; refine (HX1.out _).mono ?_; rintro e w10 ⟨rfl, hB⟩; have HB10 := Lib.hid (HB9.out.trans (hB.mono HB9.out.size)); clear hB)
        | (go_at_call 72; refine (HC1.out _ HB10.out).mono ?_; rintro e w11 ⟨rfl, hB⟩; have HB11 := Lib.hid (HB10.out.trans (hB.mono HB10.out.size)); clear hB)
        | fail)
        rw [t2.out]
        go_wp2_with fail
        go_ret2
        exact ⟨by rw [hOH.out.out]; rfl, HB11.out⟩
    · have t1 : (!G.toList == (blob.extract D blob.size).toList) = true := by rw [text_ne hGT]; rfl
      rw [if_neg hGT] at hO
      rw [t1]
      have hOH := Lib.hid hO
      clear hGT hO
      go_wp2_with fail
      go_ret2
      exact ⟨by rw [hOH.out.out]; rfl, HB9.out⟩
end Go.Proofs.YtbhagfdkipgggaaDoor
namespace Go.Proofs.YtbhagfdkipgggaaDoor
open Go.RowKit Go.Shelf
def bor (x y : UInt8) : UInt8 := x ||| y
theorem b_or_fin (x y : UInt8) : bits .or .u8 (x.toNat : Int) (y.toNat : Int) = ((bor x y).toNat : Int) := by
  unfold bor
  rw [UInt8.toNat_or]
  exact u8_or_nat _ _ x.toNat_lt y.toNat_lt
attribute [local go_sem] Oper.semAt_some b_or_fin b_xor_fin
/-- The differences of the first bytes. -/
def difN (a b : List UInt8) : Nat → UInt8
  | 0 => 0
  | t + 1 => bor (difN a b t) (bxor (a.getD t 0) (b.getD t 0))
theorem bor_zero (x y : UInt8) : bor x y = 0 ↔ x = 0 ∧ y = 0 := by
  unfold bor
  constructor
  · intro h
    have h2 := congrArg UInt8.toNat h
    rw [UInt8.toNat_or] at h2
    have h3 : x.toNat ||| y.toNat = 0 := h2
    exact ⟨UInt8.toNat_inj.1 (Nat.or_eq_zero_iff.1 h3).1, UInt8.toNat_inj.1 (Nat.or_eq_zero_iff.1 h3).2⟩
  · rintro ⟨rfl, rfl⟩
    rfl
theorem bxor_zero (x y : UInt8) : bxor x y = 0 ↔ x = y := by
  constructor
  · intro h
    have h2 := bxor_twice x y
    rw [h] at h2
    unfold bxor at h2
    rw [UInt8.zero_xor] at h2
    exact h2.symm
  · rintro rfl
    unfold bxor
    exact UInt8.xor_self
theorem difN_zero (a b : List UInt8) : ∀ t, difN a b t = 0 ↔ ∀ i, i < t → a.getD i 0 = b.getD i 0
  | 0 => ⟨fun _ i hi => absurd hi (Nat.not_lt_zero _), fun _ => rfl⟩
  | t + 1 => by
    unfold difN
    rw [bor_zero, bxor_zero, difN_zero a b t]
    constructor
    · rintro ⟨h1, h2⟩ i hi
      rcases Nat.lt_succ_iff_lt_or_eq.1 hi with h | h
      · exact h1 i h
      · rw [h]; exact h2
    · exact fun h => ⟨fun i hi => h i (Nat.lt_succ_of_lt hi), h t (Nat.lt_succ_self t)⟩
theorem difN_eq (a b : List UInt8) (hl : a.length = b.length) : difN a b a.length = 0 ↔ a = b := by
  rw [difN_zero]
  constructor
  · intro h
    apply List.ext_getElem? 
    intro i
    by_cases hi : i < a.length
    · have h2 := h i hi
      rw [List.getD_eq_getElem?_getD, List.getD_eq_getElem?_getD, List.getElem?_eq_getElem hi, List.getElem?_eq_getElem (by omega : i < b.length)] at h2
      rw [List.getElem?_eq_getElem hi, List.getElem?_eq_getElem (by omega : i < b.length)]
      exact congrArg some h2
    · rw [List.getElem?_eq_none (by omega), List.getElem?_eq_none (by omega)]
  · rintro rfl i _
    rfl
set_option maxRecDepth 100000 in
set_option maxHeartbeats 1600000 in
theorem equal_any (w : World) (a b : ByteArray) (hb : b.size < 4611686018427387904) :
    Calls Tryd.prog 43 #[.string a, .string b] w fun e w' => e = .returned (.bool (decide (a = b))) ∧ Below w.heap.size w w' := by
  by_cases hs : a.size = b.size
  · have ha : a.size < 4611686018427387904 := by omega
    have s1 : ((a.size : Int) != (b.size : Int)) = false := by rw [hs]; exact bne_self_eq_false _
    clear hb
    obtain ⟨n, hn⟩ : ∃ n, a.size = n := ⟨_, rfl⟩
    have hnb : b.size = n := by rw [← hs, hn]
    have hla : (bl a).length = n := by rw [bl_len, hn]
    have hlb : (bl b).length = n := by rw [bl_len, hnb]
    have hfin : Hid (difN (bl a) (bl b) n = 0 ↔ a = b) := by
      have h := difN_eq (bl a) (bl b) (by rw [hla, hlb])
      rw [hla] at h
      exact h.trans ⟨bl_inj, fun h => congrArg bl h⟩
    have hx : Hid (∀ t, t < n → ∃ x y, (bl a)[t]? = some x ∧ (bl b)[t]? = some y ∧ difN (bl a) (bl b) (t + 1) = bor (difN (bl a) (bl b) t) (bxor x y)) := fun t ht => by
      have h1 := List.getElem?_eq_getElem (l := bl a) (i := t) (by omega)
      have h2 := List.getElem?_eq_getElem (l := bl b) (i := t) (by omega)
      refine ⟨_, _, h1, h2, ?_⟩
      show bor _ (bxor ((bl a).getD t 0) ((bl b).getD t 0)) = _
      rw [List.getD_eq_getElem?_getD, List.getD_eq_getElem?_getD, h1, h2]
      rfl
    have hnH := Lib.hid hn
    have h0 : Hid (difN (bl a) (bl b) 0 = 0) := rfl
    generalize difN (bl a) (bl b) = F at *
    clear hs hla hlb
    go_enter Tryd.func43, Tryd.ntmps43
    go_wp2_with fail
    have hF0 : Value.int IntKind.u8 0 = .int .u8 ((F 0).toNat : Int) := by rw [h0.out]; rfl
    go_loopw [5, 14] (fun p q wr => ∃ t : Nat, q = .int .i64 t ∧ p = .int .u8 ((F t).toNat : Int) ∧ Hid (t ≤ n) ∧ Hid (Below w.heap.size w wr)) (fun _ q _ => n - (intOf q).toNat)
    case atStart => exact ⟨0, rfl, hF0, Nat.zero_le _, Below.refl _ w⟩
    case round =>
      clear hF0
      obtain ⟨t, rfl, rfl, ht, hB⟩ := hrel
      by_cases hlt : t < n
      · have d1 : decide (t < n) = true := decide_eq_true hlt
        have d2 : decide ((t : Int) < (n : Int)) = true := decide_eq_true (by omega)
        obtain ⟨x, y, h1, h2, h3⟩ := hx.out t hlt
        have i1 := fun wx => text_index wx a t x h1
        have i2 := fun wx => text_index wx b t y h2
        have o1 := b_or_fin (F t) (bxor x y)
        have o2 := b_xor_fin x y
        have h3H := Lib.hid h3
        have hltH := Lib.hid hlt
        have hB2 := Lib.hid hB.out.drew
        clear h1 h2 h3
        go_wp2_with fail
        go_region
        go_wp2_with fail
        refine ⟨⟨t + 1, by go_num, by rw [h3H.out], hltH.out, hB2⟩, ?_⟩
        have := hltH.out
        simp [intOf]
        omega
      · have d1 : decide (t < n) = false := decide_eq_false hlt
        have d2 : decide ((t : Int) < (n : Int)) = false := decide_eq_false (by omega)
        have et : t = n := Nat.le_antisymm ht (Nat.le_of_not_lt hlt)
        have hd : Hid ((((F t).toNat : Int) == 0) = decide (a = b)) := by
          unfold Hid
          rw [et]
          by_cases e : a = b
          · rw [decide_eq_true e, hfin.out.2 e]
            rfl
          · rw [decide_eq_false e, beq_eq_false_iff_ne]
            intro h
            apply e
            apply hfin.out.1
            apply UInt8.toNat_inj.1
            have : ((F n).toNat : Int) = 0 := h
            show (F n).toNat = 0
            omega
        clear et hlt
        go_wp2_with fail
        go_ret
        refine ⟨?_, hB.out⟩
        rw [← hd.out]
        rfl
  · have s1 : ((a.size : Int) != (b.size : Int)) = true := by rw [bne_iff_ne]; omega
    clear hb
    have hne : decide (a = b) = false := decide_eq_false (fun e => hs (by rw [e]))
    rw [hne]
    clear hne
    go_enter Tryd.func43, Tryd.ntmps43
    go_wp2_with fail
    go_ret
    exact ⟨rfl, Below.refl _ w⟩
end Go.Proofs.YtbhagfdkipgggaaDoor
