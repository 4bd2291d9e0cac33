import Derived.Test.YtpghocekofdpbaaGreatDoorQa03
import Derived.Test.YtpghocekofdpbaaGreatDoorQa34
import Derived.Deep.CutRange
import Derived.Deep.CutBlock
import Derived.Test.YtpghocekofdpbaaGreatDoorQa28
import Derived.Test.YtpghocekofdpbaaGreatDoorQa32
namespace Go.Proofs.YtpghocekofdpbaaGreatDoor
open Go.RowKit Go.Shelf
attribute [local go_sem] Oper.semAt_some w_add w_add' b_xor_fin
theorem xorL_at (k : List UInt8) (c : UInt32) (n t : List UInt8) (i : Nat) (x : UInt8) (h : t[i]? = some x) : (xorL k c n t)[i]? = some (bxor x ((blockL k (ctrN c (i / 64)) n).getD (i % 64) 0)) := by
 unfold xorL
 rw [List.getElem?_mapIdx, h]
 rfl
theorem bytes_index (w : World) (g n c t : Nat) (h : t < n) : (Instr.indexAt 66 (.slice (some ⟨g, 0, none⟩) n c) (.int .i64 t)).run Tryz.prog w = .ok (.pointer (some ⟨g, t, none⟩)) w := by
 have d1 : (0 : Int) <= (t : Int) := by omega
 have d2 : (t : Int) < (n : Int) := by omega
 simp [go_sem, d1, d2]
set_option maxRecDepth 100000 in
set_option maxHeartbeats 3200000 in
theorem xor_any (w : World) (key nonce text : ByteArray) (c : UInt32) (hk : key.size = 32) (hn : nonce.size = 12) (ht : text.size < 10000000000) :
  Calls Tryz.prog 122 #[.string key, u32v c, .string nonce, .string text] w fun e w' => e = .returned (.tuple #[.string (txt (xorL (bl key) c (bl nonce) (bl text))), .int .i64 0]) /\ Below w.heap.size w w' := by
 have HST := Lib.hid (state_any w key nonce c hk hn)
 have HBL : Hid (∀ wx C, Calls Tryz.prog 153 #[.string key, u32v C, .string nonce] wx fun e w' => e = .returned (.tuple #[.string (txt (blockL (bl key) C (bl nonce))), .int .i64 0]) /\ Below wx.heap.size wx w') := fun wx C => block_any wx key nonce C hk hn
 have hSl : Hid ((stateL (bl key) c (bl nonce)).length = 16) := stateL_len _ _ _
 clear hk hn
 generalize stateL (bl key) c (bl nonce) = S at *
 have hDl : Hid ((S.map u32v).length = 16) := by unfold Hid; rw [List.length_map]; exact hSl.out
 have hone := Lib.hid (all_oneCell_toArray (u32V_one S))
 go_enter Tryz.func122, Tryz.ntmps122
 go_upto_region 4 with (first | (go_at_call 152; refine HST.out.mono ?_; rintro e w1 ⟨rfl, hB1⟩; have HB1 := Lib.hid hB1; clear hB1) | (refine wpList_store_mid rfl 211 _ _ rfl w1.heap.size 0 (S.map u32v).toArray rfl rfl (there_of_blk (o := 0) (Blk.new w1 211 z16) (by rw [List.size_toArray, hDl.out]; exact Nat.le_refl _)) (by rw [List.size_toArray, hDl.out]; exact infoA16) hone.out ?_) | fail)
 try simp only [sA]
 refine world_is (P := fun W => Code.wp _ _ _ _ W) (fun W2 hW2 => ?_)
 have hbel : Hid (Below w.heap.size w W2) := by unfold Hid; rw [<- hW2]; exact below_setCells HB1.out.size _ 0 _ (HB1.out.alloc HB1.out.size _)
 clear hW2 HB1 HST hone hDl hSl
 obtain ⟨cc, W3, hcv, hX, hB3, hs3⟩ := conv_textX W2 text
 have hbel3 := Lib.hid (hbel.out.trans (hB3.mono hbel.out.size))
 have hXH : Hid (XAt W3 W2.heap.size ((xorL (bl key) c (bl nonce) (bl text)).take 0 ++ (bl text).drop 0)) := hX
 have hge : Hid (w.heap.size <= W2.heap.size) := hbel.out.size
 clear hX hB3 hs3
 obtain ⟨n, hn⟩ : ∃ n, text.size = n := ⟨_, rfl⟩
 rw [hn] at hcv ht
 have hnH := Lib.hid hn
 go_wp2_with fail
 obtain ⟨ob, hob⟩ : ∃ ob, W2.heap.size = ob := ⟨_, rfl⟩
 rw [hob] at hXH hge ⊢
 have hl2 : Hid ((bl text).length = n) := by unfold Hid; rw [bl_len]; exact hn
 have hl1 : Hid ((xorL (bl key) c (bl nonce) (bl text)).length = n) := by unfold Hid; rw [xorL_len]; exact hl2.out
 have hat : Hid (∀ i x, (bl text)[i]? = some x -> (xorL (bl key) c (bl nonce) (bl text))[i]? = some (bxor x ((blockL (bl key) (ctrN c (i / 64)) (bl nonce)).getD (i % 64) 0))) := fun i x h => xorL_at _ _ _ _ i x h
 generalize hL1 : xorL (bl key) c (bl nonce) (bl text) = L1 at *
 generalize hL2 : bl text = L2 at *
 have hL2H := Lib.hid hL2
 have hL1H := Lib.hid hL1
 clear hob hL1 hn hcv hL2
 go_loopw [1, 13, 29] (fun cv bv q wr => ∃ (t : Nat) (b : ByteArray), q = .int .i64 t /\ cv = u32v (ctrN c ((t + 63) / 64)) /\ bv = .string b /\ Hid (t <= n) /\ Hid (t % 64 ≠ 0 -> bl b = blockL (bl key) (ctrN c (t / 64)) (bl nonce)) /\ Hid (XAt wr ob (L1.take t ++ L2.drop t)) /\ Hid (Below w.heap.size w wr)) (fun _ _ q _ => n - (intOf q).toNat)
 case atStart => exact ⟨0, ⟨#[]⟩, rfl, rfl, rfl, Nat.zero_le _, fun h => absurd rfl h, hXH, hbel3⟩
 case round =>
  clear hXH hbel3
  obtain ⟨t, b, rfl, rfl, rfl, htn, hb, hX, hB⟩ := hrel
  by_cases hlt : t < n
  ·have d1 : decide (t < n) = true := decide_eq_true hlt
   have d2 : decide ((t : Int) < (n : Int)) = true := decide_eq_true (by omega)
   obtain ⟨r, hr⟩ : ∃ r, t % 64 = r := ⟨_, rfl⟩
   have m1 : (t : Int) % 64 = (r : Int) := by omega
   have hrl : r < 64 := by omega
   have hltH := Lib.hid hlt
   have hrH := Lib.hid hr
   obtain ⟨C, hC⟩ : ∃ C, ctrN c ((t + 63) / 64) = C := ⟨_, rfl⟩
   have hCH := Lib.hid hC
   rw [hC]
   clear hr hC
   go_upto_if 34 with fail
   go_cut [1, 13] from 32 to 43 (fun cv bv wx => ∃ (b2 : ByteArray), cv = u32v (ctrN c ((t + 1 + 63) / 64)) /\ bv = .string b2 /\ Hid (bl b2 = blockL (bl key) (ctrN c (t / 64)) (bl nonce)) /\ Hid (Below wr.heap.size wr wx))
   case first =>
    by_cases h0 : r = 0
    ·have e0 : ((r : Int) == 0) = true := by rw [h0]; rfl
     have hC2 : Hid (ctrN c (t / 64) = C) := by
      have h1 := hrH.out
      have h2 := hCH.out
      unfold Hid
      rw [<- h2]
      congr 1
      omega
     have hC3 : Hid (wadd C 1 = ctrN c ((t + 1 + 63) / 64)) := by
      have h1 := hrH.out
      unfold Hid
      rw [show (t + 1 + 63) / 64 = t / 64 + 1 by omega]
      show wadd C 1 = wadd (ctrN c (t / 64)) 1
      rw [hC2.out]
     have ha := w_add C 1
     have ha' := w_add' C 1
     go_wp2_with (first | (go_at_call 153; refine (HBL.out _ C).mono ?_; rintro e w9 ⟨rfl, hB9⟩; have HB9 := Lib.hid hB9; clear hB9) | fail)
     have hv : Value.int IntKind.u32 (((C.toNat : Int) + 1) % 4294967296) = u32v (ctrN c ((t + 1 + 63) / 64)) := by
      rw [<- hC3.out]
      exact congrArg _ (w_add' C 1)
     have hb2 : Hid (bl (txt (blockL (bl key) C (bl nonce))) = blockL (bl key) (ctrN c (t / 64)) (bl nonce)) := by unfold Hid; rw [hC2.out]; rfl
     go_meet
     exact ⟨_, hv, rfl, hb2, HB9⟩
    ·have e0 : ((r : Int) == 0) = false := by rw [beq_eq_false_iff_ne]; omega
     have hC3 : Hid (C = ctrN c ((t + 1 + 63) / 64)) := by
      have h1 := hrH.out
      have h2 := hCH.out
      unfold Hid
      rw [<- h2]
      congr 1
      omega
     have hb2 : Hid (bl b = blockL (bl key) (ctrN c (t / 64)) (bl nonce)) := hb.out (by rw [hrH.out]; exact h0)
     go_wp2_with fail
     have hv : u32v C = u32v (ctrN c ((t + 1 + 63) / 64)) := by rw [<- hC3.out]
     go_meet
     exact ⟨_, hv, rfl, hb2, (Below.refl wr.heap.size wr)⟩
   case rest =>
    obtain ⟨b2, rfl, rfl, hb2, hB2⟩ := hcut
    have hXc := Lib.hid (hX.out.below hB2.out)
    have hBc := Lib.hid (hB.out.trans (hB2.out.mono hB.out.size))
    clear hX hB hb hB2
    obtain ⟨y, hy⟩ : ∃ y, L2[t]? = some y := ⟨_, List.getElem?_eq_getElem (by rw [hl2.out]; exact hlt)⟩
    have cy : wc.cell? ⟨ob, t, none⟩ = some (.int .u8 (y.toNat : Int)) := hXc.out.cell t y (turn_at (by rw [hl1.out, hl2.out]) y hy)
    have fy := hXc.out.frozen t (by rw [List.length_append, List.length_take, List.length_drop, hl1.out, hl2.out]; omega)
    obtain ⟨z, hz⟩ : ∃ z, (bl b2)[r]? = some z := ⟨_, List.getElem?_eq_getElem (by rw [hb2.out, blockL_len]; exact hrl)⟩
    have hti := fun wx => text_index wx b2 r z hz
    have hbi := fun wx => bytes_index wx ob n cc t hlt
    have m2 : (t : Int).tmod 64 = (r : Int) := by rw [Int.tmod_eq_emod_of_nonneg (by omega)]; exact m1
    have hxz : L1[t]? = some (bxor y z) := by
     rw [hat.out t y hy, hrH.out, <- hb2.out, List.getD_eq_getElem?_getD, hz]
     rfl
    have hXn : Hid (XAt (wc.setCell ⟨ob, t, none⟩ (byteV (bxor y z))) ob (L1.take (t + 1) ++ L2.drop (t + 1))) := by
     have h := hXc.out.set_ t (by rw [List.length_append, List.length_take, List.length_drop, hl1.out, hl2.out]; omega) (bxor y z)
     rw [turn_list (by rw [hl1.out, hl2.out]) _ hxz] at h
     exact h
    have hBn := Lib.hid (hBc.out.setCell (p := ⟨ob, t, none⟩) hge.out (byteV (bxor y z)) |>.drew)
    have hbn : Hid ((t + 1) % 64 ≠ 0 -> bl b2 = blockL (bl key) (ctrN c ((t + 1) / 64)) (bl nonce)) := fun h => by
     rw [hb2.out]
     have := hrH.out
     rw [show (t + 1) / 64 = t / 64 by omega]
    have hxf := b_xor_fin y z
    clear hy hz hxz hXc hBc hb2
    go_wp2_with fail
    refine wp_region_last (S := (fun w' => w'.cell? ⟨ob, t, none⟩ = some (.int .u8 (y.toNat : Int)))) 10 (by kernel_rfl) cy (fun hHeld => ?_)
    refine' wkt (i := 0) (v := ?v0A) rfl (Or.inl ⟨by rfl, ?hy0A⟩) hHeld ?rest0A
    case hy0A => intro w hSw; (try dsimp only at hSw); go_simp; all_goals with_reducible rfl
    try simp only [sA, gA]
    refine' wkt (i := 1) (v := ?v1A) rfl (Or.inl ⟨by rfl, ?hy1A⟩) hHeld ?rest1A
    case hy1A => intro w hSw; (try dsimp only at hSw); go_simp; all_goals with_reducible rfl
    try simp only [sA, gA]
    refine' wkt (i := 2) (v := ?v2A) rfl (Or.inl ⟨by rfl, ?hy2A⟩) hHeld ?rest2A
    case hy2A => intro w hSw; (try dsimp only at hSw); go_simp; all_goals with_reducible rfl
    try simp only [sA, gA]
    refine' wkt (i := 3) (v := ?v3A) rfl (Or.inl ⟨by rfl, ?hy3A⟩) hHeld ?rest3A
    case hy3A => intro w hSw; (try dsimp only at hSw); go_simp; all_goals with_reducible rfl
    try simp only [sA, gA]
    refine' wkt (i := 4) (v := ?v4A) rfl (Or.inl ⟨by rfl, ?hy4A⟩) hHeld ?rest4A
    case hy4A => intro w hSw; (try dsimp only at hSw); go_simp; all_goals with_reducible rfl
    try simp only [sA, gA]
    refine' wkt (i := 5) (v := ?v5A) rfl (Or.inl ⟨by rfl, ?hy5A⟩) hHeld ?rest5A
    case hy5A => intro w hSw; (try dsimp only at hSw); go_simp; all_goals with_reducible rfl
    try simp only [sA, gA]
    refine' wkt (i := 6) (v := ?v6A) rfl (Or.inl ⟨by rfl, ?hy6A⟩) hHeld ?rest6A
    case hy6A => intro w hSw; (try dsimp only at hSw); go_simp; all_goals with_reducible rfl
    try simp only [sA, gA]
    refine' wkt (i := 7) (v := ?v7A) rfl (Or.inl ⟨by rfl, ?hy7A⟩) hHeld ?rest7A
    case hy7A => intro w hSw; (try dsimp only at hSw); go_simp; all_goals with_reducible rfl
    try simp only [sA, gA]
    refine' wkt (i := 8) (v := ?v8A) rfl (Or.inl ⟨by rfl, ?hy8A⟩) hHeld ?rest8A
    case hy8A => intro w hSw; (try dsimp only at hSw); go_simp; all_goals with_reducible rfl
    try simp only [sA, gA]
    refine' wkt (i := 9) (v := ?v9A) rfl (Or.inl ⟨by rfl, ?hy9A⟩) hHeld ?rest9A
    case hy9A => intro w hSw; (try dsimp only at hSw); go_simp; all_goals with_reducible rfl
    try simp only [sA, gA]
    refine wpAnyK_ready (rs := [10]) (by kernel_rfl) (by simp) ?_
    refine AllReadyK.last rfl (fun K hK => ?_)
    go_simp
    refine hK.out _ _ ?_
    clear hK K
    try simp only [sA, gA]
    refine wpAnyK_done (by kernel_rfl) ?_ _
    clear hHeld
    go_wp2_with fail
    refine ⟨⟨t + 1, b2, by go_num, rfl, rfl, hltH.out, hbn, hXn, hBn⟩, ?_⟩
    have := hltH.out
    simp [intOf]
    omega
  ·have d1 : decide (t < n) = false := decide_eq_false hlt
   have d2 : decide ((t : Int) < (n : Int)) = false := decide_eq_false (by omega)
   have en : t = n := Nat.le_antisymm htn (Nat.le_of_not_lt hlt)
   have hcv : (convert 66 9 (.slice (some ⟨ob, 0, none⟩) n cc)).run Tryz.prog wr = .ok (.string (txt L1)) wr := by
    have h := hX.out
    rw [en, List.take_of_length_le (Nat.le_of_eq hl1.out), List.drop_of_length_le (Nat.le_of_eq hl2.out), List.append_nil] at h
    have h2 := conv_bytes (c := cc) h.bytesAt
    rw [hl1.out] at h2
    exact h2
   clear en hlt hX
   go_wp2_with fail
   go_ret2
   exact ⟨by rw [hL2H.out, hL1H.out]; rfl, hB.out⟩
end Go.Proofs.YtpghocekofdpbaaGreatDoor
namespace Go.Proofs.YtpghocekofdpbaaGreatDoor
def encK (k : List UInt8) : List UInt8 := macL k [101, 110, 99]
def macK (k : List UInt8) : List UInt8 := macL k [109, 97, 99]
def nonceL (m ad t : List UInt8) : List UInt8 := (macL m ([110, 111, 110, 99, 101] ++ bytesL ad ++ t)).take 12
def tagL (m n ad c : List UInt8) : List UInt8 := (macL m ([116, 97, 103] ++ n ++ bytesL ad ++ c)).take 16
theorem nonceL_len (m ad t : List UInt8) : (nonceL m ad t).length = 12 := by unfold nonceL; rw [List.length_take, macL_len]; rfl
theorem tagL_len (m n ad c : List UInt8) : (tagL m n ad c).length = 16 := by unfold tagL; rw [List.length_take, macL_len]; rfl
def sealL (k ad t : List UInt8) : List UInt8 :=
 let n := nonceL (macK k) ad t
 let c := xorL (encK k) 1 n t
 n ++ c ++ tagL (macK k) n ad c
theorem sealL_len (k ad t : List UInt8) : (sealL k ad t).length = t.length + 28 := by
 unfold sealL
 simp only [List.length_append, nonceL_len, tagL_len, xorL_len]
 omega
def openL (k ad b : List UInt8) : List UInt8 × Nat :=
 if b.length < 28 then ([], 5) else
 let n := b.take 12
 let c := (b.drop 12).take (b.length - 28)
 if tagL (macK k) n ad c = b.drop (b.length - 16) then
  let t := xorL (encK k) 1 n c
  if nonceL (macK k) ad t = n then (t, 0) else ([], 8)
 else ([], 8)
theorem open_seal (k ad t : List UInt8) : openL k ad (sealL k ad t) = (t, 0) := by
 unfold openL
 have hl := sealL_len k ad t
 rw [if_neg (by omega)]
 have hn := nonceL_len (macK k) ad t
 have e1 : (sealL k ad t).take 12 = nonceL (macK k) ad t := by
  unfold sealL
  simp only [List.append_assoc]
  rw [List.take_append_of_le_length (by omega), List.take_of_length_le (by omega)]
 have e2 : (sealL k ad t).drop 12 = xorL (encK k) 1 (nonceL (macK k) ad t) t ++ tagL (macK k) (nonceL (macK k) ad t) ad (xorL (encK k) 1 (nonceL (macK k) ad t) t) := by
  unfold sealL
  simp only [List.append_assoc]
  rw [List.drop_append_of_le_length (by omega), List.drop_of_length_le (by omega), List.nil_append]
 have e3 : ((sealL k ad t).drop 12).take ((sealL k ad t).length - 28) = xorL (encK k) 1 (nonceL (macK k) ad t) t := by
  rw [e2, hl, Nat.add_sub_cancel, List.take_append_of_le_length (by rw [xorL_len]; exact Nat.le_refl _), List.take_of_length_le (by rw [xorL_len]; exact Nat.le_refl _)]
 have e4 : (sealL k ad t).drop ((sealL k ad t).length - 16) = tagL (macK k) (nonceL (macK k) ad t) ad (xorL (encK k) 1 (nonceL (macK k) ad t) t) := by
  have h : (sealL k ad t).length - 16 = 12 + t.length := by omega
  rw [h, <- List.drop_drop, e2, List.drop_append_of_le_length (by rw [xorL_len]; exact Nat.le_refl _), List.drop_of_length_le (by rw [xorL_len]; exact Nat.le_refl _), List.nil_append]
 simp only [e1, e3, e4, if_true, xorL_twice]
end Go.Proofs.YtpghocekofdpbaaGreatDoor
