/-
  The cipher's specification: a block of the key stream, its walk.
  Bytes in an owned row: one append, as it stands alone in a region that draws its order.
  The cipher's specification: a text with the key stream, its walk.
  The seal's specification: keys, nonce, tag, their walks.
-/
import Derived.Test.YtbhagfdkipgggaaDoorMW
import Derived.Test.YtbhagfdkipgggaaDoorMF
import Derived.Test.YtbhagfdkipgggaaDoorMB
import Derived.Test.YtbhagfdkipgggaaDoorMU
import Derived.Test.YtbhagfdkipgggaaDoorMG
namespace Go.Proofs.YtbhagfdkipgggaaDoor
open Go.RowKit Go.Shelf
attribute [local go_sem] Oper.semAt_some w_add w_add'
theorem wadd_comm (x y : UInt32) : wadd x y = wadd y x := UInt32.add_comm x y
set_option maxRecDepth 100000 in
set_option maxHeartbeats 3200000 in
theorem rblock_any (w : World) (key nonce : ByteArray) (c : UInt32) (hk : key.size = 32) (hn : nonce.size = 12) :
    Calls Tryd.prog 93 #[.string key, u32v c, .string nonce] w fun e w' => e = .returned (.tuple #[.string (txt (blockL (bl key) c (bl nonce))), .int .i64 0]) ∧ Below w.heap.size w w' := by
  have HST := Lib.hid (rstate_any w key nonce c hk hn)
  have hSl : Hid ((stateL (bl key) c (bl nonce)).length = 16) := stateL_len _ _ _
  have hfin : Hid (blockL (bl key) c (bl nonce) = outTo (stateL (bl key) c (bl nonce)) 16) := rfl
  clear hk hn
  generalize stateL (bl key) c (bl nonce) = S at *
  have hDl : Hid ((S.map u32v).length = 16) := by unfold Hid; rw [List.length_map]; exact hSl.out
  have hDo : Hid (∀ v ∈ S.map u32v, v.oneCell' = true) := u32V_one _
  have hone := Lib.hid (all_oneCell_toArray hDo.out)
  have hTl : Hid (((rndN S 10).map u32v).length = 16) := by unfold Hid; rw [List.length_map, rndN_len]; exact hSl.out
  have htwo := Lib.hid (all_oneCell_toArray (u32V_one (rndN S 10)))
  have HR : Hid (∀ wx, Calls Tryd.prog 108 #[.agg (S.map u32v).toArray] wx fun e w' => e = .returned (.agg ((rndN S 10).map u32v).toArray) ∧ Below wx.heap.size wx w') := fun wx => rrounds_any wx S hSl.out
  go_enter Tryd.func93, Tryd.ntmps93
  go_upto_region 2 with (first | (go_at_call 92; refine HST.out.mono ?_; rintro e w1 ⟨rfl, hB1⟩; have HB1 := Lib.hid hB1; clear hB1) | (refine wpList_store_mid rfl 122 _ _ rfl w1.heap.size 0 (S.map u32v).toArray rfl rfl (there_of_blk (o := 0) (Blk.new w1 122 z16) (by rw [List.size_toArray, hDl.out]; exact Nat.le_refl _)) (by rw [List.size_toArray, hDl.out]; exact infoA16) hone.out ?_) | fail)
  try simp only [Act.put, List.setIfInBounds_toArray, List.set_cons_zero, List.set_cons_succ]
  refine world_is (P := fun W => Code.wp _ _ _ _ W) (fun W2 hW2 => ?_)
  have hst : Hid (Blk W2 w1.heap.size 122 (S.map u32v).toArray) := by unfold Hid; rw [← hW2]; exact blk_setWhole (Blk.new w1 122 z16) (S.map u32v) (by rw [hDl.out]; rfl)
  have hbel : Hid (Below w.heap.size w W2) := by unfold Hid; rw [← hW2]; exact below_setCells HB1.out.size _ 0 _ (HB1.out.alloc HB1.out.size _)
  obtain ⟨sb, hsb⟩ : ∃ sb, w1.heap.size = sb := ⟨_, rfl⟩
  rw [hsb] at hst ⊢
  clear hW2 hsb HB1 HST hone
  have hrg := range_of_blk hst.out
  go_upto_region 5 with (first
    | (go_at_call 108; refine (HR.out _).mono ?_; rintro e w3 ⟨rfl, hB3⟩; have hst3 := Lib.hid (hst.out.below hB3 hst.out.lt); have hbel3 := Lib.hid (hbel.out.trans (hB3.mono hbel.out.size)); clear hB3)
    | (refine wpList_load_mid rfl 122 _ rfl sb 0 rfl (S.map u32v) _ hrg Tryd.underlying122 rfl (by rw [hDl.out]; exact infoA16) ?_)
    | (refine wpList_store_mid rfl 122 _ _ rfl w3.heap.size 0 ((rndN S 10).map u32v).toArray rfl rfl (there_of_blk (o := 0) (Blk.new w3 122 z16) (by rw [List.size_toArray, hTl.out]; exact Nat.le_refl _)) (by rw [List.size_toArray, hTl.out]; exact infoA16) htwo.out ?_)
    | fail)
  try simp only [Act.put]
  refine world_is (P := fun W => Code.wp _ _ _ _ W) (fun W4 hW4 => ?_)
  have htt : Hid (Blk W4 w3.heap.size 122 ((rndN S 10).map u32v).toArray) := by unfold Hid; rw [← hW4]; exact blk_setWhole (Blk.new w3 122 z16) ((rndN S 10).map u32v) (by rw [hTl.out]; rfl)
  have hBx : Below w3.heap.size w3 W4 := by rw [← hW4]; exact below_setCells (Nat.le_refl _) _ 0 _ ((Below.refl _ w3).alloc (Nat.le_refl _) _)
  have hst4 := Lib.hid (hst3.out.below hBx hst3.out.lt)
  have hbel4 := Lib.hid (hbel3.out.trans (hBx.mono hbel3.out.size))
  obtain ⟨tb, htb⟩ : ∃ tb, w3.heap.size = tb := ⟨_, rfl⟩
  rw [htb] at htt ⊢
  clear hW4 hBx htb hst hst3 hbel hbel3 hrg HR htwo hDo
  have hlts := Lib.hid hst4.out.lt
  have hltt := Lib.hid htt.out.lt
  have hbs : Hid (w.heap.size ≤ W4.heap.size) := hbel4.out.size
  have hrow4 := Lib.hid (brow_nil W4 W4.heap.size)
  go_wp2_with fail
  go_loopw [11, 12] (fun p q wr => ∃ i : Nat, q = .int .i64 i ∧ Hid (i ≤ 16) ∧ Hid (BRow wr W4.heap.size p (outTo S i)) ∧ Hid (Blk wr sb 122 (S.map u32v).toArray) ∧ Hid (Blk wr tb 122 ((rndN S 10).map u32v).toArray) ∧ Hid (Below w.heap.size w wr) ∧ Hid (W4.heap.size ≤ wr.heap.size)) (fun _ q _ => 16 - (intOf q).toNat)
  case atStart => exact ⟨0, rfl, Nat.zero_le _, hrow4, hst4, htt, hbel4, Nat.le_refl _⟩
  case round =>
    clear hrow4 hst4 htt hbel4
    obtain ⟨i, rfl, hi, hR, hst, htt, hbel, hbase⟩ := hrel
    by_cases hlt : i < 16
    · have d1 : decide (i < 16) = true := decide_eq_true hlt
      have d2 : decide ((i : Int) < 16) = true := decide_eq_true (by omega)
      have x0 := fun wx => arr16_index wx sb i hlt (i : Int) rfl
      have x1 := fun wx => arr16_index wx tb i hlt (i : Int) rfl
      have c0 := blkW_cell hst.out (a := i) (by rw [hSl.out]; exact hlt)
      have c1 := blkW_cell htt.out (a := i) (by rw [rndN_len, hSl.out]; exact hlt)
      obtain ⟨X, hX⟩ : ∃ X, (rndN S 10).getD i 0 = X := ⟨_, rfl⟩
      obtain ⟨Y, hY⟩ : ∃ Y, S.getD i 0 = Y := ⟨_, rfl⟩
      have hsn := outTo_succ S i
      rw [hX, hY, wadd_comm] at hsn
      rw [hX] at c1
      rw [hY] at c0
      have hsnH := Lib.hid hsn
      have hltH := Lib.hid hlt
      have hvs := Lib.hid (put_vals (wadd Y X))
      have hlH : Hid ((outTo S i).length + 4 < 99999999999) := by unfold Hid; rw [outTo_len]; omega
      clear hX hY hsn
      go_upto_region 9 with fail
      go_region
      have hRd : Hid (BRow wr.drew W4.heap.size u11 (outTo S i)) := hR.out.drewN 1
      go_wp2_with (at_builtin; refine wp_lit rfl _ _ rfl W4.heap.size u11 (outTo S i) rfl hRd.out 4 4 (le4 (wadd Y X)) hvs.out rfl rfl hlH.out hbase.out ?_; intro v9 w9 hP9; rw [← hsnH.out] at hP9; have HP9 := Lib.hid hP9; clear hP9)
      refine ⟨⟨i + 1, by go_num, hltH.out, HP9.out.row, (hst.out.drew).below (HP9.out.bel _ wr.drew (Nat.le_refl _) hbase.out (Below.refl _ _)) hlts.out, (htt.out.drew).below (HP9.out.bel _ wr.drew (Nat.le_refl _) hbase.out (Below.refl _ _)) hltt.out, HP9.out.bel _ _ hbs.out hbase.out hbel.out.drew, Nat.le_trans hbase.out HP9.out.grown.size⟩, ?_⟩
      have := hltH.out
      simp [intOf]
      omega
    · have d1 : decide (i < 16) = false := decide_eq_false hlt
      have d2 : decide ((i : Int) < 16) = false := decide_eq_false (by omega)
      have e16 : i = 16 := Nat.le_antisymm hi (Nat.le_of_not_lt hlt)
      have hcv : (convert 65 9 u11).run Tryd.prog wr = .ok (.string (txt (blockL (bl key) c (bl nonce)))) wr := by
        have h := conv_row hR.out
        rw [e16] at h
        rw [hfin.out]
        exact h
      clear e16 hlt hfin
      generalize hT : txt (blockL (bl key) c (bl nonce)) = T at *
      have hTH := Lib.hid hT
      clear hT
      go_wp2_with fail
      go_ret2
      exact ⟨by rw [hTH.out]; rfl, hbel.out⟩
end Go.Proofs.YtbhagfdkipgggaaDoor
namespace Go.Proofs.YtbhagfdkipgggaaDoor
open Go.RowKit
section
variable {w : World} {o : Oper} {a : Act} {K : Act → World → Prop} {Q : Exit → Act → World → Prop}
theorem wp_cat_op (d s : Operand) (ho : o.op = .call { callee := .builtin .append, args := #[d, s], argTypes := #[65, 65] }) (base : Nat) (v : Value) (l : List UInt8) (hd : a.eval d = v) (hrow : BRow w base v l)
    (g off c : Nat) (m : List UInt8) (hs : a.eval s = .slice (some ⟨g, off, none⟩) m.length c) (hm : BytesAt w g off m) (hlen : l.length + m.length < 100000000000) (hb : base ≤ w.heap.size)
    (h : ∀ v' w', Pushed w w' base v v' (l ++ m) → K (a.put o.dst v') w') : o.wp Tryd.prog a w K Q := by
  obtain ⟨i0, hi, hz0, hz1, hz2⟩ := info_parts infoU8f
  refine wp_append_own w d s 65 ho base 5 i0 (.int .u8 0) 1 1 Tryd.underlying65 hi hz0 hz1 hz2 rfl (by decide) v l.length (l.map byteV) hd hrow ⟨g, off, none⟩ m.length c (m.map byteV) hs (by simp) ?_ (byteV_one _) (by unfold maxLen; omega) (by omega) hb ?_
  · intro j u hj
    rw [List.getElem?_map, Option.map_eq_some_iff] at hj
    obtain ⟨x, hx, rfl⟩ := hj
    rw [show (⟨g, off, none⟩ : Addr).add j = ⟨g, off + j, none⟩ by simp [Addr.add]]
    exact hm.2 j x hx
  · intro v' w' h1 h2 _
    refine h v' w' (pushed_of hrow ?_ h2)
    unfold BRow
    rw [List.length_append, List.map_append]
    exact h1
theorem wp_push_op {w0 : World} (d s : Operand) (ho : o.op = .call { callee := .builtin .append, args := #[d, s], argTypes := #[65, 65] }) (base : Nat) (v : Value) (l : List UInt8) (hd : a.eval d = v) (hrow : BRow w0 base v l)
    (c : Nat) (x : UInt8) {val : Value} (hval : val = byteV x) (hs : a.eval s = .slice (some ⟨w0.heap.size, 0, none⟩) 1 c) (hlen : l.length < 99999999999) (hb : base ≤ w0.heap.size)
    (h : ∀ v' w', Pushed w0 w' base v v' (l ++ [x]) → K (a.put o.dst v') w') : o.wp Tryd.prog a (w0.alloc (.cells #[val] 5)) K Q := by
  subst hval
  refine wp_cat_op d s ho base v l hd (hrow.alloc _) w0.heap.size 0 c [x] hs (brow_lit (base := w0.heap.size) w0 [x] (Nat.le_refl _) (by simp [maxLen])).bytesAt ?_ ?_ ?_
  · rw [show [x].length = 1 from rfl]; omega
  · rw [World.size_alloc]; omega
  · intro v' w' hP
    refine h v' w' ⟨hP.row, ?_, fun B w1 hB hb2 hBel => hP.bel B w1 hB (by rw [World.size_alloc]; omega) (hBel.alloc (Nat.le_trans hB hb2) _)⟩
    exact grown_tr (grownB ((Below.refl _ w0).alloc (Nat.le_refl _) _) (Nat.le_refl _) v.ownBlock) hP.grown
end
end Go.Proofs.YtbhagfdkipgggaaDoor
namespace Go.Proofs.YtbhagfdkipgggaaDoor
open Go.RowKit Go.Shelf
attribute [local go_sem] Oper.semAt_some b_xor_fin
def strOf : Value → Nat
  | .string x => x.size
  | _ => 0
theorem take_next {L : List UInt8} {j : Nat} {y : UInt8} (h : L[j]? = some y) : L.take (j + 1) = L.take j ++ [y] := by rw [List.take_add_one, h]; rfl
theorem ctr_next (C : UInt32) : Value.int IntKind.u32 (((C.toNat : Int) + 1) % 4294967296) = u32v (wadd C 1) := by
  have h := w_add' C 1
  have e : ((1 : UInt32).toNat : Int) = 1 := rfl
  rw [e] at h
  unfold u32v
  rw [h]
set_option maxRecDepth 100000 in
set_option maxHeartbeats 3200000 in
theorem rxor_any (w : World) (key nonce text : ByteArray) (c : UInt32) (hk : key.size = 32) (hn : nonce.size = 12) (ht : text.size < 10000000000) :
    Calls Tryd.prog 76 #[.string key, u32v c, .string nonce, .string text] w fun e w' => e = .returned (.tuple #[.string (txt (xorL (bl key) c (bl nonce) (bl text))), .int .i64 0]) ∧ Below w.heap.size w w' := by
  have HST := Lib.hid (rstate_any w key nonce c hk hn)
  have HBL : Hid (∀ wx C, Calls Tryd.prog 93 #[.string key, u32v C, .string nonce] wx fun e w' => e = .returned (.tuple #[.string (txt (blockL (bl key) C (bl nonce))), .int .i64 0]) ∧ Below wx.heap.size wx w') := fun wx C => rblock_any wx key nonce C hk hn
  have hSl : Hid ((stateL (bl key) c (bl nonce)).length = 16) := stateL_len _ _ _
  clear hk hn
  generalize stateL (bl key) c (bl nonce) = S at *
  have hDl : Hid ((S.map u32v).length = 16) := by unfold Hid; rw [List.length_map]; exact hSl.out
  have hone := Lib.hid (all_oneCell_toArray (u32V_one S))
  have hat : Hid (∀ q i x, i < 64 → (bl text)[64 * q + i]? = some x → (xorL (bl key) c (bl nonce) (bl text))[64 * q + i]? = some (bxor x ((blockL (bl key) (ctrN c q) (bl nonce)).getD i 0))) := fun q i x hi h => by
    have h2 := xorL_at (bl key) c (bl nonce) (bl text) (64 * q + i) x h
    rw [show (64 * q + i) / 64 = q by omega, show (64 * q + i) % 64 = i by omega] at h2
    exact h2
  have hLl : Hid ((xorL (bl key) c (bl nonce) (bl text)).length = text.size) := by unfold Hid; rw [xorL_len, bl_len]
  have hT0 : Hid (bl text = (bl text).drop (64 * 0)) := by unfold Hid; rw [Nat.mul_zero, List.drop_zero]
  have htl : Hid ((bl text).length = text.size) := bl_len text
  have htH := Lib.hid ht
  obtain ⟨L, hL⟩ : ∃ L, xorL (bl key) c (bl nonce) (bl text) = L := ⟨_, rfl⟩
  rw [hL] at hat hLl ⊢
  obtain ⟨T, hT⟩ : ∃ T, bl text = T := ⟨_, rfl⟩
  rw [hT] at hat hT0 htl
  have hx0 : Hid (bl text = T.drop (64 * 0)) := by unfold Hid; rw [hT]; exact hT0.out
  obtain ⟨n, hne⟩ : ∃ n, text.size = n := ⟨_, rfl⟩
  rw [hne] at hLl htl htH ht
  clear hL hT hT0 hne ht
  go_enter Tryd.func76, Tryd.ntmps76
  go_upto_region 4 with (first | (go_at_call 92; refine HST.out.mono ?_; rintro e w1 ⟨rfl, hB1⟩; have HB1 := Lib.hid hB1; clear hB1) | (refine wpList_store_mid rfl 122 _ _ rfl w1.heap.size 0 (S.map u32v).toArray rfl rfl (there_of_blk (o := 0) (Blk.new w1 122 z16) (by rw [List.size_toArray, hDl.out]; exact Nat.le_refl _)) (by rw [List.size_toArray, hDl.out]; exact infoA16) hone.out ?_) | fail)
  try simp only [sA]
  refine world_is (P := fun W => Code.wp _ _ _ _ W) (fun W2 hW2 => ?_)
  have hbel : Hid (Below w.heap.size w W2) := by unfold Hid; rw [← hW2]; exact below_setCells HB1.out.size _ 0 _ (HB1.out.alloc HB1.out.size _)
  clear hW2 HB1 HST hone hDl hSl
  have hr0 : Hid (BRow W2 w.heap.size (.slice none 0 0) (L.take (64 * 0))) := by unfold Hid; rw [Nat.mul_zero, List.take_zero]; exact brow_nil _ _
  go_wp2_with fail
  go_loopw [1, 3, 12] (fun cv tv p wr => ∃ (q : Nat) (x : ByteArray), cv = u32v (ctrN c q) ∧ tv = .string x ∧ Hid (bl x = T.drop (64 * q)) ∧ Hid (BRow wr w.heap.size p (L.take (64 * q))) ∧ Hid (Below w.heap.size w wr)) (fun _ tv _ _ => strOf tv)
  case atStart => exact ⟨0, text, rfl, rfl, hx0, hr0, hbel⟩
  case round =>
    clear hx0 hr0 hbel
    obtain ⟨q, x, rfl, rfl, hx, hR, hB⟩ := hrel
    have hxl : Hid (x.size = n - 64 * q) := by unfold Hid; rw [← bl_len, hx.out, List.length_drop, htl.out]
    by_cases hpos : 0 < x.size
    · have d1 : decide (0 < x.size) = true := decide_eq_true hpos
      have d2 : decide ((0 : Int) < (x.size : Int)) = true := decide_eq_true (by omega)
      obtain ⟨m, hm⟩ : ∃ m, min 64 x.size = m := ⟨_, rfl⟩
      have hmi : min (64 : Int) (x.size : Int) = (m : Int) := by omega
      have m1 : Hid (m ≤ 64) := by unfold Hid; omega
      have m2 : Hid (m ≤ x.size) := by unfold Hid; omega
      have m3 : Hid (0 < m) := by unfold Hid; omega
      have m4 : Hid (m < 64 → m = x.size) := by unfold Hid; omega
      obtain ⟨C, hC⟩ : ∃ C, ctrN c q = C := ⟨_, rfl⟩
      have hCn : Hid (ctrN c (q + 1) = wadd C 1) := by unfold Hid; rw [← hC]; rfl
      obtain ⟨BB, hBB⟩ : ∃ B, blockL (bl key) (ctrN c q) (bl nonce) = B := ⟨_, rfl⟩
      have hBBl : Hid (BB.length = 64) := by unfold Hid; rw [← hBB, blockL_len]
      have hat2 : Hid (∀ i y, i < 64 → T[64 * q + i]? = some y → L[64 * q + i]? = some (bxor y (BB.getD i 0))) := fun i y hi h => by
        have h2 := hat.out q i y hi h
        rw [hBB] at h2
        exact h2
      have HBQ : Hid (∀ wx, Calls Tryd.prog 93 #[.string key, u32v C, .string nonce] wx fun e w' => e = .returned (.tuple #[.string (txt BB), .int .i64 0]) ∧ Below wx.heap.size wx w') := fun wx => by
        have h := HBL.out wx C
        rw [← hC, hBB] at h
        rw [← hC]
        exact h
      have hCe : u32v (ctrN c q) = u32v C := by rw [hC]
      rw [hCe]
      clear hC hCe hBB hm
      obtain ⟨wo, rfl⟩ : ∃ wo, wo = wr := ⟨_, rfl⟩
      go_upto_region 8 with (first | (go_at_call 93; refine (HBQ.out _).mono ?_; rintro e w3 ⟨rfl, hB3⟩; have hR3 := Lib.hid (hR.out.below hB3); have hBe3 := Lib.hid (hB.out.trans (hB3.mono hB.out.size)); clear hB3) | fail)
      have hR3' : Hid (BRow w3 w.heap.size u12 (L.take (64 * q + 0))) := hR3
      clear hR hB HBQ hR3
      obtain ⟨BT, hBT⟩ : ∃ B, txt BB = B := ⟨_, rfl⟩
      have hBTb : Hid (bl BT = BB) := by unfold Hid; rw [← hBT, bl_txt]
      rw [hBT]
      clear hBT
      go_wp2_with fail
      go_loopw [12, 16] (fun p iv wr => ∃ i : Nat, iv = .int .i64 i ∧ Hid (i ≤ m) ∧ Hid (BRow wr w.heap.size p (L.take (64 * q + i))) ∧ Hid (Below w.heap.size w wr)) (fun _ iv _ => m - (intOf iv).toNat)
      case atStart => exact ⟨0, rfl, Nat.zero_le _, hR3', hBe3⟩
      case round =>
        clear hR3' hBe3
        obtain ⟨i, rfl, hi, hR, hB⟩ := hrel
        by_cases hlt : i < m
        · have e1 : decide (i < m) = true := decide_eq_true hlt
          have e2 : decide ((i : Int) < (m : Int)) = true := decide_eq_true (by omega)
          have hi64 : i < 64 := by have := m1.out; omega
          obtain ⟨y, hy⟩ : ∃ y, (bl x)[i]? = some y := ⟨_, List.getElem?_eq_getElem (by rw [bl_len]; have := m2.out; omega)⟩
          obtain ⟨z, hz⟩ : ∃ z, BB[i]? = some z := ⟨_, List.getElem?_eq_getElem (by rw [hBBl.out]; exact hi64)⟩
          have hy2 : T[64 * q + i]? = some y := by rw [hx.out, List.getElem?_drop] at hy; exact hy
          have hsn : L.take (64 * q + (i + 1)) = L.take (64 * q + i) ++ [bxor y z] := by
            have h := hat2.out i y hi64 hy2
            rw [List.getD_eq_getElem?_getD, hz, Option.getD_some] at h
            exact take_next h
          have ix := fun wx => text_index wx x i y hy
          have iz := fun wx => text_index wx BT i z (by rw [hBTb.out]; exact hz)
          have hxf := b_xor_fin y z
          have hsnH := Lib.hid hsn
          have hltH := Lib.hid hlt
          have hln : Hid ((L.take (64 * q + i)).length < 99999999999) := by unfold Hid; rw [List.length_take, hLl.out]; have := htH.out; omega
          have hRd : Hid (BRow wr.drew w.heap.size u12 (L.take (64 * q + i))) := hR.out.drewN 1
          have hBd := Lib.hid hB.out.drew
          clear hy hz hy2 hsn hi64
          go_upto_region 11 with fail
          refine wp_region_held_drew (S := (fun _ => True)) (by kernel_rfl) trivial (fun hHeld => ?_)
          refine' wpAnyH_take (i := 0) (v := ?v0) rfl (by kernel_rfl) (by kernel_rfl) (by kernel_rfl) (fun _ _ _ h => h) (Or.inl ⟨by rfl, ?hy0⟩) hHeld ?rest0
          case hy0 => intro w hSw; (try dsimp only at hSw); go_simp; all_goals with_reducible rfl
          try simp only [sA, gA]
          refine' wpAnyH_take (i := 1) (v := ?v1) rfl (by kernel_rfl) (by kernel_rfl) (by kernel_rfl) (fun _ _ _ h => h) (Or.inl ⟨by rfl, ?hy1⟩) hHeld ?rest1
          case hy1 => intro w hSw; (try dsimp only at hSw); go_simp; all_goals with_reducible rfl
          try simp only [sA, gA]
          refine' wpAnyH_take (i := 2) (v := ?v2) rfl (by kernel_rfl) (by kernel_rfl) (by kernel_rfl) (fun _ _ _ h => h) (Or.inl ⟨by rfl, ?hy2⟩) hHeld ?rest2
          case hy2 => intro w hSw; (try dsimp only at hSw); go_simp; all_goals with_reducible rfl
          try simp only [sA, gA]
          refine' wpAnyH_take (i := 3) (v := ?v3) rfl (by kernel_rfl) (by kernel_rfl) (by kernel_rfl) (fun _ _ _ h => h) (Or.inl ⟨by rfl, ?hy3⟩) hHeld ?rest3
          case hy3 => intro w hSw; (try dsimp only at hSw); go_simp; all_goals with_reducible rfl
          try simp only [sA, gA]
          refine' wpAnyH_take (i := 4) (v := ?v4) rfl (by kernel_rfl) (by kernel_rfl) (by kernel_rfl) (fun _ _ _ h => h) (Or.inl ⟨by rfl, ?hy4⟩) hHeld ?rest4
          case hy4 => intro w hSw; (try dsimp only at hSw); go_simp; all_goals with_reducible rfl
          try simp only [sA, gA]
          refine' wpAnyH_take (i := 5) (v := ?v5) rfl (by kernel_rfl) (by kernel_rfl) (by kernel_rfl) (fun _ _ _ h => h) (Or.inl ⟨by rfl, ?hy5⟩) hHeld ?rest5
          case hy5 => intro w hSw; (try dsimp only at hSw); go_simp; all_goals with_reducible rfl
          try simp only [sA, gA]
          refine' wpAnyH_take (i := 6) (v := ?v6) rfl (by kernel_rfl) (by kernel_rfl) (by kernel_rfl) (fun _ _ _ h => h) (Or.inl ⟨by rfl, ?hy6⟩) hHeld ?rest6
          case hy6 => intro w hSw; (try dsimp only at hSw); go_simp; all_goals with_reducible rfl
          try simp only [sA, gA]
          refine' wpAnyH_take (i := 7) (v := ?v7) rfl (by kernel_rfl) (by kernel_rfl) (by kernel_rfl) (fun _ _ _ h => h) (Or.inl ⟨by rfl, ?hy7⟩) hHeld ?rest7
          case hy7 => intro w hSw; (try dsimp only at hSw); go_simp; all_goals with_reducible rfl
          try simp only [sA, gA]
          refine wpAnyH_ready (rs := [8]) (by kernel_rfl) (by simp) ?_
          refine AllReadyH.cons rfl (fun K hK => ?_) AllReadyH.nil
          go_simp
          refine hK.out _ _ ?_ (fun hHeld2 => ?_)
          · exact trivial
          clear hK K hHeld
          have hHeld := hHeld2
          clear hHeld2
          try simp only [sA, gA]
          refine wpAnyH_ready (rs := [9]) (by kernel_rfl) (by simp) ?_
          refine AllReadyH.cons rfl (fun K hK => ?_) AllReadyH.nil
          refine wp_push_op _ _ rfl w.heap.size u12 (L.take (64 * q + i)) rfl hRd.out 1 (bxor y z) rfl rfl hln.out hBd.out.size ?_
          intro v9 w9 hP9
          rw [← hsnH.out] at hP9
          have HP9 := Lib.hid hP9
          clear hP9
          refine hK.out _ _ ?_ (fun hHeld2 => ?_)
          · exact trivial
          clear hK K hHeld
          have hHeld := hHeld2
          clear hHeld2
          try simp only [sA, gA]
          refine' wpAnyH_take (i := 10) (v := ?v10) rfl (by kernel_rfl) (by kernel_rfl) (by kernel_rfl) (fun _ _ _ h => h) (Or.inl ⟨by rfl, ?hy10⟩) hHeld ?rest10
          case hy10 => intro w hSw; (try dsimp only at hSw); go_simp; all_goals with_reducible rfl
          try simp only [sA, gA]
          refine wpAnyH_done (by kernel_rfl) ?_ _
          clear hHeld
          have hB9 := Lib.hid (HP9.out.bel _ _ (Nat.le_refl _) hBd.out.size hBd.out)
          go_wp2_with fail
          refine ⟨⟨i + 1, by go_num, hltH.out, HP9.out.row, hB9.out⟩, ?_⟩
          have := hltH.out
          simp [intOf]
          omega
        · have e1 : decide (i < m) = false := decide_eq_false hlt
          have e2 : decide ((i : Int) < (m : Int)) = false := decide_eq_false (by omega)
          have him : Hid (i = m) := Nat.le_antisymm hi (Nat.le_of_not_lt hlt)
          have hx2 : Hid (bl (x.extract m x.size) = T.drop (64 * (q + 1))) := by
            unfold Hid
            rw [bl_extract x m m2.out, hx.out, List.drop_drop]
            by_cases h64 : m < 64
            · have h3 := m4.out h64
              have h4 := hxl.out
              have h5 := htl.out
              rw [List.drop_eq_nil_of_le (by omega), List.drop_eq_nil_of_le (by omega)]
            · have h3 := m1.out
              rw [show 64 * q + m = 64 * (q + 1) by omega]
          have hR2 : Hid (BRow wr w.heap.size u12 (L.take (64 * (q + 1)))) := by
            unfold Hid
            have h := hR.out
            rw [him.out] at h
            by_cases h64 : m < 64
            · have h3 := m4.out h64
              have h4 := hxl.out
              have h5 := hLl.out
              rw [List.take_of_length_le (by omega)] at h
              rw [List.take_of_length_le (by omega)]
              exact h
            · have h3 := m1.out
              rw [show 64 * (q + 1) = 64 * q + m by omega]
              exact h
          have s0 : (0 : Int) ≤ (m : Int) := by omega
          have s1 : (m : Int) ≤ (x.size : Int) := by have := m2.out; omega
          have s2 : m ≤ x.size := m2.out
          have hcn := ctr_next C
          have hsz : Hid (strOf (.string (x.extract m x.size)) < strOf (.string x)) := by
            have h1 := bl_len (x.extract m x.size)
            rw [bl_extract x m m2.out, List.length_drop, bl_len] at h1
            unfold Hid strOf
            dsimp only
            have := m3.out
            omega
          clear hlt hi him hR hxl m4 hmi
          go_wp2_with fail
          refine ⟨⟨q + 1, x.extract m x.size, ?_, rfl, hx2.out, hR2.out, hB.out⟩, hsz.out⟩
          rw [hCn.out]
          first | exact hcn | rfl
    · have d1 : decide (0 < x.size) = false := decide_eq_false hpos
      have d2 : decide ((0 : Int) < (x.size : Int)) = false := decide_eq_false (by omega)
      have hcv : (convert 65 9 u12).run Tryd.prog wr = .ok (.string (txt L)) wr := by
        have h := conv_row hR.out
        have h1 := hxl.out
        rw [List.take_of_length_le (by rw [hLl.out]; omega)] at h
        exact h
      clear hpos
      generalize hTL : txt L = TL at *
      have hTH := Lib.hid hTL
      clear hTL
      go_wp2_with fail
      go_ret2
      exact ⟨by rw [hTH.out]; rfl, hB.out⟩
end Go.Proofs.YtbhagfdkipgggaaDoor
namespace Go.Proofs.YtbhagfdkipgggaaDoor
open Go.RowKit Go.Shelf
attribute [local go_sem] Oper.semAt_some
theorem results_ttt {fn : Func} {t u v : Tmp} (h : fn.results = #[.tmp t, .tmp u, .tmp v]) (tmps : Array Value) (P : Program) (w : World) :
    (results fn tmps).run P w = .ok (.tuple #[tmps.getD t undef, tmps.getD u undef, tmps.getD v undef]) w := by
  simp [results, h]
theorem rkeys_any (w : World) (key : ByteArray) (hk : key.size = 32) (hK : KAt w 0) :
    Calls Tryd.prog 74 #[.string key] w fun e w' => e = .returned (.tuple #[.string (txt (encK (bl key))), .string (txt (macK (bl key))), .int .i64 0]) ∧ Below w.heap.size w w' := by
  have H1 : Hid (∀ wx, Below w.heap.size w wx → Calls Tryd.prog 46 #[.string key, .string ⟨#[101, 110, 99]⟩] wx fun e w' => e = .returned (.string (txt (encK (bl key)))) ∧ Below wx.heap.size wx w') := fun wx hB => rmac_any wx key ⟨#[101, 110, 99]⟩ (by omega) (by decide) (hK.below hB)
  have H2 : Hid (∀ wx, Below w.heap.size w wx → Calls Tryd.prog 46 #[.string key, .string ⟨#[109, 97, 99]⟩] wx fun e w' => e = .returned (.string (txt (macK (bl key)))) ∧ Below wx.heap.size wx w') := fun wx hB => rmac_any wx key ⟨#[109, 97, 99]⟩ (by omega) (by decide) (hK.below hB)
  generalize txt (encK (bl key)) = A at *
  generalize txt (macK (bl key)) = B at *
  have t1 : ((key.size : Int) != 32) = false := by rw [hk]; rfl
  clear hK hk
  go_enter Tryd.func74, Tryd.ntmps74
  go_wp2_with (first
    | (go_at_call 46; have hm := HB1; clear hm; refine (H2.out _ HB1.out).mono ?_; rintro e w2 ⟨rfl, hB⟩; have HB2 := Lib.hid (HB1.out.trans (hB.mono HB1.out.size)); clear hB)
    | (go_at_call 46; refine (H1.out _ (Below.refl _ _)).mono ?_; rintro e w1 ⟨rfl, hB⟩; have HB1 := Lib.hid hB; clear hB)
    | fail)
  exact bodyPost_ret (results_ttt rfl _ _ _) rfl ⟨rfl, HB2.out⟩
set_option maxRecDepth 100000 in
theorem rnonce_any (w : World) (m ad t : ByteArray) (hm : m.size < 1000000) (ha : ad.size ≤ 1000000) (ht : t.size ≤ 10000000) (hK : KAt w 0) :
    Calls Tryd.prog 75 #[.string m, .string ad, .string t] w fun e w' => e = .returned (.string (txt (nonceL (bl m) (bl ad) (bl t)))) ∧ Below w.heap.size w w' := by
  have l2 := bytesL_le (bl ad)
  rw [bl_len] at l2
  obtain ⟨X, hX⟩ : ∃ X, txt (bytesL (bl ad)) = X := ⟨_, rfl⟩
  have hXb : bl X = bytesL (bl ad) := by rw [← hX]; rfl
  have hXs : X.size ≤ 1000009 := by rw [← bl_len, hXb]; omega
  have HY : Hid (Calls Tryd.prog 66 #[.string ad] w fun e w' => ∃ v, e = .returned v ∧ (convert 65 9 v).run Tryd.prog w' = .ok (.string X) w' ∧ Below w.heap.size w w') := by
    refine (rbytes_any w ad (by omega)).mono ?_
    rintro e w' ⟨v, rfl, hR, hB⟩
    exact ⟨v, rfl, by rw [← hX]; exact conv_row hR, hB⟩
  have a1 : ∀ wx, (Op.stringOp .add ⟨#[110, 111, 110, 99, 101]⟩ X).run Tryd.prog wx = .ok (.string (⟨#[110, 111, 110, 99, 101]⟩ ++ X)) wx := fun wx => run_string_add_sum wx _ _ (by show 5 + X.size ≤ _; omega)
  obtain ⟨U1, hU1⟩ : ∃ U : ByteArray, ⟨#[110, 111, 110, 99, 101]⟩ ++ X = U := ⟨_, rfl⟩
  rw [hU1] at a1
  have hU1b : bl U1 = [110, 111, 110, 99, 101] ++ bytesL (bl ad) := by rw [← hU1, bl_append, hXb]; rfl
  have hU1s : U1.size ≤ 1000014 := by
    rw [← bl_len, hU1b]
    simp only [List.length_append, List.length_cons, List.length_nil]
    omega
  have a2 : ∀ wx, (Op.stringOp .add U1 t).run Tryd.prog wx = .ok (.string (U1 ++ t)) wx := fun wx => run_string_add_sum wx _ _ (by omega)
  obtain ⟨U, hU⟩ : ∃ U : ByteArray, U1 ++ t = U := ⟨_, rfl⟩
  rw [hU] at a2
  have hUb : bl U = [110, 111, 110, 99, 101] ++ bytesL (bl ad) ++ bl t := by rw [← hU, bl_append, hU1b]
  have hUs : U.size < 100000000 := by
    rw [← bl_len, hUb]
    simp only [List.length_append, List.length_cons, List.length_nil]
    rw [bl_len]
    omega
  have HM : Hid (∀ wx, Below w.heap.size w wx → Calls Tryd.prog 46 #[.string m, .string U] wx fun e w' => e = .returned (.string (txt (macL (bl m) (bl U)))) ∧ Below wx.heap.size wx w') := fun wx hB => rmac_any wx m U (by omega) (by omega) (hK.below hB)
  have hms : Hid ((txt (macL (bl m) (bl U))).size = 32) := by unfold Hid; rw [txt_size, macL_len]
  have hxt : Hid ((txt (macL (bl m) (bl U))).extract 0 12 = txt (nonceL (bl m) (bl ad) (bl t))) := by
    have h := txt_head (macL (bl m) (bl U)) 12
    unfold Hid nonceL
    rw [← hUb]
    exact h
  generalize txt (macL (bl m) (bl U)) = M at *
  have n2 : (12 : Int) ≤ (M.size : Int) := by have := hms.out; omega
  clear hX hXb hXs hU1 hU1b hU1s hU hUb hUs hms l2 hm ha ht hK
  go_enter Tryd.func75, Tryd.ntmps75
  go_wp2_with (first
    | (go_at_call 66; refine HY.out.mono ?_; rintro e w1 ⟨v1, rfl, hcv, hB⟩; have HB1 := Lib.hid hB; clear hB)
    | (go_at_call 46; refine (HM.out _ HB1.out).mono ?_; rintro e w2 ⟨rfl, hB⟩; have HB2 := Lib.hid (HB1.out.trans (hB.mono HB1.out.size)); clear hB)
    | fail)
  go_ret
  exact ⟨by rw [← hxt.out]; rfl, HB2.out⟩
set_option maxRecDepth 100000 in
theorem rtag_any (w : World) (m n ad c : ByteArray) (hm : m.size < 1000000) (hn : n.size ≤ 1000) (ha : ad.size ≤ 1000000) (hc : c.size ≤ 10000000) (hK : KAt w 0) :
    Calls Tryd.prog 77 #[.string m, .string n, .string ad, .string c] w fun e w' => e = .returned (.string (txt (tagL (bl m) (bl n) (bl ad) (bl c)))) ∧ Below w.heap.size w w' := by
  have l2 := bytesL_le (bl ad)
  rw [bl_len] at l2
  obtain ⟨X, hX⟩ : ∃ X, txt (bytesL (bl ad)) = X := ⟨_, rfl⟩
  have hXb : bl X = bytesL (bl ad) := by rw [← hX]; rfl
  have hXs : X.size ≤ 1000009 := by rw [← bl_len, hXb]; omega
  have HY : Hid (Calls Tryd.prog 66 #[.string ad] w fun e w' => ∃ v, e = .returned v ∧ (convert 65 9 v).run Tryd.prog w' = .ok (.string X) w' ∧ Below w.heap.size w w') := by
    refine (rbytes_any w ad (by omega)).mono ?_
    rintro e w' ⟨v, rfl, hR, hB⟩
    exact ⟨v, rfl, by rw [← hX]; exact conv_row hR, hB⟩
  have a1 : ∀ wx, (Op.stringOp .add ⟨#[116, 97, 103]⟩ n).run Tryd.prog wx = .ok (.string (⟨#[116, 97, 103]⟩ ++ n)) wx := fun wx => run_string_add_sum wx _ _ (by show 3 + n.size ≤ _; omega)
  obtain ⟨U1, hU1⟩ : ∃ U : ByteArray, ⟨#[116, 97, 103]⟩ ++ n = U := ⟨_, rfl⟩
  rw [hU1] at a1
  have hU1b : bl U1 = [116, 97, 103] ++ bl n := by rw [← hU1, bl_append]; rfl
  have hU1s : U1.size ≤ 1003 := by
    rw [← bl_len, hU1b]
    simp only [List.length_append, List.length_cons, List.length_nil]
    rw [bl_len]
    omega
  have a2 : ∀ wx, (Op.stringOp .add U1 X).run Tryd.prog wx = .ok (.string (U1 ++ X)) wx := fun wx => run_string_add_sum wx _ _ (by omega)
  obtain ⟨U2, hU2⟩ : ∃ U : ByteArray, U1 ++ X = U := ⟨_, rfl⟩
  rw [hU2] at a2
  have hU2b : bl U2 = [116, 97, 103] ++ bl n ++ bytesL (bl ad) := by rw [← hU2, bl_append, hU1b, hXb]
  have hU2s : U2.size ≤ 1001015 := by
    rw [← bl_len, ← hU2, bl_append, List.length_append, bl_len, bl_len]
    omega
  have a3 : ∀ wx, (Op.stringOp .add U2 c).run Tryd.prog wx = .ok (.string (U2 ++ c)) wx := fun wx => run_string_add_sum wx _ _ (by omega)
  obtain ⟨U, hU⟩ : ∃ U : ByteArray, U2 ++ c = U := ⟨_, rfl⟩
  rw [hU] at a3
  have hUb : bl U = [116, 97, 103] ++ bl n ++ bytesL (bl ad) ++ bl c := by rw [← hU, bl_append, hU2b]
  have hUs : U.size < 100000000 := by
    rw [← bl_len, hUb]
    simp only [List.length_append, List.length_cons, List.length_nil]
    rw [bl_len, bl_len]
    omega
  have HM : Hid (∀ wx, Below w.heap.size w wx → Calls Tryd.prog 46 #[.string m, .string U] wx fun e w' => e = .returned (.string (txt (macL (bl m) (bl U)))) ∧ Below wx.heap.size wx w') := fun wx hB => rmac_any wx m U (by omega) (by omega) (hK.below hB)
  have hms : Hid ((txt (macL (bl m) (bl U))).size = 32) := by unfold Hid; rw [txt_size, macL_len]
  have hxt : Hid ((txt (macL (bl m) (bl U))).extract 0 16 = txt (tagL (bl m) (bl n) (bl ad) (bl c))) := by
    have h := txt_head (macL (bl m) (bl U)) 16
    unfold Hid tagL
    rw [← hUb]
    exact h
  generalize txt (macL (bl m) (bl U)) = M at *
  have n2 : (16 : Int) ≤ (M.size : Int) := by have := hms.out; omega
  clear hX hXb hXs hU1 hU1b hU1s hU2 hU2b hU2s hU hUb hUs hms l2 hm hn ha hc hK
  go_enter Tryd.func77, Tryd.ntmps77
  go_wp2_with (first
    | (go_at_call 66; refine HY.out.mono ?_; rintro e w1 ⟨v1, rfl, hcv, hB⟩; have HB1 := Lib.hid hB; clear hB)
    | (go_at_call 46; refine (HM.out _ HB1.out).mono ?_; rintro e w2 ⟨rfl, hB⟩; have HB2 := Lib.hid (HB1.out.trans (hB.mono HB1.out.size)); clear hB)
    | fail)
  go_ret
  exact ⟨by rw [← hxt.out]; rfl, HB2.out⟩
end Go.Proofs.YtbhagfdkipgggaaDoor
