/-
  Layer 2 (hash): the padded key of a code.
  Layer 2 (hash): the authentication code.
-/
import Derived.Test.YtbhagfdkipgggaaDoorMB
import Derived.Deep.CutRange
import Derived.Deep.CutBlock
namespace Go.Proofs.YtbhagfdkipgggaaDoor
open Go.RowKit Go.Shelf
attribute [local go_sem] Oper.semAt_some
/-- The exclusive or of bytes. -/
def bxor (x y : UInt8) : UInt8 := x ^^^ y
theorem b_xor_fin (x y : UInt8) : bits .xor .u8 (x.toNat : Int) (y.toNat : Int) = ((bxor x y).toNat : Int) := by
  unfold bxor
  rw [UInt8.toNat_xor]
  exact u8_xor_nat _ _ x.toNat_lt y.toNat_lt
def z64b : List Value := List.replicate 64 (.int .u8 0)
/-- A key in an array of 64 bytes. -/
def key64 (k : List UInt8) : List UInt8 := k ++ List.replicate (64 - k.length) 0
theorem key64_len (k : List UInt8) (h : k.length ≤ 64) : (key64 k).length = 64 := by unfold key64; rw [List.length_append, List.length_replicate]; omega
/-- The key, combined with a byte. -/
def padK (k : List UInt8) (c : UInt8) : List UInt8 := (key64 k).map fun x => bxor x c
/-- An array of bytes that is turned from L2 to L1: the first i are done. -/
def TurnAt (w : World) (g : Nat) (t : TypeId) (L1 L2 : List UInt8) (i : Nat) : Prop := Blk w g t ((L1.take i ++ L2.drop i).map byteV).toArray
theorem TurnAt.set_ {w : World} {g : Nat} {t : TypeId} {L1 L2 : List UInt8} {i : Nat} (h : TurnAt w g t L1 L2 i) (hl : L1.length = L2.length) (x : UInt8) (hx : L1[i]? = some x) : TurnAt (w.setCell ⟨g, i, none⟩ (byteV x)) g t L1 L2 (i + 1) := by
  have hi : i < L1.length := (List.getElem?_eq_some_iff.1 hx).1
  have h1 := Blk.set_ h i (byteV x)
  have e : ((L1.take i ++ L2.drop i).map byteV).toArray.setIfInBounds i (byteV x) = ((L1.take (i + 1) ++ L2.drop (i + 1)).map byteV).toArray := by
    have hl2 : ((L1.take i).map byteV).length = i := by rw [List.length_map, List.length_take]; omega
    rw [List.setIfInBounds_toArray, List.map_append, List.set_append_right _ _ (Nat.le_of_eq hl2), hl2, Nat.sub_self, List.drop_eq_getElem_cons (by omega : i < L2.length), List.map_cons, List.set_cons_zero, List.take_add_one, hx, List.map_append, List.map_append, List.append_assoc]
    rfl
  rw [e] at h1
  exact h1
theorem TurnAt.cell {w : World} {g : Nat} {t : TypeId} {L1 L2 : List UInt8} {i : Nat} (h : TurnAt w g t L1 L2 i) (hl : L1.length = L2.length) (x : UInt8) (hx : L2[i]? = some x) : w.cell? ⟨g, i, none⟩ = some (byteV x) := by
  have hi : i < L2.length := (List.getElem?_eq_some_iff.1 hx).1
  rw [Blk.cell h, List.getElem?_toArray, List.getElem?_map, List.getElem?_append_right (by rw [List.length_take]; omega), List.length_take, Nat.min_eq_left (by omega), Nat.sub_self, List.getElem?_drop, Nat.add_zero, hx]
  rfl
theorem TurnAt.done {w : World} {g : Nat} {t : TypeId} {L1 L2 : List UInt8} {n : Nat} (h : TurnAt w g t L1 L2 n) (h1 : L1.length = n) (h2 : L2.length = n) : Blk w g t (L1.map byteV).toArray := by
  unfold TurnAt at h
  rw [List.take_of_length_le (Nat.le_of_eq h1), List.drop_of_length_le (Nat.le_of_eq h2), List.append_nil] at h
  exact h
theorem blk_bytes {w : World} {g : Nat} {t : TypeId} {L : List UInt8} (h : Blk w g t (L.map byteV).toArray) : BytesAt w g 0 L :=
  ⟨h.lt, fun i x hx => by rw [Nat.zero_add, h.cell, List.getElem?_toArray, List.getElem?_map, hx]; rfl⟩
theorem wp_copy_text {P : Program} {op : Oper} {a : Act} {w : World} {K : Act → World → Prop} {Q : Exit → Act → World → Prop} {d s : Operand} (dT sT : TypeId)
    (ho : op.op = .call { callee := .builtin .copy, args := #[d, s], argTypes := #[dT, sT] }) (elem : TypeId) (size : Nat) (hu : P.underlying dT = some (.slice elem)) (hsz : (P.info? elem).map (·.size) = some size)
    (g off dLen dCap : Nat) (b : ByteArray) (hd : a.eval d = .slice (some ⟨g, off, none⟩) dLen dCap) (hs : a.eval s = .string b)
    (cur : Array Value) (t : TypeId) (cs : List Value) (hcs : List.take (Nat.min b.size dLen) (List.map (fun b : UInt8 => Value.int .u8 (b.toNat : Int)) b.data.toList) = cs) (hg : w.heap[g]? = some (.cells cur t (0, 0)))
    (hfit : off + cs.length ≤ cur.size) (h1 : ∀ v ∈ cs, v.oneCell' = true)
    (h : K (a.put op.dst (goInt (Nat.min b.size dLen))) (w.setRow g (cur.toList.take off ++ cs ++ cur.toList.drop (off + cs.length)).toArray)) : op.wp P a w K Q := by
  have hrun := run_copy_text (P := P) w dT sT op.type elem size g off dLen dCap b cur t cs hu hsz hcs hg hfit h1
  unfold Oper.wp
  simp [execOp, ho, resolve, invoke, builtin, hd, hs, hrun, Result.andThen]
  simp at h
  exact h
theorem key_kept {w : World} {x : ByteArray} {kb g : Nat} {cs : Array Value} (h : w.cell? ⟨kb, 0, none⟩ = some (.string x)) (hne : kb ≠ g) : (w.setRow g cs).cell? ⟨kb, 0, none⟩ = some (.string x) := by
  rw [cell_setRow_other _ _ _ _ hne]
  exact h
set_option maxRecDepth 100000 in
set_option maxHeartbeats 1600000 in
theorem mac1_any (w : World) (kb : Nat) (x : ByteArray) (c : UInt8) (hx : x.size ≤ 64) (hk : w.cell? ⟨kb, 0, none⟩ = some (.string x)) (hkl : kb < w.heap.size) :
    Calls Tryd.prog 96 #[.int .u8 (c.toNat : Int), .pointer (some ⟨kb, 0, none⟩)] w fun e w' => e = .returned (.string ⟨(padK (bl x) c).toArray⟩) ∧ Below w.heap.size w w' := by
  go_enter Tryd.func96, Tryd.ntmps96
  go_upto_region 2 with fail
  refine world_is (P := fun W => Code.wp _ _ _ _ W) (fun W1 hW1 => ?_)
  have HBel : Hid (Below w.heap.size w W1) := by unfold Hid; rw [← hW1]; exact (Below.refl _ w).alloc (Nat.le_refl _) _
  have HB : Hid (Blk W1 w.heap.size 126 z64b.toArray) := by unfold Hid; rw [← hW1]; exact Blk.new w _ _
  have Hk : Hid (W1.cell? ⟨kb, 0, none⟩ = some (.string x)) := by unfold Hid; rw [HBel.out.cell (p := ⟨kb, 0, none⟩) hkl]; exact hk
  have hkb : kb ≠ w.heap.size := Nat.ne_of_lt hkl
  clear hW1 hk hkl
  refine wp_region_held_drew (S := (fun w' => w'.cell? ⟨kb, 0, none⟩ = some (.string x))) (by kernel_rfl) Hk.out (fun hHeld => ?_)
  refine' wpAnyH_take (i := 0) (v := ?v0) rfl (by kernel_rfl) (by kernel_rfl) (by kernel_rfl) (fun _ _ _ h => h) (Or.inl ⟨by rfl, ?hy0⟩) hHeld ?rest0
  case hy0 => intro w hSw; (try dsimp only at hSw); go_simp; all_goals with_reducible rfl
  try simp only [sA, gA]
  refine' wpAnyH_take (i := 1) (v := ?v1) rfl (by kernel_rfl) (by kernel_rfl) (by kernel_rfl) (fun _ _ _ h => h) (Or.inl ⟨by rfl, ?hy1⟩) hHeld ?rest1
  case hy1 => intro w hSw; (try dsimp only at hSw); go_simp; all_goals with_reducible rfl
  try simp only [sA, gA]
  refine wpAnyH_ready (rs := [2]) (by kernel_rfl) (by simp) ?_
  refine AllReadyH.cons rfl (fun K hK => ?_) AllReadyH.nil
  refine wp_copy_text _ _ rfl 5 1 Tryd.underlying65 infoU8 w.heap.size 0 64 64 x rfl rfl z64b.toArray 126 ((bl x).map byteV) ?hc1 (HB.out.drew) ?hc2 (byteV_one _) ?hc3
  case hc1 => rw [List.take_of_length_le (by rw [List.length_map]; show (bl x).length ≤ min x.size 64; rw [bl_len]; omega)]; rfl
  case hc2 => rw [List.length_map, bl_len]; show 0 + x.size ≤ 64; omega
  case hc3 =>
  refine hK.out _ _ ?_ (fun hHeld2 => ?_)
  · exact key_kept Hk.out hkb
  clear hK K hHeld
  have hHeld := hHeld2
  clear hHeld2
  try simp only [sA, gA]
  refine wpAnyH_done (by kernel_rfl) ?_ _
  clear hHeld
  have HB2 : Hid (TurnAt (W1.drew.setRow w.heap.size (List.take 0 z64b ++ List.map byteV (bl x) ++ List.drop (0 + (List.map byteV (bl x)).length) z64b).toArray) w.heap.size 126 (padK (bl x) c) (key64 (bl x)) 0) := by
    have h := setRow_heap W1.drew w.heap.size _ (List.take 0 z64b ++ List.map byteV (bl x) ++ List.drop (0 + (List.map byteV (bl x)).length) z64b).toArray _ _ HB.out.drew
    have e : List.take 0 z64b ++ List.map byteV (bl x) ++ List.drop (0 + (List.map byteV (bl x)).length) z64b = ((padK (bl x) c).take 0 ++ (key64 (bl x)).drop 0).map byteV := by
      unfold key64 z64b
      rw [List.take_zero, List.take_zero, List.drop_zero, List.nil_append, List.nil_append, Nat.zero_add, List.length_map, List.drop_replicate, List.map_append, List.map_replicate]
      rfl
    rw [e] at h ⊢
    exact h
  have HBel2 : Hid (Below w.heap.size w (W1.drew.setRow w.heap.size (List.take 0 z64b ++ List.map byteV (bl x) ++ List.drop (0 + (List.map byteV (bl x)).length) z64b).toArray)) := below_setRow HBel.out.drew (Nat.le_refl _) _
  generalize W1.drew.setRow w.heap.size (List.take 0 z64b ++ List.map byteV (bl x) ++ List.drop (0 + (List.map byteV (bl x)).length) z64b).toArray = W2 at *
  have hl2 : Hid ((key64 (bl x)).length = 64) := key64_len _ (by rw [bl_len]; exact hx)
  have hl1 : Hid ((padK (bl x) c).length = 64) := by unfold Hid padK; rw [List.length_map]; exact hl2.out
  have hat : Hid (∀ i y, (key64 (bl x))[i]? = some y → (padK (bl x) c)[i]? = some (bxor y c)) := fun i y h => by unfold padK; rw [List.getElem?_map, h]; rfl
  generalize hL1 : padK (bl x) c = L1 at *
  have hL1H := Lib.hid hL1
  clear hL1
  generalize key64 (bl x) = L2 at *
  clear HB HBel Hk hx
  go_wp2_with fail
  go_loopw [9] (fun q wr => ∃ t : Nat, q = .int .i64 t ∧ Hid (t ≤ 64) ∧ Hid (TurnAt wr w.heap.size 126 L1 L2 t) ∧ Hid (Below w.heap.size w wr)) (fun q _ => 64 - (intOf q).toNat)
  case atStart => exact ⟨0, rfl, Nat.zero_le _, HB2, HBel2⟩
  case round =>
    clear HB2 HBel2
    obtain ⟨t, rfl, ht, hT, hB⟩ := hrel
    by_cases hlt : t < 64
    · have d1 : decide (t < 64) = true := decide_eq_true hlt
      have d2 : decide ((t : Int) < 64) = true := decide_eq_true (by omega)
      obtain ⟨y, hy⟩ : ∃ y, L2[t]? = some y := ⟨_, List.getElem?_eq_getElem (by rw [hl2.out]; exact hlt)⟩
      have cy : wr.cell? ⟨w.heap.size, t, none⟩ = some (.int .u8 (y.toNat : Int)) := hT.out.cell (by rw [hl1.out, hl2.out]) y hy
      have fy := Blk.frozen hT.out t
      have hxy := b_xor_fin y c
      have hT2 := Lib.hid (hT.out.set_ (by rw [hl1.out, hl2.out]) (bxor y c) (hat.out t y hy))
      have hB2 := Lib.hid (hB.out.setCell (p := ⟨w.heap.size, t, none⟩) (Nat.le_refl _) (byteV (bxor y c)))
      have hltH := Lib.hid hlt
      clear hy
      go_wp2_with fail
      refine ⟨⟨t + 1, by go_num, hltH.out, hT2, hB2⟩, ?_⟩
      have := hltH.out
      simp [intOf]
      omega
    · have d1 : decide (t < 64) = false := decide_eq_false hlt
      have d2 : decide ((t : Int) < 64) = false := decide_eq_false (by omega)
      have e64 : t = 64 := Nat.le_antisymm ht (Nat.le_of_not_lt hlt)
      have hcv : (convert 65 9 (.slice (some ⟨w.heap.size, 0, none⟩) 64 64)).run Tryd.prog wr = .ok (.string ⟨L1.toArray⟩) wr := by
        have h := hT.out
        rw [e64] at h
        have h2 := conv_bytes (c := 64) (blk_bytes (h.done hl1.out hl2.out))
        rw [hl1.out] at h2
        exact h2
      clear e64 hlt
      go_wp2_with fail
      go_ret
      exact ⟨by rw [hL1H.out]; rfl, hB.out⟩
end Go.Proofs.YtbhagfdkipgggaaDoor
namespace Go.Proofs.YtbhagfdkipgggaaDoor
open Go.RowKit Go.Shelf
attribute [local go_sem] Oper.semAt_some
/-- The key of a code: hashed if it is long. -/
def keyOf (k : List UInt8) : List UInt8 := if k.length ≤ 64 then k else sumL k
theorem keyOf_len (k : List UInt8) : (keyOf k).length ≤ 64 := by
  unfold keyOf
  by_cases h : k.length ≤ 64
  · rw [if_pos h]; exact h
  · rw [if_neg h]; unfold sumL; rw [digest_len]; decide
def macL (k t : List UInt8) : List UInt8 := sumL (padK (keyOf k) 92 ++ sumL (padK (keyOf k) 54 ++ t))
theorem padK_len (k : List UInt8) (c : UInt8) (h : k.length ≤ 64) : (padK k c).length = 64 := by unfold padK; rw [List.length_map]; exact key64_len k h
theorem sumL_len (b : List UInt8) : (sumL b).length = 32 := digest_len _
theorem macL_len (k t : List UInt8) : (macL k t).length = 32 := sumL_len _
theorem add_n (w : World) (m : List UInt8) (s : S8) (k : List UInt8) (x : ByteArray) (N M : Nat) (hN : m.length = N) (hM : N + x.size = M) (hS : StrOf iv m s k) (hK : KAt w 1) (hlen : M < 100000000000) :
    Calls Tryd.prog 98 #[.agg (strL s k N).toArray, .string x] w fun e w' => ∃ s' k', e = .returned (.agg (strL s' k' M).toArray) ∧ StrOf iv (m ++ bl x) s' k' ∧ Below w.heap.size w w' := by
  subst hN hM
  exact add_any w m s k x hS hK (by omega)
theorem stsum_n (w : World) (m : List UInt8) (s : S8) (k : List UInt8) (N : Nat) (hN : m.length = N) (hS : StrOf iv m s k) (hK : KAt w 1) (hlen : N < 100000000000) :
    Calls Tryd.prog 99 #[.agg (strL s k N).toArray] w fun e w' => e = .returned (.agg ((sumL m).map byteV).toArray) ∧ Below w.heap.size w w' := by
  subst hN
  exact stsum_any w m s k hS hK hlen
def txt (l : List UInt8) : ByteArray := ⟨l.toArray⟩
theorem bl_txt (l : List UInt8) : bl (txt l) = l := rfl
theorem txt_size (l : List UInt8) : (txt l).size = l.length := by rw [← bl_len, bl_txt]
theorem txt_bl (x : ByteArray) : txt (bl x) = x := by unfold txt bl; rw [Array.toArray_toList]
set_option maxRecDepth 100000 in
set_option maxHeartbeats 3200000 in
theorem mac_any (w : World) (key text : ByteArray) (hK : KAt w 1) (hk : key.size < 10000000000) (ht : text.size < 10000000000) :
    Calls Tryd.prog 81 #[.string key, .string text] w fun e w' => e = .returned (.string (txt (macL (bl key) (bl text)))) ∧ Below w.heap.size w w' := by
  go_enter Tryd.func81, Tryd.ntmps81
  go_upto_region 1 with fail
  refine world_is (P := fun W => Code.wp _ _ _ _ W) (fun W1 hW1 => ?_)
  have HBel : Hid (Below w.heap.size w W1) := by unfold Hid; rw [← hW1]; exact (Below.refl _ w).alloc (Nat.le_refl _) _
  have HB : Hid (Blk W1 w.heap.size 9 #[.string key]) := by unfold Hid; rw [← hW1]; exact Blk.new w _ _
  have hKH := Lib.hid hK
  have hsz : W1.heap.size = w.heap.size + 1 := by rw [← hW1]; simp
  clear hW1 hK
  have ck : W1.cell? ⟨w.heap.size, 0, none⟩ = some (.string key) := HB.out.cell 0
  go_upto_if 11 with fail
  go_cut [5] from 11 to 16 (fun p wx => ∃ y : ByteArray, Hid (bl y = keyOf (bl key)) ∧ Hid (Blk wx w.heap.size 9 #[.string y]) ∧ Hid (Below w.heap.size w wx))
  case first =>
    by_cases h64 : key.size ≤ 64
    · have d3 : decide (64 < key.size) = false := decide_eq_false (by omega)
      have d4 : decide ((64 : Int) < (key.size : Int)) = false := decide_eq_false (by omega)
      have hy : Hid (bl key = keyOf (bl key)) := by unfold Hid keyOf; rw [if_pos (by rw [bl_len]; exact h64)]
      go_wp2_with fail
      go_meet
      exact ⟨key, hy, HB, HBel⟩
    · have d3 : decide (64 < key.size) = true := decide_eq_true (by omega)
      have d4 : decide ((64 : Int) < (key.size : Int)) = true := decide_eq_true (by omega)
      have hy : Hid (sumL (bl key) = keyOf (bl key)) := by unfold Hid keyOf; rw [if_neg (by rw [bl_len]; exact h64)]
      obtain ⟨c, w2, hcv, hby, hB2, hs2⟩ := conv_text W1 key
      have HS : Hid (Calls Tryd.prog 95 #[.slice (some ⟨W1.heap.size, 0, none⟩) key.size c] w2 fun e w' => e = .returned (.agg ((sumL (bl key)).map byteV).toArray) ∧ Below w2.heap.size w2 w') :=
        sum_any w2 W1.heap.size 0 c key.size (bl key) (bl_len key) hby ((KAt.below hKH.out HBel.out).below hB2) (by omega)
      have hkb2 := Lib.hid (HB.out.below hB2 HB.out.lt)
      have HBel2 := Lib.hid (HBel.out.trans (hB2.mono HBel.out.size))
      rw [hsz] at hcv HS
      have hDl : Hid (((sumL (bl key)).map byteV).length = 32) := by unfold Hid; rw [List.length_map, sumL_len]
      have hDo : Hid (∀ v ∈ (sumL (bl key)).map byteV, v.oneCell' = true) := byteV_one _
      have hDb : Hid (∀ (W : World) (g : Nat), Blk W g 102 ((sumL (bl key)).map byteV).toArray → (convert 65 9 (.slice (some ⟨g, 0, none⟩) 32 32)).run Tryd.prog W = .ok (.string (txt (sumL (bl key)))) W) := fun W g h => by
        have h2 := conv_bytes (c := 32) (blk_bytes h)
        rw [sumL_len] at h2
        exact h2
      have hyb : Hid (bl (txt (sumL (bl key))) = keyOf (bl key)) := hy
      generalize (sumL (bl key)).map byteV = D at *
      generalize txt (sumL (bl key)) = Y at *
      clear hby hB2 hs2 hy
      go_wp2_with (first | (go_at_call 95; refine HS.out.mono ?_; rintro e w3 ⟨rfl, hB3⟩; have HB3 := Lib.hid hB3; clear hB3) | (refine wpList_store_mid rfl 102 _ _ rfl w3.heap.size 0 D.toArray rfl rfl (there_of_blk (o := 0) (Blk.new w3 102 z32) (by rw [List.size_toArray, hDl.out]; exact Nat.le_refl _)) (by rw [List.size_toArray, hDl.out]; exact infoA32b) (all_oneCell_toArray hDo.out) ?_; refine world_is (P := fun W => wpList _ _ _ _ _ W) (fun W4 hW4 => ?_); have hb4 : Blk W4 w3.heap.size 102 D.toArray := (by rw [← hW4]; exact blk_setWhole (Blk.new w3 102 z32) D (by rw [hDl.out]; rfl)); have hcv4 := hDb.out W4 _ hb4; have hl4 : Below w3.heap.size w3 W4 := (by rw [← hW4]; exact below_setCells (Nat.le_refl _) _ 0 _ ((Below.refl _ w3).alloc (Nat.le_refl _) _)); have hk3 := hkb2.out.below HB3.out hkb2.out.lt; have hk4 := hk3.below hl4 hk3.lt; have ck4 := hk4.cell 0; have fk4 := hk4.frozen 0; have HK4 := Lib.hid hk4; have HL4 := Lib.hid ((HBel2.out.trans (HB3.out.mono HBel2.out.size)).trans (hl4.mono (HBel2.out.trans (HB3.out.mono HBel2.out.size)).size)); clear hW4 hb4 hl4 hk3 hk4) | fail)
      go_meet
      exact ⟨Y, hyb, HK4.out.set_ 0 _, HL4.out.setCell (p := ⟨w.heap.size, 0, none⟩) (Nat.le_refl _) _⟩
  case rest =>
    obtain ⟨y, hy, HBc, HBelc⟩ := hcut
    clear HB HBel hsz ck
    have hyl : y.size ≤ 64 := by rw [← bl_len, hy]; exact keyOf_len _
    have HKc := Lib.hid (KAt.below hKH.out HBelc.out)
    have PAD1 : Hid (∀ wx, Below wc.heap.size wc wx → Calls Tryd.prog 96 #[.int .u8 54, .pointer (some ⟨w.heap.size, 0, none⟩)] wx fun e w' => e = .returned (.string (txt (padK (bl y) 54))) ∧ Below wx.heap.size wx w') := fun wx hB =>
      mac1_any wx w.heap.size y 54 hyl ((HBc.out.below hB HBc.out.lt).cell 0) (HBc.out.below hB HBc.out.lt).lt
    have PAD : Hid (∀ wx, Below w.heap.size w wx → Blk wx w.heap.size 9 #[.string y] → ∀ c : UInt8, Calls Tryd.prog 96 #[.int .u8 (c.toNat : Int), .pointer (some ⟨w.heap.size, 0, none⟩)] wx fun e w' => e = .returned (.string (txt (padK (bl y) c))) ∧ Below wx.heap.size wx w') := fun wx _ hb c =>
      mac1_any wx w.heap.size y c hyl (hb.cell 0) hb.lt
    obtain ⟨P1, hP1⟩ : ∃ P1, padK (bl y) 54 = P1 := ⟨_, rfl⟩
    have hP1l : P1.length = 64 := by rw [← hP1]; exact padK_len _ _ (by rw [bl_len]; exact hyl)
    obtain ⟨M1, hM1⟩ : ∃ M1, P1 ++ bl text = M1 := ⟨_, rfl⟩
    have hM1l : M1.length = 64 + text.size := by rw [← hM1, List.length_append, hP1l, bl_len]
    have ADD0 : Hid (∀ wx, Below wc.heap.size wc wx → Calls Tryd.prog 98 #[.agg (strL iv (List.replicate 64 0) 0).toArray, .string (txt P1)] wx fun e w' => ∃ s2 k2, e = .returned (.agg (strL s2 k2 64).toArray) ∧ StrOf iv P1 s2 k2 ∧ Below wx.heap.size wx w') := fun wx hB =>
      add_n wx [] iv (List.replicate 64 0) (txt P1) 0 64 rfl (by rw [txt_size, hP1l]) (strOf_start iv _ (List.length_replicate ..)) (HKc.out.below hB) (by decide)
    have ADD1 : Hid (∀ wx s k, Below wc.heap.size wc wx → StrOf iv P1 s k → Calls Tryd.prog 98 #[.agg (strL s k 64).toArray, .string text] wx fun e w' => ∃ s2 k2, e = .returned (.agg (strL s2 k2 (64 + text.size)).toArray) ∧ StrOf iv M1 s2 k2 ∧ Below wx.heap.size wx w') := fun wx s k hB hS => by
      have h := add_n wx P1 s k text 64 (64 + text.size) hP1l rfl hS (HKc.out.below hB) (by omega)
      rw [hM1] at h
      exact h
    have SUM1 : Hid (∀ wx s k, Below wc.heap.size wc wx → StrOf iv M1 s k → Calls Tryd.prog 99 #[.agg (strL s k (64 + text.size)).toArray] wx fun e w' => e = .returned (.agg ((sumL M1).map byteV).toArray) ∧ Below wx.heap.size wx w') := fun wx s k hB hS =>
      stsum_n wx M1 s k _ hM1l hS (HKc.out.below hB) (by omega)
    have PAD1 : Hid (∀ wx, Below wc.heap.size wc wx → Calls Tryd.prog 96 #[.int .u8 54, .pointer (some ⟨w.heap.size, 0, none⟩)] wx fun e w' => e = .returned (.string (txt P1)) ∧ Below wx.heap.size wx w') := fun wx hB => by
      rw [← hP1]
      exact PAD.out wx (HBelc.out.trans (hB.mono HBelc.out.size)) (HBc.out.below hB HBc.out.lt) 54
    have hD1 : Hid (((sumL M1).map byteV).length = 32) := by unfold Hid; rw [List.length_map, sumL_len]
    have hDo : Hid (∀ v ∈ (sumL M1).map byteV, v.oneCell' = true) := byteV_one _
    have hP1H := Lib.hid hP1
    have hM1H := Lib.hid hM1
    obtain ⟨D, hD⟩ : ∃ D, (sumL M1).map byteV = D := ⟨_, rfl⟩
    have hDH := Lib.hid hD
    rw [hD] at SUM1 hD1 hDo
    clear hP1 hM1 hP1l hM1l hD hyl
    go_upto_region 6 with (first
      | (go_at_call 99; refine (SUM1.out _ s3 k3 HB4.out HS3.out).mono ?_; rintro e w5 ⟨rfl, hB⟩; have HB5 := Lib.hid (HB4.out.trans (hB.mono HB4.out.size)); clear hB)
      | (go_at_call 98; refine (ADD1.out _ s2 k2 HB3.out HS2.out).mono ?_; rintro e w4 ⟨s3, k3, rfl, hS, hB⟩; have HB4 := Lib.hid (HB3.out.trans (hB.mono HB3.out.size)); have HS3 := Lib.hid hS; clear hB hS)
      | (go_at_call 98; refine (ADD0.out _ HB2.out).mono ?_; rintro e w3 ⟨s2, k2, rfl, hS, hB⟩; have HB3 := Lib.hid (HB2.out.trans (hB.mono HB2.out.size)); have HS2 := Lib.hid hS; clear hB hS)
      | (go_at_call 96; refine (PAD1.out _ HB1.out).mono ?_; rintro e w2 ⟨rfl, hB⟩; have HB2 := Lib.hid (HB1.out.trans (hB.mono HB1.out.size)); clear hB)
      | (go_at_call 97; refine (begin_any _).mono ?_; rintro e w1 ⟨rfl, hB⟩; have HB1 := Lib.hid hB; clear hB)
      | (refine wpList_store_mid rfl 102 _ _ rfl w5.heap.size 0 D.toArray rfl rfl (there_of_blk (o := 0) (Blk.new w5 102 z32) (by rw [List.size_toArray, hD1.out]; exact Nat.le_refl _)) (by rw [List.size_toArray, hD1.out]; exact infoA32b) (all_oneCell_toArray hDo.out) ?_)
      | fail)
    try simp only [Act.put]
    refine world_is (P := fun W => Code.wp _ _ _ _ W) (fun W7 hW7 => ?_)
    have hib : Hid (Blk W7 w5.heap.size 102 D.toArray) := by unfold Hid; rw [← hW7]; exact blk_setWhole (Blk.new w5 102 z32) D (by rw [hD1.out]; rfl)
    have hBel7 : Hid (Below wc.heap.size wc W7) := by unfold Hid; rw [← hW7]; exact below_setCells HB5.out.size _ 0 _ (HB5.out.alloc HB5.out.size _)
    clear hW7 HB4 HB3 HB2 HB1 HS2 HS3 ADD0 ADD1 SUM1 PAD1
    obtain ⟨ib, hibe⟩ : ∃ ib, w5.heap.size = ib := ⟨_, rfl⟩
    rw [hibe] at hib ⊢
    clear hibe HB5
    obtain ⟨X1, hX1⟩ : ∃ X1, txt (sumL M1) = X1 := ⟨_, rfl⟩
    have hX1b : bl X1 = sumL M1 := by rw [← hX1]; rfl
    have hX1s : X1.size = 32 := by rw [← bl_len, hX1b, sumL_len]
    have CV : Hid (∀ wx, Below W7.heap.size W7 wx → (convert 65 9 (.slice (some ⟨ib, 0, none⟩) 32 32)).run Tryd.prog wx = .ok (.string X1) wx) := fun wx hB => by
      have h := hib.out.below hB hib.out.lt
      rw [← hDH.out] at h
      have h2 := conv_bytes (c := 32) (blk_bytes h)
      rw [sumL_len] at h2
      rw [← hX1]
      exact h2
    obtain ⟨P2, hP2⟩ : ∃ P2, padK (bl y) 92 = P2 := ⟨_, rfl⟩
    have hyl : y.size ≤ 64 := by rw [← bl_len, hy]; exact keyOf_len _
    have hP2l : P2.length = 64 := by rw [← hP2]; exact padK_len _ _ (by rw [bl_len]; exact hyl)
    obtain ⟨M2, hM2⟩ : ∃ M2, P2 ++ sumL M1 = M2 := ⟨_, rfl⟩
    have hM2l : M2.length = 96 := by rw [← hM2, List.length_append, hP2l, sumL_len]
    have HKd := Lib.hid (HKc.out.below hBel7.out)
    have HBd := Lib.hid (HBc.out.below hBel7.out HBc.out.lt)
    have HBeld := Lib.hid (HBelc.out.trans (hBel7.out.mono HBelc.out.size))
    have PAD2 : Hid (∀ wx, Below W7.heap.size W7 wx → Calls Tryd.prog 96 #[.int .u8 92, .pointer (some ⟨w.heap.size, 0, none⟩)] wx fun e w' => e = .returned (.string (txt P2)) ∧ Below wx.heap.size wx w') := fun wx hB => by
      rw [← hP2]
      exact PAD.out wx (HBeld.out.trans (hB.mono HBeld.out.size)) (HBd.out.below hB HBd.out.lt) 92
    have ADDA : Hid (∀ wx, Below W7.heap.size W7 wx → Calls Tryd.prog 98 #[.agg (strL iv (List.replicate 64 0) 0).toArray, .string (txt P2)] wx fun e w' => ∃ s2 k2, e = .returned (.agg (strL s2 k2 64).toArray) ∧ StrOf iv P2 s2 k2 ∧ Below wx.heap.size wx w') := fun wx hB =>
      add_n wx [] iv (List.replicate 64 0) (txt P2) 0 64 rfl (by rw [txt_size, hP2l]) (strOf_start iv _ (List.length_replicate ..)) (HKd.out.below hB) (by decide)
    have ADDB : Hid (∀ wx s k, Below W7.heap.size W7 wx → StrOf iv P2 s k → Calls Tryd.prog 98 #[.agg (strL s k 64).toArray, .string X1] wx fun e w' => ∃ s2 k2, e = .returned (.agg (strL s2 k2 96).toArray) ∧ StrOf iv M2 s2 k2 ∧ Below wx.heap.size wx w') := fun wx s k hB hS => by
      have h := add_n wx P2 s k X1 64 96 hP2l (by rw [hX1s]) hS (HKd.out.below hB) (by decide)
      rw [hX1b, hM2] at h
      exact h
    have SUM2 : Hid (∀ wx s k, Below W7.heap.size W7 wx → StrOf iv M2 s k → Calls Tryd.prog 99 #[.agg (strL s k 96).toArray] wx fun e w' => e = .returned (.agg ((sumL M2).map byteV).toArray) ∧ Below wx.heap.size wx w') := fun wx s k hB hS =>
      stsum_n wx M2 s k _ hM2l hS (HKd.out.below hB) (by decide)
    have HLD : Hid (((sumL M2).map byteV).length = 32) := by unfold Hid; rw [List.length_map, sumL_len]
    have hD2o : Hid (∀ v ∈ (sumL M2).map byteV, v.oneCell' = true) := byteV_one _
    have hfin : Hid (sumL M2 = macL (bl key) (bl text)) := by
      unfold Hid macL
      rw [← hy, hP2, hP1H.out, hM1H.out, hM2]
    obtain ⟨D2, hD2⟩ : ∃ D2, (sumL M2).map byteV = D2 := ⟨_, rfl⟩
    have hD2H := Lib.hid hD2
    rw [hD2] at SUM2 HLD hD2o
    clear hX1 hX1b hX1s hP2 hyl hP2l hM2 hM2l hD2 hib HKc HBc HBelc hBel7
    go_cut [8] from 25 to 32 (fun p wx => ∃ ob, p = .pointer (some ⟨ob, 0, none⟩) ∧ Hid (Blk wx ob 102 D2.toArray) ∧ Hid (Below W7.heap.size W7 wx))
    case first =>
      refine wp_region_held_drew (S := (fun w' => (convert 65 9 (.slice (some ⟨ib, 0, none⟩) 32 32)).run Tryd.prog w' = .ok (.string X1) w')) (by kernel_rfl) (CV.out _ (Below.refl _ W7).drew) (fun hHeld => ?_)
      refine' wpAnyH_take (i := 1) (v := ?v1) rfl (by kernel_rfl) (by kernel_rfl) (by kernel_rfl) (fun _ _ _ h => h) (Or.inl ⟨by rfl, ?hy1⟩) hHeld ?rest1
      case hy1 => intro w hSw; (try dsimp only at hSw); go_simp; all_goals with_reducible rfl
      try simp only [sA, gA]
      refine' wpAnyH_take (i := 4) (v := ?v4) rfl (by kernel_rfl) (by kernel_rfl) (by kernel_rfl) (fun _ _ _ h => h) (Or.inl ⟨by rfl, ?hy4⟩) hHeld ?rest4
      case hy4 => intro w hSw; (try dsimp only at hSw); go_simp; all_goals with_reducible rfl
      try simp only [sA, gA]
      refine' wpAnyH_take (i := 5) (v := ?v5) rfl (by kernel_rfl) (by kernel_rfl) (by kernel_rfl) (fun _ _ _ h => h) (Or.inl ⟨by rfl, ?hy5⟩) hHeld ?rest5
      case hy5 => intro w hSw; (try dsimp only at hSw); go_simp; all_goals with_reducible rfl
      try simp only [sA, gA]
      refine wpAnyH_ready (rs := [0, 8]) (by kernel_rfl) (by simp) ?_
      refine AllReadyH.cons rfl (fun K hK => ?_) (AllReadyH.cons rfl (fun K hK => ?_) AllReadyH.nil)
      ·
        go_simp
        go_at_call 97
        refine (begin_any _).mono ?_
        rintro e x1 ⟨rfl, hB⟩
        have HBx1 := Lib.hid (((Below.refl W7.heap.size W7).drew).trans (hB.mono ((Below.refl W7.heap.size W7).drew).size))
        clear hB
        go_wp2_with fail
        refine hK.out _ _ ?_ (fun hHeld2 => ?_)
        · exact CV.out _ HBx1.out
        clear hK K hHeld
        have hHeld := hHeld2
        clear hHeld2
        try simp only [sA, gA]
        refine wpAnyH_ready (rs := [2, 8]) (by kernel_rfl) (by simp) ?_
        refine AllReadyH.cons rfl (fun K hK => ?_) (AllReadyH.cons rfl (fun K hK => ?_) AllReadyH.nil)
        ·
          go_simp
          go_at_call 96
          refine (PAD2.out _ (HBx1.out)).mono ?_
          rintro e x2 ⟨rfl, hB⟩
          have HBx2 := Lib.hid ((HBx1.out).trans (hB.mono (HBx1.out).size))
          clear hB
          go_wp2_with fail
          refine hK.out _ _ ?_ (fun hHeld2 => ?_)
          · exact CV.out _ HBx2.out
          clear hK K hHeld
          have hHeld := hHeld2
          clear hHeld2
          try simp only [sA, gA]
          refine wpAnyH_ready (rs := [3, 8]) (by kernel_rfl) (by simp) ?_
          refine AllReadyH.cons rfl (fun K hK => ?_) (AllReadyH.cons rfl (fun K hK => ?_) AllReadyH.nil)
          ·
            go_simp
            go_at_call 98
            refine (ADDA.out _ (HBx2.out)).mono ?_
            rintro e x3 ⟨s3, k3, rfl, hS3, hB⟩
            have HS3 := Lib.hid hS3
            clear hS3
            have HBx3 := Lib.hid ((HBx2.out).trans (hB.mono (HBx2.out).size))
            clear hB
            go_wp2_with fail
            refine hK.out _ _ ?_ (fun hHeld2 => ?_)
            · exact CV.out _ HBx3.out
            clear hK K hHeld
            have hHeld := hHeld2
            clear hHeld2
            try simp only [sA, gA]
            refine wpAnyH_ready (rs := [6, 8]) (by kernel_rfl) (by simp) ?_
            refine AllReadyH.cons rfl (fun K hK => ?_) (AllReadyH.cons rfl (fun K hK => ?_) AllReadyH.nil)
            ·
              go_simp
              go_at_call 98
              refine (ADDB.out _ s3 k3 (HBx3.out) HS3.out).mono ?_
              rintro e x4 ⟨s4, k4, rfl, hS4, hB⟩
              have HS4 := Lib.hid hS4
              clear hS4
              have HBx4 := Lib.hid ((HBx3.out).trans (hB.mono (HBx3.out).size))
              clear hB
              go_wp2_with fail
              refine hK.out _ _ ?_ (fun hHeld2 => ?_)
              · exact CV.out _ HBx4.out
              clear hK K hHeld
              have hHeld := hHeld2
              clear hHeld2
              try simp only [sA, gA]
              refine wpAnyH_ready (rs := [7, 8]) (by kernel_rfl) (by simp) ?_
              refine AllReadyH.cons rfl (fun K hK => ?_) (AllReadyH.cons rfl (fun K hK => ?_) AllReadyH.nil)
              ·
                go_simp
                go_at_call 99
                refine (SUM2.out _ s4 k4 (HBx4.out) HS4.out).mono ?_
                rintro e x5 ⟨rfl, hB⟩
                have HBx5 := Lib.hid ((HBx4.out).trans (hB.mono (HBx4.out).size))
                clear hB
                go_wp2_with fail
                refine hK.out _ _ ?_ (fun hHeld2 => ?_)
                · exact CV.out _ HBx5.out
                clear hK K hHeld
                have hHeld := hHeld2
                clear hHeld2
                try simp only [sA, gA]
                refine wpAnyH_ready (rs := [8]) (by kernel_rfl) (by simp) ?_
                refine AllReadyH.cons rfl (fun K hK => ?_) AllReadyH.nil
                go_simp
                have hge : Hid (W7.heap.size ≤ (x5).heap.size) := (HBx5.out).size
                have HBx6 := Lib.hid ((HBx5.out).alloc (HBx5.out).size (.cells z32 102))
                have HOx6 := Lib.hid (Blk.new (x5) 102 z32)
                refine hK.out _ _ ?_ (fun hHeld2 => ?_)
                · exact CV.out _ HBx6.out
                clear hK K hHeld
                have hHeld := hHeld2
                clear hHeld2
                try simp only [sA, gA]
                refine wpAnyH_ready (rs := [9]) (by kernel_rfl) (by simp) ?_
                refine AllReadyH.cons rfl (fun K hK => ?_) AllReadyH.nil
                refine wp_store_mid 102 _ _ rfl ((x5).heap.size) 0 D2.toArray rfl rfl ?h1x7 ?h2x7 ?h3x7 ?h4x7
                case h1x7 => exact there_of_blk (o := 0) (HOx6.out) (by rw [List.size_toArray, HLD.out]; exact Nat.le_refl _)
                case h2x7 => rw [List.size_toArray, HLD.out]; exact infoA32b
                case h3x7 => exact all_oneCell_toArray hD2o.out
                case h4x7 =>
                refine hK.out _ _ ?_ (fun hHeld2 => ?_)
                · exact CV.out _ (below_setCells hge.out _ 0 _ (HBx6.out))
                clear hK K hHeld
                have hHeld := hHeld2
                clear hHeld2
                try simp only [Act.put, List.getElem_toArray, List.getElem_cons_zero, List.getElem_cons_succ]
                refine wpAnyH_done (by kernel_rfl) ?_ _
                clear hHeld
                go_wp2_with fail
                go_meet
                exact ⟨_, rfl, blk_setWhole (HOx6.out) D2 (by rw [HLD.out]; rfl), below_setCells hge.out _ 0 _ (HBx6.out)⟩
              ·
                go_simp
                have hge : Hid (W7.heap.size ≤ (x4).heap.size) := (HBx4.out).size
                have HBx8 := Lib.hid ((HBx4.out).alloc (HBx4.out).size (.cells z32 102))
                have HOx8 := Lib.hid (Blk.new (x4) 102 z32)
                refine hK.out _ _ ?_ (fun hHeld2 => ?_)
                · exact CV.out _ HBx8.out
                clear hK K hHeld
                have hHeld := hHeld2
                clear hHeld2
                try simp only [sA, gA]
                refine wpAnyH_ready (rs := [7]) (by kernel_rfl) (by simp) ?_
                refine AllReadyH.cons rfl (fun K hK => ?_) AllReadyH.nil
                go_simp
                go_at_call 99
                refine (SUM2.out _ s4 k4 (HBx8.out) HS4.out).mono ?_
                rintro e x9 ⟨rfl, hB⟩
                have HBx9 := Lib.hid ((HBx8.out).trans (hB.mono (HBx8.out).size))
                have HOx9 := Lib.hid ((HOx8.out).below hB (HOx8.out).lt)
                clear hB
                go_wp2_with fail
                refine hK.out _ _ ?_ (fun hHeld2 => ?_)
                · exact CV.out _ HBx9.out
                clear hK K hHeld
                have hHeld := hHeld2
                clear hHeld2
                try simp only [sA, gA]
                refine wpAnyH_ready (rs := [9]) (by kernel_rfl) (by simp) ?_
                refine AllReadyH.cons rfl (fun K hK => ?_) AllReadyH.nil
                refine wp_store_mid 102 _ _ rfl ((x4).heap.size) 0 D2.toArray rfl rfl ?h1x10 ?h2x10 ?h3x10 ?h4x10
                case h1x10 => exact there_of_blk (o := 0) (HOx9.out) (by rw [List.size_toArray, HLD.out]; exact Nat.le_refl _)
                case h2x10 => rw [List.size_toArray, HLD.out]; exact infoA32b
                case h3x10 => exact all_oneCell_toArray hD2o.out
                case h4x10 =>
                refine hK.out _ _ ?_ (fun hHeld2 => ?_)
                · exact CV.out _ (below_setCells hge.out _ 0 _ (HBx9.out))
                clear hK K hHeld
                have hHeld := hHeld2
                clear hHeld2
                try simp only [Act.put, List.getElem_toArray, List.getElem_cons_zero, List.getElem_cons_succ]
                refine wpAnyH_done (by kernel_rfl) ?_ _
                clear hHeld
                go_wp2_with fail
                go_meet
                exact ⟨_, rfl, blk_setWhole (HOx9.out) D2 (by rw [HLD.out]; rfl), below_setCells hge.out _ 0 _ (HBx9.out)⟩
            ·
              go_simp
              have hge : Hid (W7.heap.size ≤ (x3).heap.size) := (HBx3.out).size
              have HBx11 := Lib.hid ((HBx3.out).alloc (HBx3.out).size (.cells z32 102))
              have HOx11 := Lib.hid (Blk.new (x3) 102 z32)
              refine hK.out _ _ ?_ (fun hHeld2 => ?_)
              · exact CV.out _ HBx11.out
              clear hK K hHeld
              have hHeld := hHeld2
              clear hHeld2
              try simp only [sA, gA]
              refine wpAnyH_ready (rs := [6]) (by kernel_rfl) (by simp) ?_
              refine AllReadyH.cons rfl (fun K hK => ?_) AllReadyH.nil
              go_simp
              go_at_call 98
              refine (ADDB.out _ s3 k3 (HBx11.out) HS3.out).mono ?_
              rintro e x12 ⟨s4, k4, rfl, hS4, hB⟩
              have HS4 := Lib.hid hS4
              clear hS4
              have HBx12 := Lib.hid ((HBx11.out).trans (hB.mono (HBx11.out).size))
              have HOx12 := Lib.hid ((HOx11.out).below hB (HOx11.out).lt)
              clear hB
              go_wp2_with fail
              refine hK.out _ _ ?_ (fun hHeld2 => ?_)
              · exact CV.out _ HBx12.out
              clear hK K hHeld
              have hHeld := hHeld2
              clear hHeld2
              try simp only [sA, gA]
              refine wpAnyH_ready (rs := [7]) (by kernel_rfl) (by simp) ?_
              refine AllReadyH.cons rfl (fun K hK => ?_) AllReadyH.nil
              go_simp
              go_at_call 99
              refine (SUM2.out _ s4 k4 (HBx12.out) HS4.out).mono ?_
              rintro e x13 ⟨rfl, hB⟩
              have HBx13 := Lib.hid ((HBx12.out).trans (hB.mono (HBx12.out).size))
              have HOx13 := Lib.hid ((HOx12.out).below hB (HOx12.out).lt)
              clear hB
              go_wp2_with fail
              refine hK.out _ _ ?_ (fun hHeld2 => ?_)
              · exact CV.out _ HBx13.out
              clear hK K hHeld
              have hHeld := hHeld2
              clear hHeld2
              try simp only [sA, gA]
              refine wpAnyH_ready (rs := [9]) (by kernel_rfl) (by simp) ?_
              refine AllReadyH.cons rfl (fun K hK => ?_) AllReadyH.nil
              refine wp_store_mid 102 _ _ rfl ((x3).heap.size) 0 D2.toArray rfl rfl ?h1x14 ?h2x14 ?h3x14 ?h4x14
              case h1x14 => exact there_of_blk (o := 0) (HOx13.out) (by rw [List.size_toArray, HLD.out]; exact Nat.le_refl _)
              case h2x14 => rw [List.size_toArray, HLD.out]; exact infoA32b
              case h3x14 => exact all_oneCell_toArray hD2o.out
              case h4x14 =>
              refine hK.out _ _ ?_ (fun hHeld2 => ?_)
              · exact CV.out _ (below_setCells hge.out _ 0 _ (HBx13.out))
              clear hK K hHeld
              have hHeld := hHeld2
              clear hHeld2
              try simp only [Act.put, List.getElem_toArray, List.getElem_cons_zero, List.getElem_cons_succ]
              refine wpAnyH_done (by kernel_rfl) ?_ _
              clear hHeld
              go_wp2_with fail
              go_meet
              exact ⟨_, rfl, blk_setWhole (HOx13.out) D2 (by rw [HLD.out]; rfl), below_setCells hge.out _ 0 _ (HBx13.out)⟩
          ·
            go_simp
            have hge : Hid (W7.heap.size ≤ (x2).heap.size) := (HBx2.out).size
            have HBx15 := Lib.hid ((HBx2.out).alloc (HBx2.out).size (.cells z32 102))
            have HOx15 := Lib.hid (Blk.new (x2) 102 z32)
            refine hK.out _ _ ?_ (fun hHeld2 => ?_)
            · exact CV.out _ HBx15.out
            clear hK K hHeld
            have hHeld := hHeld2
            clear hHeld2
            try simp only [sA, gA]
            refine wpAnyH_ready (rs := [3]) (by kernel_rfl) (by simp) ?_
            refine AllReadyH.cons rfl (fun K hK => ?_) AllReadyH.nil
            go_simp
            go_at_call 98
            refine (ADDA.out _ (HBx15.out)).mono ?_
            rintro e x16 ⟨s3, k3, rfl, hS3, hB⟩
            have HS3 := Lib.hid hS3
            clear hS3
            have HBx16 := Lib.hid ((HBx15.out).trans (hB.mono (HBx15.out).size))
            have HOx16 := Lib.hid ((HOx15.out).below hB (HOx15.out).lt)
            clear hB
            go_wp2_with fail
            refine hK.out _ _ ?_ (fun hHeld2 => ?_)
            · exact CV.out _ HBx16.out
            clear hK K hHeld
            have hHeld := hHeld2
            clear hHeld2
            try simp only [sA, gA]
            refine wpAnyH_ready (rs := [6]) (by kernel_rfl) (by simp) ?_
            refine AllReadyH.cons rfl (fun K hK => ?_) AllReadyH.nil
            go_simp
            go_at_call 98
            refine (ADDB.out _ s3 k3 (HBx16.out) HS3.out).mono ?_
            rintro e x17 ⟨s4, k4, rfl, hS4, hB⟩
            have HS4 := Lib.hid hS4
            clear hS4
            have HBx17 := Lib.hid ((HBx16.out).trans (hB.mono (HBx16.out).size))
            have HOx17 := Lib.hid ((HOx16.out).below hB (HOx16.out).lt)
            clear hB
            go_wp2_with fail
            refine hK.out _ _ ?_ (fun hHeld2 => ?_)
            · exact CV.out _ HBx17.out
            clear hK K hHeld
            have hHeld := hHeld2
            clear hHeld2
            try simp only [sA, gA]
            refine wpAnyH_ready (rs := [7]) (by kernel_rfl) (by simp) ?_
            refine AllReadyH.cons rfl (fun K hK => ?_) AllReadyH.nil
            go_simp
            go_at_call 99
            refine (SUM2.out _ s4 k4 (HBx17.out) HS4.out).mono ?_
            rintro e x18 ⟨rfl, hB⟩
            have HBx18 := Lib.hid ((HBx17.out).trans (hB.mono (HBx17.out).size))
            have HOx18 := Lib.hid ((HOx17.out).below hB (HOx17.out).lt)
            clear hB
            go_wp2_with fail
            refine hK.out _ _ ?_ (fun hHeld2 => ?_)
            · exact CV.out _ HBx18.out
            clear hK K hHeld
            have hHeld := hHeld2
            clear hHeld2
            try simp only [sA, gA]
            refine wpAnyH_ready (rs := [9]) (by kernel_rfl) (by simp) ?_
            refine AllReadyH.cons rfl (fun K hK => ?_) AllReadyH.nil
            refine wp_store_mid 102 _ _ rfl ((x2).heap.size) 0 D2.toArray rfl rfl ?h1x19 ?h2x19 ?h3x19 ?h4x19
            case h1x19 => exact there_of_blk (o := 0) (HOx18.out) (by rw [List.size_toArray, HLD.out]; exact Nat.le_refl _)
            case h2x19 => rw [List.size_toArray, HLD.out]; exact infoA32b
            case h3x19 => exact all_oneCell_toArray hD2o.out
            case h4x19 =>
            refine hK.out _ _ ?_ (fun hHeld2 => ?_)
            · exact CV.out _ (below_setCells hge.out _ 0 _ (HBx18.out))
            clear hK K hHeld
            have hHeld := hHeld2
            clear hHeld2
            try simp only [Act.put, List.getElem_toArray, List.getElem_cons_zero, List.getElem_cons_succ]
            refine wpAnyH_done (by kernel_rfl) ?_ _
            clear hHeld
            go_wp2_with fail
            go_meet
            exact ⟨_, rfl, blk_setWhole (HOx18.out) D2 (by rw [HLD.out]; rfl), below_setCells hge.out _ 0 _ (HBx18.out)⟩
        ·
          go_simp
          have hge : Hid (W7.heap.size ≤ (x1).heap.size) := (HBx1.out).size
          have HBx20 := Lib.hid ((HBx1.out).alloc (HBx1.out).size (.cells z32 102))
          have HOx20 := Lib.hid (Blk.new (x1) 102 z32)
          refine hK.out _ _ ?_ (fun hHeld2 => ?_)
          · exact CV.out _ HBx20.out
          clear hK K hHeld
          have hHeld := hHeld2
          clear hHeld2
          try simp only [sA, gA]
          refine wpAnyH_ready (rs := [2]) (by kernel_rfl) (by simp) ?_
          refine AllReadyH.cons rfl (fun K hK => ?_) AllReadyH.nil
          go_simp
          go_at_call 96
          refine (PAD2.out _ (HBx20.out)).mono ?_
          rintro e x21 ⟨rfl, hB⟩
          have HBx21 := Lib.hid ((HBx20.out).trans (hB.mono (HBx20.out).size))
          have HOx21 := Lib.hid ((HOx20.out).below hB (HOx20.out).lt)
          clear hB
          go_wp2_with fail
          refine hK.out _ _ ?_ (fun hHeld2 => ?_)
          · exact CV.out _ HBx21.out
          clear hK K hHeld
          have hHeld := hHeld2
          clear hHeld2
          try simp only [sA, gA]
          refine wpAnyH_ready (rs := [3]) (by kernel_rfl) (by simp) ?_
          refine AllReadyH.cons rfl (fun K hK => ?_) AllReadyH.nil
          go_simp
          go_at_call 98
          refine (ADDA.out _ (HBx21.out)).mono ?_
          rintro e x22 ⟨s3, k3, rfl, hS3, hB⟩
          have HS3 := Lib.hid hS3
          clear hS3
          have HBx22 := Lib.hid ((HBx21.out).trans (hB.mono (HBx21.out).size))
          have HOx22 := Lib.hid ((HOx21.out).below hB (HOx21.out).lt)
          clear hB
          go_wp2_with fail
          refine hK.out _ _ ?_ (fun hHeld2 => ?_)
          · exact CV.out _ HBx22.out
          clear hK K hHeld
          have hHeld := hHeld2
          clear hHeld2
          try simp only [sA, gA]
          refine wpAnyH_ready (rs := [6]) (by kernel_rfl) (by simp) ?_
          refine AllReadyH.cons rfl (fun K hK => ?_) AllReadyH.nil
          go_simp
          go_at_call 98
          refine (ADDB.out _ s3 k3 (HBx22.out) HS3.out).mono ?_
          rintro e x23 ⟨s4, k4, rfl, hS4, hB⟩
          have HS4 := Lib.hid hS4
          clear hS4
          have HBx23 := Lib.hid ((HBx22.out).trans (hB.mono (HBx22.out).size))
          have HOx23 := Lib.hid ((HOx22.out).below hB (HOx22.out).lt)
          clear hB
          go_wp2_with fail
          refine hK.out _ _ ?_ (fun hHeld2 => ?_)
          · exact CV.out _ HBx23.out
          clear hK K hHeld
          have hHeld := hHeld2
          clear hHeld2
          try simp only [sA, gA]
          refine wpAnyH_ready (rs := [7]) (by kernel_rfl) (by simp) ?_
          refine AllReadyH.cons rfl (fun K hK => ?_) AllReadyH.nil
          go_simp
          go_at_call 99
          refine (SUM2.out _ s4 k4 (HBx23.out) HS4.out).mono ?_
          rintro e x24 ⟨rfl, hB⟩
          have HBx24 := Lib.hid ((HBx23.out).trans (hB.mono (HBx23.out).size))
          have HOx24 := Lib.hid ((HOx23.out).below hB (HOx23.out).lt)
          clear hB
          go_wp2_with fail
          refine hK.out _ _ ?_ (fun hHeld2 => ?_)
          · exact CV.out _ HBx24.out
          clear hK K hHeld
          have hHeld := hHeld2
          clear hHeld2
          try simp only [sA, gA]
          refine wpAnyH_ready (rs := [9]) (by kernel_rfl) (by simp) ?_
          refine AllReadyH.cons rfl (fun K hK => ?_) AllReadyH.nil
          refine wp_store_mid 102 _ _ rfl ((x1).heap.size) 0 D2.toArray rfl rfl ?h1x25 ?h2x25 ?h3x25 ?h4x25
          case h1x25 => exact there_of_blk (o := 0) (HOx24.out) (by rw [List.size_toArray, HLD.out]; exact Nat.le_refl _)
          case h2x25 => rw [List.size_toArray, HLD.out]; exact infoA32b
          case h3x25 => exact all_oneCell_toArray hD2o.out
          case h4x25 =>
          refine hK.out _ _ ?_ (fun hHeld2 => ?_)
          · exact CV.out _ (below_setCells hge.out _ 0 _ (HBx24.out))
          clear hK K hHeld
          have hHeld := hHeld2
          clear hHeld2
          try simp only [Act.put, List.getElem_toArray, List.getElem_cons_zero, List.getElem_cons_succ]
          refine wpAnyH_done (by kernel_rfl) ?_ _
          clear hHeld
          go_wp2_with fail
          go_meet
          exact ⟨_, rfl, blk_setWhole (HOx24.out) D2 (by rw [HLD.out]; rfl), below_setCells hge.out _ 0 _ (HBx24.out)⟩
      ·
        go_simp
        have hge : Hid (W7.heap.size ≤ (W7.drew).heap.size) := ((Below.refl W7.heap.size W7).drew).size
        have HBx26 := Lib.hid (((Below.refl W7.heap.size W7).drew).alloc ((Below.refl W7.heap.size W7).drew).size (.cells z32 102))
        have HOx26 := Lib.hid (Blk.new (W7.drew) 102 z32)
        refine hK.out _ _ ?_ (fun hHeld2 => ?_)
        · exact CV.out _ HBx26.out
        clear hK K hHeld
        have hHeld := hHeld2
        clear hHeld2
        try simp only [sA, gA]
        refine wpAnyH_ready (rs := [0]) (by kernel_rfl) (by simp) ?_
        refine AllReadyH.cons rfl (fun K hK => ?_) AllReadyH.nil
        go_simp
        go_at_call 97
        refine (begin_any _).mono ?_
        rintro e x27 ⟨rfl, hB⟩
        have HBx27 := Lib.hid ((HBx26.out).trans (hB.mono (HBx26.out).size))
        have HOx27 := Lib.hid ((HOx26.out).below hB (HOx26.out).lt)
        clear hB
        go_wp2_with fail
        refine hK.out _ _ ?_ (fun hHeld2 => ?_)
        · exact CV.out _ HBx27.out
        clear hK K hHeld
        have hHeld := hHeld2
        clear hHeld2
        try simp only [sA, gA]
        refine wpAnyH_ready (rs := [2]) (by kernel_rfl) (by simp) ?_
        refine AllReadyH.cons rfl (fun K hK => ?_) AllReadyH.nil
        go_simp
        go_at_call 96
        refine (PAD2.out _ (HBx27.out)).mono ?_
        rintro e x28 ⟨rfl, hB⟩
        have HBx28 := Lib.hid ((HBx27.out).trans (hB.mono (HBx27.out).size))
        have HOx28 := Lib.hid ((HOx27.out).below hB (HOx27.out).lt)
        clear hB
        go_wp2_with fail
        refine hK.out _ _ ?_ (fun hHeld2 => ?_)
        · exact CV.out _ HBx28.out
        clear hK K hHeld
        have hHeld := hHeld2
        clear hHeld2
        try simp only [sA, gA]
        refine wpAnyH_ready (rs := [3]) (by kernel_rfl) (by simp) ?_
        refine AllReadyH.cons rfl (fun K hK => ?_) AllReadyH.nil
        go_simp
        go_at_call 98
        refine (ADDA.out _ (HBx28.out)).mono ?_
        rintro e x29 ⟨s3, k3, rfl, hS3, hB⟩
        have HS3 := Lib.hid hS3
        clear hS3
        have HBx29 := Lib.hid ((HBx28.out).trans (hB.mono (HBx28.out).size))
        have HOx29 := Lib.hid ((HOx28.out).below hB (HOx28.out).lt)
        clear hB
        go_wp2_with fail
        refine hK.out _ _ ?_ (fun hHeld2 => ?_)
        · exact CV.out _ HBx29.out
        clear hK K hHeld
        have hHeld := hHeld2
        clear hHeld2
        try simp only [sA, gA]
        refine wpAnyH_ready (rs := [6]) (by kernel_rfl) (by simp) ?_
        refine AllReadyH.cons rfl (fun K hK => ?_) AllReadyH.nil
        go_simp
        go_at_call 98
        refine (ADDB.out _ s3 k3 (HBx29.out) HS3.out).mono ?_
        rintro e x30 ⟨s4, k4, rfl, hS4, hB⟩
        have HS4 := Lib.hid hS4
        clear hS4
        have HBx30 := Lib.hid ((HBx29.out).trans (hB.mono (HBx29.out).size))
        have HOx30 := Lib.hid ((HOx29.out).below hB (HOx29.out).lt)
        clear hB
        go_wp2_with fail
        refine hK.out _ _ ?_ (fun hHeld2 => ?_)
        · exact CV.out _ HBx30.out
        clear hK K hHeld
        have hHeld := hHeld2
        clear hHeld2
        try simp only [sA, gA]
        refine wpAnyH_ready (rs := [7]) (by kernel_rfl) (by simp) ?_
        refine AllReadyH.cons rfl (fun K hK => ?_) AllReadyH.nil
        go_simp
        go_at_call 99
        refine (SUM2.out _ s4 k4 (HBx30.out) HS4.out).mono ?_
        rintro e x31 ⟨rfl, hB⟩
        have HBx31 := Lib.hid ((HBx30.out).trans (hB.mono (HBx30.out).size))
        have HOx31 := Lib.hid ((HOx30.out).below hB (HOx30.out).lt)
        clear hB
        go_wp2_with fail
        refine hK.out _ _ ?_ (fun hHeld2 => ?_)
        · exact CV.out _ HBx31.out
        clear hK K hHeld
        have hHeld := hHeld2
        clear hHeld2
        try simp only [sA, gA]
        refine wpAnyH_ready (rs := [9]) (by kernel_rfl) (by simp) ?_
        refine AllReadyH.cons rfl (fun K hK => ?_) AllReadyH.nil
        refine wp_store_mid 102 _ _ rfl ((W7.drew).heap.size) 0 D2.toArray rfl rfl ?h1x32 ?h2x32 ?h3x32 ?h4x32
        case h1x32 => exact there_of_blk (o := 0) (HOx31.out) (by rw [List.size_toArray, HLD.out]; exact Nat.le_refl _)
        case h2x32 => rw [List.size_toArray, HLD.out]; exact infoA32b
        case h3x32 => exact all_oneCell_toArray hD2o.out
        case h4x32 =>
        refine hK.out _ _ ?_ (fun hHeld2 => ?_)
        · exact CV.out _ (below_setCells hge.out _ 0 _ (HBx31.out))
        clear hK K hHeld
        have hHeld := hHeld2
        clear hHeld2
        try simp only [Act.put, List.getElem_toArray, List.getElem_cons_zero, List.getElem_cons_succ]
        refine wpAnyH_done (by kernel_rfl) ?_ _
        clear hHeld
        go_wp2_with fail
        go_meet
        exact ⟨_, rfl, blk_setWhole (HOx31.out) D2 (by rw [HLD.out]; rfl), below_setCells hge.out _ 0 _ (HBx31.out)⟩
    case rest =>
    obtain ⟨ob, rfl, hOB, hBelR⟩ := hcut
    have hcv : (convert 65 9 (.slice (some ⟨ob, 0, none⟩) 32 32)).run Tryd.prog wc = .ok (.string (txt (sumL M2))) wc := by
      have h := hOB.out
      rw [← hD2H.out] at h
      have h2 := conv_bytes (c := 32) (blk_bytes h)
      rw [sumL_len] at h2
      exact h2
    go_wp2_with fail
    go_ret
    exact ⟨by rw [← hfin.out]; rfl, HBeld.out.trans (hBelR.out.mono HBeld.out.size)⟩
end Go.Proofs.YtbhagfdkipgggaaDoor
