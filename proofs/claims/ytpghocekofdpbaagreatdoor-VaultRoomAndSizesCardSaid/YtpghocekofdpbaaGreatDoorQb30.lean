import Derived.Test.YtpghocekofdpbaaGreatDoorQb29
import Derived.WalkMore
import Derived.Deep.CutRange
import Derived.Deep.CutBlock
import Derived.Test.YtpghocekofdpbaaGreatDoorQb07
import Derived.Lib.Builder
import Derived.Lib.AppendStr
import Derived.Lib.UnsafeStr
import Derived.Lib.MakeNoZero
import Derived.Lib.Strings
import Derived.Laws.Externs
import Derived.Laws.BitsLemmas
namespace Go.Proofs.YtpghocekofdpbaaGreatDoor
open Go.RowKit Go.Shelf
attribute [local go_sem] Oper.semAt_some
theorem int_div (n k : Nat) : (n : Int) / 2 ^ k = ((n / 2 ^ k : Nat) : Int) := by
 rw [Int.natCast_ediv, Int.natCast_pow]
 rfl
theorem byte_xor0 (a : Nat) (h : a < 256) : Value.int IntKind.u8 (bits .xor .u8 (a : Int) 0) = byteV (UInt8.ofNat a) := by
 have h1 := u8_xor_nat a 0 h (by decide)
 rw [Nat.xor_zero] at h1
 unfold byteV
 rw [<- byte_of a, Int.emod_eq_of_lt (by omega) (by omega)]
 exact congrArg _ h1
theorem int_pos (n k : Nat) (h : 0 < n / 2 ^ k) : (0 : Int) < (n : Int) / 2 ^ k := by
 rw [int_div]
 exact Int.natCast_pos.2 h
theorem int_npos (n k : Nat) (h : ¬ 0 < n / 2 ^ k) : ¬ (0 : Int) < (n : Int) / 2 ^ k := by
 rw [int_div]
 exact fun e => h (Int.natCast_pos.1 e)
set_option maxRecDepth 100000 in
set_option maxHeartbeats 1600000 in
theorem int_any (w : World) (n : Nat) (hn : n < 9223372036854775808) :
  Calls Tryz.prog 42 #[.int .i64 n] w fun e w' => ∃ v, e = .returned v /\ BRow w' w.heap.size v (intL n) /\ Below w.heap.size w w' := by
 have q1 : IntKind.u64.wrap (n : Int) = (n : Int) := u64_is n (by omega)
 have q2 : ¬ (n : Int) < 0 := by omega
 have q3 : decide ((n : Int) < 0) = false := decide_eq_false q2
 clear hn
 go_enter Tryz.func42, Tryz.ntmps42
 go_wp2_with fail
 go_step3
 go_wp2_with fail
 go_step3
 go_upto_block 0 with fail
 go_cut [5] from 14 to 23 (fun p wx => p = .int .i64 (kOf n : Nat) /\ wx = w)
 case first =>
  go_wp2_with fail
  go_loopw [5] (fun p wr => ∃ j : Nat, p = .int .i64 j /\ j <= 8 /\ Hid (kFrom n j = kOf n) /\ wr = w) (fun p _ => (intOf p).toNat)
  case atStart => exact ⟨8, rfl, Nat.le_refl _, rfl, rfl⟩
  case round =>
   obtain ⟨j, rfl, hj, hk, rfl⟩ := hrel
   cases j with
   | zero =>
    go_wp2_with fail
    go_meet
    have h := hk
    unfold Hid kFrom at h
    exact ⟨by rw [<- h], rfl⟩
   | succ j =>
    have j1 : 0 < (j : Int) + 1 := by omega
    by_cases hp : 0 < n / 2 ^ (8 * j)
    ·have hp2 : decide (0 < n / 2 ^ (8 * j)) = true := decide_eq_true hp
     have hp3 : decide ((0 : Int) < (n : Int) / 2 ^ (8 * j)) = true := decide_eq_true (int_pos n (8 * j) hp)
     go_wp2_with fail
     go_meet
     have h := hk
     unfold Hid kFrom at h
     rw [if_pos hp] at h
     exact ⟨by rw [<- h], rfl⟩
    ·have hp2 : decide (0 < n / 2 ^ (8 * j)) = false := decide_eq_false hp
     have hp3 : decide ((0 : Int) < (n : Int) / 2 ^ (8 * j)) = false := decide_eq_false (int_npos n (8 * j) hp)
     have h : Hid (kFrom n j = kOf n) := by
      have h := hk
      unfold Hid kFrom at h
      rw [if_neg hp] at h
      exact h
     go_wp2_with fail
     refine ⟨⟨j, rfl, by omega, h, trivial⟩, ?_⟩
     simp [intOf]
 case rest =>
  obtain ⟨rfl, rfl⟩ := hcut
  have hk8 := kOf_le n
  have hL : Hid (intL n = UInt8.ofNat (128 + kOf n) :: digL n (kOf n)) := rfl
  generalize kOf n = k at *
  have hx0 : Value.int IntKind.u8 (bits .xor .u8 (128 + (k : Int)) 0) = byteV (UInt8.ofNat (128 + k)) := byte_xor0 (128 + k) (by omega)
  obtain ⟨x0, hx0e⟩ : ∃ x0, UInt8.ofNat (128 + k) = x0 := ⟨_, rfl⟩
  rw [hx0e] at hx0 hL
  have hx0H := Lib.hid hx0
  clear hx0
  go_wp2_with fail
  rw [hx0H.out]
  have hR0 : Hid (BRow (wc.alloc (.cells #[byteV x0] 5)) wc.heap.size (.slice (some ⟨wc.heap.size, 0, none⟩) 1 1) (x0 :: (digL n k).take (k - k))) := by
   unfold Hid
   rw [Nat.sub_self, List.take_zero]
   exact brow_lit (base := wc.heap.size) wc [x0] (Nat.le_refl _) (by simp [maxLen])
  have hB0 : Hid (Below wc.heap.size wc (wc.alloc (.cells #[byteV x0] 5))) := (Below.refl _ wc).alloc (Nat.le_refl _) _
  clear hx0H hx0e q1 q2 q3
  go_loopw [6, 7] (fun p q wr => ∃ j : Nat, q = .int .i64 ((j : Int) - 1) /\ Hid (j <= k) /\ Hid (BRow wr wc.heap.size p (x0 :: (digL n k).take (k - j))) /\ Hid (Below wc.heap.size wc wr)) (fun _ q _ => (intOf q + 1).toNat)
  case atStart => exact ⟨k, rfl, Nat.le_refl _, hR0, hB0⟩
  case round =>
   clear hR0 hB0
   obtain ⟨j, rfl, hj, hR, hB⟩ := hrel
   cases j with
   | zero =>
    have hRf : BRow wr wc.heap.size u6 (intL n) := by
     have h := hR.out
     rw [Nat.sub_zero, List.take_of_length_le (by rw [digL_len]; exact Nat.le_refl _)] at h
     rw [hL.out]
     exact h
    go_wp2_with fail
    rw [Exit.noGoto_ret]
    go_ret
    exact ⟨_, rfl, hRf, hB.out⟩
   | succ i =>
    have hv : Value.int IntKind.u8 (bits .xor .u8 ((n : Int) / 2 ^ (8 * i) % 256) 0) = byteV (UInt8.ofNat (n / 2 ^ (8 * i))) := by
     have h := byte_xor0 (n / 2 ^ (8 * i) % 256) (Nat.mod_lt _ (by decide))
     rw [Int.natCast_emod, <- int_div] at h
     rw [show (n : Int) / 2 ^ (8 * i) % 256 = (n : Int) / 2 ^ (8 * i) % ((256 : Nat) : Int) from rfl, h]
     congr 1
     apply UInt8.toNat_inj.1
     rw [UInt8.toNat_ofNat', UInt8.toNat_ofNat']
     omega
    have hsn := digL_snoc n k (k - (i + 1)) (by have := hj; unfold Hid at this; omega)
    rw [show k - 1 - (k - (i + 1)) = i by (have := hj; unfold Hid at this; omega), show k - (i + 1) + 1 = k - i by (have := hj; unfold Hid at this; omega)] at hsn
    obtain ⟨bx, hbx⟩ : ∃ bx, UInt8.ofNat (n / 2 ^ (8 * i)) = bx := ⟨_, rfl⟩
    rw [hbx] at hv hsn
    have hvH := Lib.hid hv
    have hsnH := Lib.hid hsn
    have hsz := Lib.hid hB.out.size
    have hln : Hid ((x0 :: (digL n k).take (k - (i + 1))).length < 99999999999) := by
     unfold Hid
     rw [List.length_cons, List.length_take]
     omega
    have hj8 : i < 8 := by have := hj; unfold Hid at this; omega
    clear hv hsn hbx
    go_wp2_with (at_builtin; refine wp_push rfl _ _ rfl wc.heap.size _ (x0 :: (digL n k).take (k - (i + 1))) rfl hR.out 1 bx hvH.out rfl hln.out hsz.out ?_; intro v' w' hP; rw [List.cons_append, <- hsnH.out] at hP)
    have hj2 : Hid (i <= k) := by have := hj; unfold Hid at this ⊢; omega
    refine ⟨⟨i, rfl, hj2, hP.row, hP.bel _ _ (Nat.le_refl _) hsz.out hB.out⟩, ?_⟩
    simp [intOf]
end Go.Proofs.YtpghocekofdpbaaGreatDoor
namespace Go.Proofs.YtpghocekofdpbaaGreatDoor
open Go.RowKit Go.Shelf
attribute [local go_sem] Oper.semAt_some
theorem bytes_any (w : World) (x : ByteArray) (hx : x.size < 10000000000) :
  Calls Tryz.prog 120 #[.string x] w fun e w' => ∃ v, e = .returned v /\ BRow w' w.heap.size v (bytesL (bl x)) /\ Below w.heap.size w w' := by
 have HI := Lib.hid (int_any w x.size (by omega))
 go_enter Tryz.func120, Tryz.ntmps120
 have hlen : Hid ((intL x.size).length + x.size < 100000000000) := by unfold Hid; have := intL_le x.size; omega
 go_wp2_with (first | (go_at_call 42; refine HI.out.mono ?_; rintro e w1 ⟨v, rfl, hR, hB⟩; have hR1 := Lib.hid hR; have hB1 := Lib.hid hB; clear hR hB) | (refine wp_cat_text rfl _ _ rfl w.heap.size v (intL x.size) rfl hR1.out x rfl hlen.out hB1.out.size ?_; intro v' w' hP; have hPH := Lib.hid hP; clear hP) | fail)
 go_ret
 refine ⟨_, rfl, ?_, hPH.out.bel _ _ (Nat.le_refl _) hB1.out.size hB1.out⟩
 unfold bytesL
 rw [bl_len]
 exact hPH.out.row
end Go.Proofs.YtpghocekofdpbaaGreatDoor
namespace Go.Proofs.YtpghocekofdpbaaGreatDoor
open Go.RowKit Go.Shelf
attribute [local go_sem] Oper.semAt_some
def TextsAt (w : World) (A : Option Addr) (l : List ByteArray) : Prop := l = [] \/ ∃ g o, A = some ⟨g, o, none⟩ /\ g < w.heap.size /\ ∀ (i : Nat) (x : ByteArray), l[i]? = some x -> w.cell? ⟨g, o + i, none⟩ = some (.string x)
theorem TextsAt.at_ {w : World} {A : Option Addr} {l : List ByteArray} (h : TextsAt w A l) (i : Nat) (x : ByteArray) (hx : l[i]? = some x) : ∃ g o, A = some ⟨g, o, none⟩ /\ g < w.heap.size /\ w.cell? ⟨g, o + i, none⟩ = some (.string x) := by
 rcases h with h | ⟨g, o, h1, h2, h3⟩
 ·rw [h] at hx
  cases hx
 ·exact ⟨g, o, h1, h2, h3 i x hx⟩
theorem bytesL_le (b : List UInt8) : (bytesL b).length <= 9 + b.length := by unfold bytesL; rw [List.length_append]; have := intL_le b.length; omega
theorem bytesL_ne (b : List UInt8) : bytesL b ≠ [] := by unfold bytesL intL; rw [List.cons_append]; exact List.cons_ne_nil _ _
def partsL (l : List ByteArray) : List UInt8 := l.flatMap fun p => bytesL (bl p)
theorem partsL_snoc (l : List ByteArray) (t : Nat) (x : ByteArray) (h : l[t]? = some x) : partsL (l.take (t + 1)) = partsL (l.take t) ++ bytesL (bl x) := by
 unfold partsL
 rw [List.take_add_one, h, List.flatMap_append]
 simp
theorem partsL_len (l : List ByteArray) (h : ∀ x ∈ l, x.size <= 1000000) : (partsL l).length <= 1000009 * l.length := by
 induction l with
 | nil => exact Nat.zero_le _
 | cons a r ih =>
  have h1 := ih fun x hx => h x (List.mem_cons_of_mem _ hx)
  have h2 := bytesL_le (bl a)
  have h3 := h a (List.mem_cons_self ..)
  unfold partsL at h1 ⊢
  rw [List.flatMap_cons, List.length_append, List.length_cons]
  rw [bl_len] at h2
  omega
def deriveL (key label : List UInt8) (l : List ByteArray) : List UInt8 := macL key (bytesL label ++ partsL l)
theorem deriveL_len (key label : List UInt8) (l : List ByteArray) : (deriveL key label l).length = 32 := macL_len _ _
theorem strs_index (w : World) (g o n c t : Nat) (h : t < n) : (Instr.indexAt 35 (.slice (some ⟨g, o, none⟩) n c) (.int .i64 t)).run Tryz.prog w = .ok (.pointer (some ⟨g, o + t, none⟩)) w := by
 have d1 : (0 : Int) <= (t : Int) := by omega
 have d2 : (t : Int) < (n : Int) := by omega
 simp [go_sem, d1, d2]
set_option maxRecDepth 100000 in
set_option maxHeartbeats 1600000 in
theorem derive_any (w : World) (key label : ByteArray) (A : Option Addr) (n c : Nat) (l : List ByteArray) (hn : l.length = n) (hl : n <= 100) (hx : ∀ x ∈ l, x.size <= 1000000) (hA : TextsAt w A l) (hK : KAt w 1) (hk : key.size < 10000000000) (hlb : label.size <= 1000000) :
  Calls Tryz.prog 85 #[.string key, .string label, .slice A n c] w fun e w' => e = .returned (.string (txt (deriveL (bl key) (bl label) l))) /\ Below w.heap.size w w' := by
 have HI := Lib.hid (bytes_any w label (by omega))
 have HX := Lib.hid hx
 have HA := Lib.hid hA
 have HK := Lib.hid hK
 clear hx hA hK
 go_enter Tryz.func85, Tryz.ntmps85
 go_wp2_with (first | (go_at_call 120; refine HI.out.mono ?_; rintro e w1 ⟨v, rfl, hR, hB⟩; have hR1 := Lib.hid hR; have hB1 := Lib.hid hB; clear hR hB) | fail)
 have hR0 : Hid (BRow w1 w.heap.size v (bytesL (bl label) ++ partsL (l.take 0))) := by
  unfold Hid partsL
  rw [List.take_zero, List.flatMap_nil, List.append_nil]
  exact hR1.out
 go_loopw [7, 14] (fun p q wr => ∃ t : Nat, q = .int .i64 t /\ Hid (t <= n) /\ Hid (BRow wr w.heap.size p (bytesL (bl label) ++ partsL (l.take t))) /\ Hid (Below w.heap.size w wr)) (fun _ q _ => n - (intOf q).toNat)
 case atStart => exact ⟨0, rfl, Nat.zero_le _, hR0, hB1⟩
 case round =>
  clear hR0 hB1 hR1
  obtain ⟨t, rfl, ht, hR, hB⟩ := hrel
  by_cases hlt : t < n
  ·have d1 : decide (t < n) = true := decide_eq_true hlt
   have d2 : decide ((t : Int) < (n : Int)) = true := decide_eq_true (by omega)
   obtain ⟨x, hx⟩ : ∃ x, l[t]? = some x := ⟨_, List.getElem?_eq_getElem (by omega)⟩
   obtain ⟨g, o, hAe, hgl, hcell⟩ := HA.out.at_ t x hx
   have cx : wr.cell? ⟨g, o + t, none⟩ = some (.string x) := (hB.out.cell (p := ⟨g, o + t, none⟩) hgl).trans hcell
   have hix : ∀ wx, (Instr.indexAt 35 (.slice A n c) (.int .i64 t)).run Tryz.prog wx = .ok (.pointer (some ⟨g, o + t, none⟩)) wx := fun wx => by
    rw [hAe]
    exact strs_index wx g o n c t hlt
   have hxs := HX.out x (List.mem_of_getElem? hx)
   have HI2 := Lib.hid (bytes_any wr x (by omega))
   have hsn := Lib.hid (partsL_snoc l t x hx)
   have hlen : Hid ((bytesL (bl label) ++ partsL (l.take t)).length + (bytesL (bl x)).length < 100000000000) := by
    unfold Hid
    have h1 := partsL_len (l.take t) (fun y hy => HX.out y (List.mem_of_mem_take hy))
    have h2 := bytesL_le (bl label)
    have h3 := bytesL_le (bl x)
    rw [List.length_append]
    rw [List.length_take] at h1
    rw [bl_len] at h2 h3
    omega
   have hltH := Lib.hid hlt
   clear hx hcell hxs hAe
   go_wp2_with (first
    | (go_at_call 120; refine HI2.out.mono ?_; rintro e w2 ⟨v2, rfl, hR2, hB2⟩; obtain ⟨g2, c2, rfl, hg2, hg2l⟩ := hR2.slice (bytesL_ne (bl x)); have hRR := Lib.hid (hR.out.below hB2); have hR2b := Lib.hid hR2.bytesAt; have hBB := Lib.hid (hB.out.trans (hB2.mono hB.out.size)); clear hR2 hB2 hg2 hg2l)
    | (at_builtin; refine wp_cat rfl _ _ rfl w.heap.size _ (bytesL (bl label) ++ partsL (l.take t)) rfl hRR.out g2 0 c2 (bytesL (bl x)) rfl hR2b.out hlen.out hBB.out.size ?_; intro v' w' hP; rw [List.append_assoc, <- hsn.out] at hP; have hPH := Lib.hid hP; clear hP)
    | fail)
   refine ⟨⟨t + 1, by go_num, hltH.out, hPH.out.row, hPH.out.bel _ _ (Nat.le_refl _) hBB.out.size hBB.out⟩, ?_⟩
   have := hltH.out
   simp [intOf]
   omega
  ·have d1 : decide (t < n) = false := decide_eq_false hlt
   have d2 : decide ((t : Int) < (n : Int)) = false := decide_eq_false (by omega)
   have et : t = n := Nat.le_antisymm ht (Nat.le_of_not_lt hlt)
   have hRf := hR.out
   rw [et, <- hn, List.take_length] at hRf
   have hcv := conv_row hRf
   have HM : Hid (Calls Tryz.prog 41 #[.string key, .string (txt (bytesL (bl label) ++ partsL l))] wr fun e w' => e = .returned (.string (txt (deriveL (bl key) (bl label) l))) /\ Below wr.heap.size wr w') := by
    refine mac_any wr key (txt (bytesL (bl label) ++ partsL l)) (HK.out.below hB.out) hk ?_
    rw [txt_size, List.length_append]
    have h1 := partsL_len l HX.out
    have h2 := bytesL_le (bl label)
    rw [bl_len] at h2
    omega
   have hcv2 : (convert 66 9 u7).run Tryz.prog wr = .ok (.string (txt (bytesL (bl label) ++ partsL l))) wr := hcv
   clear hRf hcv et
   generalize txt (bytesL (bl label) ++ partsL l) = T at *
   go_wp2_with (first | (go_at_call 41; refine HM.out.mono ?_; rintro e w2 ⟨rfl, hB2⟩; have hBB := Lib.hid (hB.out.trans (hB2.mono hB.out.size)); clear hB2) | fail)
   go_ret
   exact ⟨rfl, hBB.out⟩
end Go.Proofs.YtpghocekofdpbaaGreatDoor
namespace Go.Proofs.YtpghocekofdpbaaGreatDoor
open Go.Shelf Go.RowKit
theorem sizeBuilder : (Tryz.prog.info? 188).map (·.size) = some 2 := by kernel_rfl
theorem liesBuilder : liesAt Tryz.prog Tryz.prog.depth 188 (2 / Tryz.prog.cellsOf 188) 0 188 1 = true := by kernel_rfl
set_option maxHeartbeats 1000000 in
set_option maxRecDepth 100000 in
theorem copyCheck_used (b : Nat) (w : World) (h0 : w.cell? ⟨b, 0, none⟩ = some (.pointer (some ⟨b, 0, none⟩))) :
  Calls Tryz.prog 161 #[.pointer (some ⟨b, 0, none⟩)] w fun e w' => e = .returned (.tuple #[]) /\ w' = w := by
 obtain ⟨j, hj, _⟩ := Option.map_eq_some_iff.1 sizeBuilder
 go_enter Tryz.func161, Tryz.ntmps161
 go_wp2
 rw [Lib.run_neq_ptr_same w _ Tryz.underlying186 hj]
 go_wp2
 go_end0
 exact ⟨rfl, rfl⟩
set_option maxHeartbeats 1000000 in
set_option maxRecDepth 100000 in
theorem copyCheck_fresh (b : Nat) (w : World) (h0 : w.cell? ⟨b, 0, none⟩ = some (.pointer none)) (hsh : w.shape? b = some (188, 2)) (hfz : w.frozen? ⟨b, 0, none⟩ = false) :
  Calls Tryz.prog 161 #[.pointer (some ⟨b, 0, none⟩)] w fun e w' => e = .returned (.tuple #[]) /\ w' = w.setCell ⟨b, 0, none⟩ (.pointer (some ⟨b, 0, none⟩)) := by
 obtain ⟨j, hj, hjs⟩ := Option.map_eq_some_iff.1 sizeBuilder
 go_enter Tryz.func161, Tryz.ntmps161
 go_wp2
 rw [Lib.run_to_unsafe w ⟨b, 0, none⟩ Tryz.underlying186 Tryz.underlying244 hj (by rw [hjs]; decide) hsh (Nat.zero_lt_succ 1)]
 simp only [Result.andThen]
 rw [Oper.upon_value]
 go_wp2
 rw [run_callFunc_extern Tryz.func178 (by kernel_rfl) (by kernel_rfl) (by kernel_rfl) (e := Extern.AbiNoEscape.same) (by kernel_rfl)]
 rw [Lib.run_noEscape]
 simp only [Result.andThen]
 rw [Oper.upon_value]
 go_wp2
 rw [Lib.run_from_unsafe w ⟨b, 0, none⟩ Tryz.underlying244 Tryz.underlying186 hj hsh liesBuilder]
 simp only [Result.andThen]
 rw [Oper.upon_value]
 go_wp2
 go_end0
 exact ⟨rfl, rfl⟩
theorem copyCheck_any (B b : Nat) (bs : List Value) (w : World) (h : Lib.IsBuilder 188 5 B b bs w) :
  Calls Tryz.prog 161 #[.pointer (some ⟨b, 0, none⟩)] w fun e w' => e = .returned (.tuple #[]) /\ (Lib.BuilderAt 188 5 B b (.pointer (some ⟨b, 0, none⟩)) bs w' /\ Below B w w') := by
 rcases h with h | h
 ·refine (copyCheck_fresh b w h.cell0 h.shape h.frozen0).mono ?_
  rintro e w' ⟨rfl, rfl⟩
  exact ⟨rfl, h.used _, (Below.refl B w).setCell (p := ⟨b, 0, none⟩) h.1 _⟩
 ·refine (copyCheck_used b w h.cell0).mono ?_
  rintro e w' ⟨rfl, rfl⟩
  exact ⟨rfl, h, Below.refl B _⟩
set_option maxHeartbeats 1000000 in
set_option maxRecDepth 100000 in
theorem writeS_any (B b : Nat) (bs : List Value) (s : ByteArray) (w : World) (h : Lib.IsBuilder 188 5 B b bs w) (hlen : bs.length + s.size <= 140737488355328) (hBw : B <= w.heap.size) :
  Calls Tryz.prog 132 #[.pointer (some ⟨b, 0, none⟩), .string s] w fun e w' => e = .returned (.tuple #[.int .i64 s.size, .nilIface]) /\ (Lib.BuilderAt 188 5 B b (.pointer (some ⟨b, 0, none⟩)) (bs ++ Lib.strCells s) w' /\ Below B w w') := by
 obtain ⟨i0, hi, hz0, hz1, hz2⟩ := info_parts infoU8f
 go_enter Tryz.func132, Tryz.ntmps132
 go_wp2_with (first | (go_at_call 161; refine (copyCheck_any B b bs _ h).mono ?_; rintro e w1 ⟨rfl, h1, hb1⟩; obtain ⟨hB, v, hbk, hown, hne⟩ := h1; have c0 : w1.cell? ⟨b, 0, none⟩ = some (.pointer (some ⟨b, 0, none⟩)) := (by rw [Lib.cell_of_heap hbk]; rfl); have c1 : w1.cell? ⟨b, 1, none⟩ = some v := (by rw [Lib.cell_of_heap hbk]; rfl)) | (at_builtin; refine Lib.wpList_append_own_string _ rfl _ _ 66 9 rfl B 5 i0 Tryz.underlying66 Tryz.underlying9 hi hz0 hz1 hz2 _ _ _ rfl hown s rfl ?c3 ?c4 ?c5 ?_))
 case c3 => unfold maxLen; omega
 case c4 => omega
 case c5 => have := hb1.size; omega
 intro v' w2 hown' hgrow _
 have hlt : b < w1.heap.size := by
  rcases Nat.lt_or_ge b w1.heap.size with h' | h'
  ·exact h'
  ·simp [Array.getElem?_eq_none h'] at hbk
 have hb2 : w2.heap[b]? = some (.cells #[.pointer (some ⟨b, 0, none⟩), v] 188 (0, 0)) := by
  rw [hgrow.block b hlt (fun e => hne e.symm)]
  exact hbk
 have d0 : w2.cell? ⟨b, 0, none⟩ = some (.pointer (some ⟨b, 0, none⟩)) := by rw [Lib.cell_of_heap hb2]; rfl
 have d1 : w2.cell? ⟨b, 1, none⟩ = some v := by rw [Lib.cell_of_heap hb2]; rfl
 have f1 : w2.frozen? ⟨b, 1, none⟩ = false := Lib.frozen_of_heap hb2 1
 obtain ⟨ao, n', cap, rfl⟩ : ∃ ao n' cap, v' = .slice ao n' cap := by
  rcases hown'.2 with ⟨hv, _⟩ | ⟨g, cap, cur, hv, _⟩
  ·exact ⟨_, _, _, hv⟩
  ·exact ⟨_, _, _, hv⟩
 go_wp2
 go_ret2
 refine ⟨rfl, ?_, ?_⟩
 ·exact Lib.BuilderAt.put (T := 188) (e := 5) hB hb2 (bs' := bs ++ Lib.strCells s) (by simpa [Lib.strCells_length] using hown') (by decide)
 ·exact (hb1.grown hgrow (by have := hb1.size; omega) (fun k hk => (hown.lt k hk).1)).setCell (p := ⟨b, 1, none⟩) hB _
end Go.Proofs.YtpghocekofdpbaaGreatDoor
namespace Go.Proofs.YtpghocekofdpbaaGreatDoor
open Go.RowKit Go.Shelf
attribute [local go_sem] Oper.semAt_some
def catL (l : List ByteArray) : List UInt8 := l.flatMap bl
theorem catL_snoc (l : List ByteArray) (t : Nat) (x : ByteArray) (h : l[t]? = some x) : catL (l.take (t + 1)) = catL (l.take t) ++ bl x := by
 unfold catL
 rw [List.take_add_one, h, List.flatMap_append]
 simp
theorem catL_len (l : List ByteArray) (h : ∀ x ∈ l, x.size <= 2000000) : (catL l).length <= 2000000 * l.length := by
 induction l with
 | nil => exact Nat.zero_le _
 | cons a r ih =>
  have h1 := ih fun x hx => h x (List.mem_cons_of_mem _ hx)
  have h3 := h a (List.mem_cons_self ..)
  unfold catL at h1 ⊢
  rw [List.flatMap_cons, List.length_append, List.length_cons, bl_len]
  omega
theorem cells_byteV (x : ByteArray) : Lib.strCells x = (bl x).map byteV := rfl
set_option maxRecDepth 100000 in
set_option maxHeartbeats 3200000 in
theorem join_any (w : World) (g n c : Nat) (l : List ByteArray) (hn : l.length = n) (h2 : 2 <= n) (hnc : n <= c) (hl : n <= 100) (hx : ∀ x ∈ l, x.size <= 2000000) (hA : TextsAt w (some ⟨g, 0, none⟩) l) :
  Calls Tryz.prog 151 #[.slice (some ⟨g, 0, none⟩) n c, .string ⟨#[]⟩] w fun e w' => e = .returned (.string (txt (catL l))) /\ Below w.heap.size w w' := by
 have HX := Lib.hid hx
 have HA := Lib.hid hA
 have hnH := Lib.hid hn
 have k0 : decide (n = 0) = false := decide_eq_false (by omega)
 have k1 : decide ((n : Int) = 0) = false := decide_eq_false (by omega)
 have k2 : ((n : Int) == 0) = false := by rw [beq_eq_false_iff_ne]; omega
 have k3 : ((n : Int) == 1) = false := by rw [beq_eq_false_iff_ne]; omega
 clear hx hA hn
 go_enter Tryz.func151, Tryz.ntmps151
 go_wp2_with fail
 go_loopw [5, 41] (fun p q wr => ∃ t m : Nat, q = .int .i64 t /\ p = .int .i64 m /\ Hid (t <= n) /\ Hid (m <= 2000000 * t) /\ w = wr) (fun _ q _ => n - (intOf q).toNat)
 case atStart => exact ⟨0, 0, rfl, rfl, Nat.zero_le _, Nat.zero_le _, rfl⟩
 case round =>
  obtain ⟨t, m, rfl, rfl, ht, hm, rfl⟩ := hrel
  by_cases hlt : t < n
  ·have d1 : decide (t < n) = true := decide_eq_true hlt
   have d2 : decide ((t : Int) < (n : Int)) = true := decide_eq_true (by omega)
   obtain ⟨x, hx⟩ : ∃ x, l[t]? = some x := ⟨_, List.getElem?_eq_getElem (by rw [hnH.out]; exact hlt)⟩
   have hix := fun wx => strs_index wx g 0 n c t hlt
   have cx : w.cell? ⟨g, 0 + t, none⟩ = some (.string x) := by
    obtain ⟨g', o', he, _, hc⟩ := HA.out.at_ t x hx
    cases he
    exact hc
   rw [Nat.zero_add] at cx
   have hix2 : ∀ wx, (Instr.indexAt 35 (.slice (some ⟨g, 0, none⟩) n c) (.int .i64 t)).run Tryz.prog wx = .ok (.pointer (some ⟨g, t, none⟩)) wx := fun wx => by
    rw [hix wx, Nat.zero_add]
   have hxs := HX.out x (List.mem_of_getElem? hx)
   have hm1 : m <= 200000000 := by have := hm; unfold Hid at this; omega
   obtain ⟨M, hM⟩ : ∃ M : Nat, (9223372036854775807 : Int) - (m : Int) = (M : Int) := ⟨9223372036854775807 - m, by omega⟩
   have hMl : 1000000000 <= M := by omega
   have e1 : wrap64 (9223372036854775807 - (m : Int)) = (M : Int) := by
    rw [hM]
    exact w64_is M (by omega)
   have e2 : decide ((M : Int) < (x.size : Int)) = false := decide_eq_false (by omega)
   have e3 : ¬ (M : Int) < (x.size : Int) := by omega
   have e4 : ¬ M < x.size := by omega
   have hltH := Lib.hid hlt
   have hm2 : Hid (m + x.size <= 2000000 * (t + 1)) := by have := hm; unfold Hid at this ⊢; omega
   clear hx hix hMl hxs
   go_wp2_with fail
   refine ⟨⟨t + 1, m + x.size, by go_num, by go_num, hltH.out, hm2.out, trivial⟩, ?_⟩
   have := hltH.out
   simp [intOf]
   omega
  ·have d1 : decide (t < n) = false := decide_eq_false hlt
   have d2 : decide ((t : Int) < (n : Int)) = false := decide_eq_false (by omega)
   have hm1 : m <= 281474976710656 := by have := hm; unfold Hid at this; have := ht; unfold Hid at this; omega
   have HGR := Lib.hid (Tryz.Builder_Grow_fresh w.heap.size w.heap.size m (w.alloc (.cells #[.pointer none, .slice none 0 0] 188)) (Nat.le_refl _) (Blk.new w _ _) (by rw [World.size_alloc]; exact Nat.le_succ _) hm1)
   obtain ⟨x0, hx0⟩ : ∃ x, l[0]? = some x := ⟨_, List.getElem?_eq_getElem (by have := hnH.out; omega)⟩
   have hcx0 : Hid (∀ wx, Below w.heap.size w wx -> wx.cell? ⟨g, 0, none⟩ = some (.string x0)) := fun wx hB => by
    obtain ⟨g', o', he, hgl, hc⟩ := HA.out.at_ 0 x0 hx0
    cases he
    rw [hB.cell (p := ⟨g, 0, none⟩) hgl]
    exact hc
   have hx0s := Lib.hid (HX.out x0 (List.mem_of_getElem? hx0))
   have h1n : (1 : Int) <= (n : Int) := by omega
   have h1c : ¬ c = 1 := by omega
   have h0n : (0 : Int) < (n : Int) := by omega
   have hm1H := Lib.hid hm1
   have hc1 : Hid (catL (l.take 1) = bl x0) := by
    unfold Hid
    rw [catL_snoc l 0 x0 hx0, List.take_zero]
    rfl
   clear hm1 hx0
   go_upto_region 20 with (first | (go_at_call 131; refine HGR.out.mono ?_; rintro e w1 ⟨rfl, hBA1, hB1⟩; have HBA1 := Lib.hid hBA1; have HB1 := Lib.hid (((Below.refl w.heap.size w).alloc (Nat.le_refl _) _).trans hB1); clear hBA1 hB1) | fail)
   have hc0 := hcx0.out w1 HB1.out
   have hix0 : ∀ wx, (Instr.indexAt 35 (.slice (some ⟨g, 0, none⟩) n c) (.int .i64 0)).run Tryz.prog wx = .ok (.pointer (some ⟨g, 0, none⟩)) wx := fun wx => strs_index wx g 0 n c 0 (by omega)
   have HW0 := Lib.hid (writeS_any w.heap.size w.heap.size [] x0 w1 (.inr HBA1.out) (by have := hx0s.out; simp; omega) HB1.out.size)
   go_upto_block 3 with (first | (go_at_call 132; refine HW0.out.mono ?_; rintro e w2 ⟨rfl, hBA2, hB2⟩; have HBA2 := Lib.hid hBA2; have HB2 := Lib.hid (HB1.out.trans hB2); clear hBA2 hB2) | fail)
   have hR0 : Hid (Lib.BuilderAt 188 5 w.heap.size w.heap.size (.pointer (some ⟨w.heap.size, 0, none⟩)) ((catL (l.take (0 + 1))).map byteV) w2) := by
    unfold Hid
    rw [hc1.out]
    exact HBA2.out
   clear hc0 hix0 HW0 HBA1 HB1 HGR hcx0 hx0s hc1 hm1H HBA2
   go_wp2_with fail
   go_loopw [65] (fun q wr => ∃ t : Nat, q = .int .i64 t /\ Hid (t + 1 <= n) /\ Hid (Lib.BuilderAt 188 5 w.heap.size w.heap.size (.pointer (some ⟨w.heap.size, 0, none⟩)) ((catL (l.take (t + 1))).map byteV) wr) /\ Hid (Below w.heap.size w wr)) (fun q _ => n - (intOf q).toNat)
   case atStart => exact ⟨0, rfl, by unfold Hid; omega, hR0, HB2⟩
   case round =>
    clear hR0 HB2 hm
    obtain ⟨i, rfl, hi, hR, hB⟩ := hrel
    by_cases hli : i < n - 1
    ·have b1 : decide (i < n - 1) = true := decide_eq_true hli
     have b2 : decide ((i : Int) < (n : Int) - 1) = true := decide_eq_true (by omega)
     have b3 : decide ((i : Int) < ((n - 1 : Nat) : Int)) = true := decide_eq_true (by omega)
     have b4 : (i : Int) < ((n - 1 : Nat) : Int) := by omega
     obtain ⟨x, hx⟩ : ∃ x, l[i + 1]? = some x := ⟨_, List.getElem?_eq_getElem (by rw [hnH.out]; omega)⟩
     have cx : wr.cell? ⟨g, 1 + i, none⟩ = some (.string x) := by
      obtain ⟨g', o', he, hgl, hc⟩ := HA.out.at_ (i + 1) x hx
      cases he
      rw [hB.out.cell (p := ⟨g, 1 + i, none⟩) hgl, show 1 + i = 0 + (i + 1) by omega]
      exact hc
     have hix : ∀ wx, (Instr.indexAt 35 (.slice (some ⟨g, 1, none⟩) (n - 1) (c - 1)) (.int .i64 i)).run Tryz.prog wx = .ok (.pointer (some ⟨g, 1 + i, none⟩)) wx := fun wx => strs_index wx g 1 (n - 1) (c - 1) i hli
     have hxs := HX.out x (List.mem_of_getElem? hx)
     have hsn := catL_snoc l (i + 1) x hx
     have hlen : (catL (l.take (i + 1))).length <= 200000000 := by
      have h := catL_len (l.take (i + 1)) (fun y hy => HX.out y (List.mem_of_mem_take hy))
      rw [List.length_take] at h
      omega
     have HWa := Lib.hid (writeS_any w.heap.size w.heap.size _ ⟨#[]⟩ wr (.inr hR.out) (by rw [List.length_map]; show (catL (l.take (i + 1))).length + 0 <= _; omega) hB.out.size)
     have HWb : Hid (∀ wx, Lib.BuilderAt 188 5 w.heap.size w.heap.size (.pointer (some ⟨w.heap.size, 0, none⟩)) ((catL (l.take (i + 1))).map byteV ++ Lib.strCells ⟨#[]⟩) wx -> w.heap.size <= wx.heap.size -> Calls Tryz.prog 132 #[.pointer (some ⟨w.heap.size, 0, none⟩), .string x] wx fun e w' => e = .returned (.tuple #[.int .i64 x.size, .nilIface]) /\ (Lib.BuilderAt 188 5 w.heap.size w.heap.size (.pointer (some ⟨w.heap.size, 0, none⟩)) ((catL (l.take (i + 1 + 1))).map byteV) w' /\ Below w.heap.size wx w')) := fun wx h hb => by
      have h2 := writeS_any w.heap.size w.heap.size _ x wx (.inr h) (by rw [List.length_append, List.length_map, Lib.strCells_length]; show (catL (l.take (i + 1))).length + 0 + x.size <= _; omega) hb
      rw [show Lib.strCells ⟨#[]⟩ = [] from rfl, List.append_nil, cells_byteV, <- List.map_append, <- hsn] at h2
      exact h2
     have hliH := Lib.hid hli
     clear hx hxs hsn hlen
     go_wp2_with (first | (go_at_call 132; refine (HWb.out _ HBa.out HBB.out.size).mono ?_; rintro e w4 ⟨rfl, hBAb, hBb⟩; have HBb := Lib.hid hBAb; have HBC := Lib.hid (HBB.out.trans hBb); clear hBAb hBb) | (go_at_call 132; refine HWa.out.mono ?_; rintro e w3 ⟨rfl, hBAa, hBa⟩; have HBa := Lib.hid hBAa; have HBB := Lib.hid (hB.out.trans hBa); clear hBAa hBa) | fail)
     have hi2 : Hid (i + 1 + 1 <= n) := by have := hliH.out; unfold Hid; omega
     refine ⟨⟨i + 1, by go_num, hi2, HBb, HBC⟩, ?_⟩
     have := hi2.out
     simp [intOf]
     omega
    ·have b1 : decide (i < n - 1) = false := decide_eq_false hli
     have b2 : decide ((i : Int) < (n : Int) - 1) = false := decide_eq_false (by omega)
     have b3 : decide ((i : Int) < ((n - 1 : Nat) : Int)) = false := decide_eq_false (by omega)
     have b4 : ¬ (i : Int) < ((n - 1 : Nat) : Int) := by omega
     have HF := Lib.hid (Tryz.Builder_String_any w.heap.size w.heap.size (catL l) wr (.inr (by
      have h := hR.out
      have e : i + 1 = n := by have := hi; unfold Hid at this; omega
      rw [e, <- hnH.out, List.take_length] at h
      exact h)) hB.out.size)
     go_wp2_with (first | (go_at_call 134; refine HF.out.mono ?_; rintro e w3 ⟨rfl, hB3⟩; have HB3 := Lib.hid (hB.out.trans hB3); clear hB3) | fail)
     go_ret
     exact ⟨rfl, HB3.out⟩
end Go.Proofs.YtpghocekofdpbaaGreatDoor
namespace Go.Proofs.YtpghocekofdpbaaGreatDoor
def getW (l : List UInt8) : UInt32 := wor (wor (wor (w8 (l.getD 0 0)) (wshl (w8 (l.getD 1 0)) 8)) (wshl (w8 (l.getD 2 0)) 16)) (wshl (w8 (l.getD 3 0)) 24)
def le4 (x : UInt32) : List UInt8 := [UInt8.ofNat x.toNat, UInt8.ofNat (x.toNat / 256), UInt8.ofNat (x.toNat / 65536), UInt8.ofNat (x.toNat / 16777216)]
theorem le4_len (x : UInt32) : (le4 x).length = 4 := rfl
def state0 (c : UInt32) : List UInt32 := [1634760805, 857760878, 2036477234, 1797285236, 0, 0, 0, 0, 0, 0, 0, 0, c, 0, 0, 0]
def fillK (k : List UInt8) (S : List UInt32) : Nat -> List UInt32
 | 0 => S
 | t + 1 => (fillK k S t).set (4 + t) (getW (k.drop (4 * t)))
def fillN (k : List UInt8) (S : List UInt32) : Nat -> List UInt32
 | 0 => S
 | t + 1 => (fillN k S t).set (13 + t) (getW (k.drop (4 * t)))
theorem fillK_len (k : List UInt8) (S : List UInt32) : ∀ t, (fillK k S t).length = S.length
 | 0 => rfl
 | t + 1 => by unfold fillK; rw [List.length_set]; exact fillK_len k S t
theorem fillN_len (k : List UInt8) (S : List UInt32) : ∀ t, (fillN k S t).length = S.length
 | 0 => rfl
 | t + 1 => by unfold fillN; rw [List.length_set]; exact fillN_len k S t
def stateL (k : List UInt8) (c : UInt32) (n : List UInt8) : List UInt32 := fillN n (fillK k (state0 c) 8) 3
theorem stateL_len (k : List UInt8) (c : UInt32) (n : List UInt8) : (stateL k c n).length = 16 := by unfold stateL; rw [fillN_len, fillK_len]; rfl
def stAdd (S : List UInt32) (a b : Nat) : List UInt32 := S.set a (wadd (S.getD a 0) (S.getD b 0))
def stRot (S : List UInt32) (d a k : Nat) : List UInt32 := S.set d (rotl (wxor (S.getD d 0) (S.getD a 0)) k)
theorem stAdd_len (S : List UInt32) (a b : Nat) : (stAdd S a b).length = S.length := List.length_set ..
theorem stRot_len (S : List UInt32) (d a k : Nat) : (stRot S d a k).length = S.length := List.length_set ..
def qrt (S : List UInt32) (a b c d : Nat) : List UInt32 := stRot (stAdd (stRot (stAdd (stRot (stAdd (stRot (stAdd S a b) d a 16) c d) b c 12) a b) d a 8) c d) b c 7
theorem qrt_len (S : List UInt32) (a b c d : Nat) : (qrt S a b c d).length = S.length := by
 unfold qrt
 rw [stRot_len, stAdd_len, stRot_len, stAdd_len, stRot_len, stAdd_len, stRot_len, stAdd_len]
def colN (S : List UInt32) : Nat -> List UInt32
 | 0 => S
 | i + 1 => qrt (colN S i) i (4 + i) (8 + i) (12 + i)
def diaN (S : List UInt32) : Nat -> List UInt32
 | 0 => S
 | i + 1 => qrt (diaN S i) i (4 + (i + 1) % 4) (8 + (i + 2) % 4) (12 + (i + 3) % 4)
def rndN (S : List UInt32) : Nat -> List UInt32
 | 0 => S
 | n + 1 => diaN (colN (rndN S n) 4) 4
theorem colN_len (S : List UInt32) : ∀ i, (colN S i).length = S.length
 | 0 => rfl
 | i + 1 => by unfold colN; rw [qrt_len]; exact colN_len S i
theorem diaN_len (S : List UInt32) : ∀ i, (diaN S i).length = S.length
 | 0 => rfl
 | i + 1 => by unfold diaN; rw [qrt_len]; exact diaN_len S i
theorem rndN_len (S : List UInt32) : ∀ n, (rndN S n).length = S.length
 | 0 => rfl
 | n + 1 => by unfold rndN; rw [diaN_len, colN_len]; exact rndN_len S n
def outTo (S : List UInt32) (i : Nat) : List UInt8 := (List.range i).flatMap fun j => le4 (wadd ((rndN S 10).getD j 0) (S.getD j 0))
theorem outTo_succ (S : List UInt32) (i : Nat) : outTo S (i + 1) = outTo S i ++ le4 (wadd ((rndN S 10).getD i 0) (S.getD i 0)) := by
 unfold outTo
 rw [List.range_succ, List.flatMap_append]
 simp
theorem outTo_len (S : List UInt32) : ∀ i, (outTo S i).length = 4 * i
 | 0 => rfl
 | i + 1 => by rw [outTo_succ, List.length_append, outTo_len S i, le4_len]; omega
def blockL (k : List UInt8) (c : UInt32) (n : List UInt8) : List UInt8 := outTo (stateL k c n) 16
theorem blockL_len (k : List UInt8) (c : UInt32) (n : List UInt8) : (blockL k c n).length = 64 := outTo_len _ 16
def ctrN (c : UInt32) : Nat -> UInt32
 | 0 => c
 | q + 1 => wadd (ctrN c q) 1
def keyAt (k : List UInt8) (c : UInt32) (n : List UInt8) (i : Nat) : UInt8 := (blockL k (ctrN c (i / 64)) n).getD (i % 64) 0
def xorL (k : List UInt8) (c : UInt32) (n : List UInt8) (t : List UInt8) : List UInt8 := t.mapIdx fun i x => bxor x (keyAt k c n i)
theorem xorL_len (k : List UInt8) (c : UInt32) (n : List UInt8) (t : List UInt8) : (xorL k c n t).length = t.length := List.length_mapIdx ..
theorem bxor_twice (x y : UInt8) : bxor (bxor x y) y = x := by unfold bxor; rw [UInt8.xor_assoc, UInt8.xor_self, UInt8.xor_zero]
theorem xorL_twice (k : List UInt8) (c : UInt32) (n : List UInt8) (t : List UInt8) : xorL k c n (xorL k c n t) = t := by
 apply List.ext_getElem?
 intro i
 unfold xorL
 rw [List.getElem?_mapIdx, List.getElem?_mapIdx]
 cases t[i]? with
 | none => rfl
 | some x => exact congrArg some (bxor_twice x _)
end Go.Proofs.YtpghocekofdpbaaGreatDoor
namespace Go.Proofs.YtpghocekofdpbaaGreatDoor
open Go.RowKit Go.Shelf
attribute [local go_sem] Oper.semAt_some
def invL (l : List UInt8) : List UInt8 := l.map fun b => 255 - b
theorem invL_len (l : List UInt8) : (invL l).length = l.length := List.length_map ..
def intZ (n : Int) : List UInt8 := if 0 <= n then intL n.toNat else invL (intL (-1 - n).toNat)
theorem intZ_pos (n : Nat) : intZ (n : Int) = intL n := by unfold intZ; rw [if_pos (by omega), Int.toNat_natCast]
theorem intZ_neg (m : Nat) : intZ (-1 - (m : Int)) = invL (intL m) := by unfold intZ; rw [if_neg (by omega), show (-1 - (-1 - (m : Int))).toNat = m by omega]
theorem intZ_len (n : Int) : (intZ n).length <= 9 := by
 unfold intZ
 split
 ·exact intL_le _
 ·rw [invL_len]; exact intL_le _
set_option maxRecDepth 100000 in
theorem byte_xor255 (a : Nat) (h : a < 256) : Value.int IntKind.u8 (bits .xor .u8 (a : Int) 255) = byteV (255 - UInt8.ofNat a) := by
 have h1 := u8_xor_nat a 255 h (by decide)
 have h2 : a ^^^ 255 = 255 - a := by
  have : ∀ x : Fin 256, x.val ^^^ 255 = 255 - x.val := by decide
  exact this ⟨a, h⟩
 rw [h2] at h1
 unfold byteV
 have h3 : (255 - UInt8.ofNat a).toNat = 255 - a := by
  rw [UInt8.toNat_sub_of_le _ _ (by
   rw [UInt8.le_iff_toNat_le, UInt8.toNat_ofNat', Nat.mod_eq_of_lt (by omega)]
   show a <= 255
   omega), UInt8.toNat_ofNat', Nat.mod_eq_of_lt (by omega)]
  rfl
 rw [h3]
 exact congrArg _ h1
theorem inv_snoc (n k t : Nat) (h : t < k) : (invL (digL n k)).take (t + 1) = (invL (digL n k)).take t ++ [255 - UInt8.ofNat (n / 2 ^ (8 * (k - 1 - t)))] := by
 unfold invL
 rw [<- List.map_take, digL_snoc n k t h, List.map_append, List.map_take]
 rfl
theorem digI_len (n k : Nat) : (invL (digL n k)).length = k := by rw [invL_len, digL_len]
set_option maxRecDepth 100000 in
theorem not_u64 (m : Nat) (hm : m < 9223372036854775808) : bits .xor .u64 IntKind.u64.max (IntKind.u64.wrap (-1 - (m : Int))) = (m : Int) := by
 have e : BitVec.ofInt 64 IntKind.u64.max = BitVec.allOnes 64 := by decide
 show IntKind.u64.wrap ((BitVec.ofInt 64 IntKind.u64.max ^^^ BitVec.ofInt 64 (IntKind.u64.wrap (-1 - (m : Int)))).toNat : Int) = _
 rw [e, BitVec.allOnes_xor, BitVec.toNat_not, BitVec.toNat_ofInt, IntKind.wrap_u64, IntKind.wrap_u64]
 omega
set_option maxRecDepth 100000 in
set_option maxHeartbeats 1600000 in
theorem int_neg (w : World) (n : Nat) (hn : n < 9223372036854775808) :
  Calls Tryz.prog 42 #[.int .i64 (-1 - (n : Int))] w fun e w' => ∃ v, e = .returned v /\ BRow w' w.heap.size v (invL (intL n)) /\ Below w.heap.size w w' := by
 have q2 : (-1 - (n : Int)) < 0 := by omega
 have q3 : decide ((-1 - (n : Int)) < 0) = true := decide_eq_true q2
 have q1 := not_u64 n hn
 obtain ⟨z, hz⟩ : ∃ z, -1 - (n : Int) = z := ⟨_, rfl⟩
 rw [hz] at q1 q2 q3 ⊢
 obtain ⟨uu, huu⟩ : ∃ uu, IntKind.u64.wrap z = uu := ⟨_, rfl⟩
 rw [huu] at q1
 have hsg : IntKind.u64.signed = false := rfl
 clear hz hn
 go_enter Tryz.func42, Tryz.ntmps42
 go_wp2_with fail
 go_step3
 go_wp2_with fail
 go_step3
 go_upto_block 0 with fail
 go_cut [5] from 14 to 23 (fun p wx => p = .int .i64 (kOf n : Nat) /\ wx = w)
 case first =>
  go_wp2_with fail
  go_loopw [5] (fun p wr => ∃ j : Nat, p = .int .i64 j /\ j <= 8 /\ Hid (kFrom n j = kOf n) /\ wr = w) (fun p _ => (intOf p).toNat)
  case atStart => exact ⟨8, rfl, Nat.le_refl _, rfl, rfl⟩
  case round =>
   obtain ⟨j, rfl, hj, hk, rfl⟩ := hrel
   cases j with
   | zero =>
    go_wp2_with fail
    go_meet
    have h := hk
    unfold Hid kFrom at h
    exact ⟨by rw [<- h], rfl⟩
   | succ j =>
    have j1 : 0 < (j : Int) + 1 := by omega
    by_cases hp : 0 < n / 2 ^ (8 * j)
    ·have hp2 : decide (0 < n / 2 ^ (8 * j)) = true := decide_eq_true hp
     have hp3 : decide ((0 : Int) < (n : Int) / 2 ^ (8 * j)) = true := decide_eq_true (int_pos n (8 * j) hp)
     go_wp2_with fail
     go_meet
     have h := hk
     unfold Hid kFrom at h
     rw [if_pos hp] at h
     exact ⟨by rw [<- h], rfl⟩
    ·have hp2 : decide (0 < n / 2 ^ (8 * j)) = false := decide_eq_false hp
     have hp3 : decide ((0 : Int) < (n : Int) / 2 ^ (8 * j)) = false := decide_eq_false (int_npos n (8 * j) hp)
     have h : Hid (kFrom n j = kOf n) := by
      have h := hk
      unfold Hid kFrom at h
      rw [if_neg hp] at h
      exact h
     go_wp2_with fail
     refine ⟨⟨j, rfl, by omega, h, trivial⟩, ?_⟩
     simp [intOf]
 case rest =>
  obtain ⟨rfl, rfl⟩ := hcut
  have hk8 := kOf_le n
  have hL : Hid (invL (intL n) = (255 - UInt8.ofNat (128 + kOf n)) :: invL (digL n (kOf n))) := rfl
  generalize kOf n = k at *
  have hx0 : Value.int IntKind.u8 (bits .xor .u8 (128 + (k : Int)) 255) = byteV (255 - UInt8.ofNat (128 + k)) := byte_xor255 (128 + k) (by omega)
  obtain ⟨x0, hx0e⟩ : ∃ x0, 255 - UInt8.ofNat (128 + k) = x0 := ⟨_, rfl⟩
  rw [hx0e] at hx0 hL
  have hx0H := Lib.hid hx0
  clear hx0
  go_wp2_with fail
  rw [hx0H.out]
  have hR0 : Hid (BRow (wc.alloc (.cells #[byteV x0] 5)) wc.heap.size (.slice (some ⟨wc.heap.size, 0, none⟩) 1 1) (x0 :: (invL (digL n k)).take (k - k))) := by
   unfold Hid
   rw [Nat.sub_self, List.take_zero]
   exact brow_lit (base := wc.heap.size) wc [x0] (Nat.le_refl _) (by simp [maxLen])
  have hB0 : Hid (Below wc.heap.size wc (wc.alloc (.cells #[byteV x0] 5))) := (Below.refl _ wc).alloc (Nat.le_refl _) _
  clear hx0H hx0e q1 q2 q3
  go_loopw [6, 7] (fun p q wr => ∃ j : Nat, q = .int .i64 ((j : Int) - 1) /\ Hid (j <= k) /\ Hid (BRow wr wc.heap.size p (x0 :: (invL (digL n k)).take (k - j))) /\ Hid (Below wc.heap.size wc wr)) (fun _ q _ => (intOf q + 1).toNat)
  case atStart => exact ⟨k, rfl, Nat.le_refl _, hR0, hB0⟩
  case round =>
   clear hR0 hB0
   obtain ⟨j, rfl, hj, hR, hB⟩ := hrel
   cases j with
   | zero =>
    have hRf : BRow wr wc.heap.size u6 (invL (intL n)) := by
     have h := hR.out
     rw [Nat.sub_zero, List.take_of_length_le (by rw [digI_len]; exact Nat.le_refl _)] at h
     rw [hL.out]
     exact h
    go_wp2_with fail
    rw [Exit.noGoto_ret]
    go_ret
    exact ⟨_, rfl, hRf, hB.out⟩
   | succ i =>
    have hv : Value.int IntKind.u8 (bits .xor .u8 ((n : Int) / 2 ^ (8 * i) % 256) 255) = byteV (255 - UInt8.ofNat (n / 2 ^ (8 * i))) := by
     have h := byte_xor255 (n / 2 ^ (8 * i) % 256) (Nat.mod_lt _ (by decide))
     rw [Int.natCast_emod, <- int_div] at h
     rw [show (n : Int) / 2 ^ (8 * i) % 256 = (n : Int) / 2 ^ (8 * i) % ((256 : Nat) : Int) from rfl, h]
     congr 2
     apply UInt8.toNat_inj.1
     rw [UInt8.toNat_ofNat', UInt8.toNat_ofNat']
     omega
    have hsn := inv_snoc n k (k - (i + 1)) (by have := hj; unfold Hid at this; omega)
    rw [show k - 1 - (k - (i + 1)) = i by (have := hj; unfold Hid at this; omega), show k - (i + 1) + 1 = k - i by (have := hj; unfold Hid at this; omega)] at hsn
    obtain ⟨bx, hbx⟩ : ∃ bx, 255 - UInt8.ofNat (n / 2 ^ (8 * i)) = bx := ⟨_, rfl⟩
    rw [hbx] at hv hsn
    have hvH := Lib.hid hv
    have hsnH := Lib.hid hsn
    have hsz := Lib.hid hB.out.size
    have hln : Hid ((x0 :: (invL (digL n k)).take (k - (i + 1))).length < 99999999999) := by
     unfold Hid
     rw [List.length_cons, List.length_take]
     omega
    have hj8 : i < 8 := by have := hj; unfold Hid at this; omega
    clear hv hsn hbx
    go_wp2_with (at_builtin; refine wp_push rfl _ _ rfl wc.heap.size _ (x0 :: (invL (digL n k)).take (k - (i + 1))) rfl hR.out 1 bx hvH.out rfl hln.out hsz.out ?_; intro v' w' hP; rw [List.cons_append, <- hsnH.out] at hP)
    have hj2 : Hid (i <= k) := by have := hj; unfold Hid at this ⊢; omega
    refine ⟨⟨i, rfl, hj2, hP.row, hP.bel _ _ (Nat.le_refl _) hsz.out hB.out⟩, ?_⟩
    simp [intOf]
end Go.Proofs.YtpghocekofdpbaaGreatDoor
