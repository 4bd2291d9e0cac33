import Derived.Test.YtpghocekofdpbaaGreatDoorQb03
import Derived.Test.YtpghocekofdpbaaGreatDoorQb46
import Derived.DeepKeys
import Derived.Test.YtpghocekofdpbaaGreatDoorQb12
import Derived.Test.YtpghocekofdpbaaGreatDoorTie
import Derived.ProofKit
import Derived.LaidMore
import Derived.Lay
import Derived.OpenShut
import Derived.SliceStrings
import Derived.ChangeSlices
import Derived.Stop.Joined
import Derived.SevenTiedAt
namespace Go.Proofs.YtpghocekofdpbaaGreatDoor
open Go.RowKit Go.Shelf
attribute [local go_sem] Oper.semAt_some
def arrZ : Value := .agg #[.string zero32, .string zero32, .string zero32]
theorem lits_arrZ : (Tryz.prog).keyLits 10 96 arrZ.cells.toList = some [.string zero32.data.toList, .string zero32.data.toList, .string zero32.data.toList] := by kernel_rfl
theorem eq_arr3 (w : World) : (Op.equalIn 10000 96 (.agg #[.string zero32, .string zero32, .string zero32]) (.agg #[.string zero32, .string zero32, .string zero32])).run Tryz.prog w = .ok true w := by
 obtain ⟨r, h1, h2⟩ := run_equalIn_deep (P := Tryz.prog) 9990 10 96 (by kernel_rfl) w 10 10 arrZ arrZ _ _ (by kernel_rfl) (by kernel_rfl) lits_arrZ lits_arrZ
 rw [h2.2 rfl] at h1
 exact h1
theorem meet_up1 {C : World -> Prop} {G : Value -> World -> Prop} {R : Prop} (h : (∀ v w, C w -> G v w) -> R) (g : ∀ v w, C w -> G v w) : R := h g
section
variable {w : World} {a : DAt} {D : Dev}
set_option maxRecDepth 100000 in
set_option maxHeartbeats 8000000 in
theorem vcreate_any (hd : DevIs w a D) (hon : DOn D) (hf : Fine D.M) (hcl : Clean D.M) (h : Nat) (hh : D.M.length / 2 = h) (h1 : 1 <= h) (hD : D.M.length <= 4096) (hs : D.slots = [zero32, zero32, zero32]) (root : ByteArray) (hr : root.size = 32) (hr0 : root ≠ zero32) (hl : (jopen h D.M).l = []) :
  Calls Tryz.prog 46 #[.pointer (some ⟨a.d, 0, none⟩), .string root] w fun e w' => VOpened w a h (if (D.slot (0, root)).1 = 0 then (0, some ⟨jopen h D.M, root, zero32, none, []⟩, (D.slot (0, root)).2) else (14, none, (D.slot (0, root)).2)) e w' := by
 have HD := Lib.hid hd
 have HV : Hid (Calls Tryz.prog 64 #[.pointer (some ⟨a.d, 0, none⟩)] w fun e w' => e = .returned (.tuple #[.agg #[.string zero32, .string zero32, .string zero32], .int .i64 0]) /\ Below w.heap.size w w') := values_good hd hon.down hs
 have HO : Hid (∀ wx, Below w.heap.size w wx -> Calls Tryz.prog 65 #[.pointer (some ⟨a.d, 0, none⟩)] wx fun e w' => ∃ jb v, wx.heap.size <= jb /\ e = .returned (.tuple #[.pointer (some ⟨jb, 0, none⟩), .int .i64 0]) /\ JIs w' jb a h (jopen h D.M) v /\ Below wx.heap.size wx w') := fun wx hB => jOpen_good (hd.below hB) hon hf hcl h hh h1 hD
 have HVa : Hid (∀ wx, Calls Tryz.prog 57 #[.string root] wx fun e w' => e = .returned (.bool true) /\ Below wx.heap.size wx w') := fun wx => vvalid_good wx root hr hr0
 have HSt : Hid (∀ wx, Below w.heap.size w wx -> Calls Tryz.prog 83 #[.pointer (some ⟨a.d, 0, none⟩), .int .i64 0, .string root] wx fun e w' => e = .returned (.int .i64 (D.slot (0, root)).1) /\ DevIs w' a (D.slot (0, root)).2 /\ DLeft wx w' a) := fun wx hB => dstore_good (x := ⟨a, 0, 0, 0⟩) (hd.below hB) hon 0 (by rw [hs]; decide) root hr
 have hse := slot_err hon (0, root)
 obtain ⟨Z, hZ⟩ : ∃ Z, zero32 = Z := ⟨_, rfl⟩
 have HE : Hid (∀ wx, Calls Tryz.prog 61 #[] wx fun e w' => e = .returned (.string Z) /\ Below wx.heap.size wx w') := by rw [<- hZ]; exact Lib.hid vempty_any
 have hEq : ∀ wx : World, (Op.equalIn 10000 96 (.agg #[.string Z, .string Z, .string Z]) (.agg #[.string Z, .string Z, .string Z])).run Tryz.prog wx = .ok true wx := by rw [<- hZ]; exact eq_arr3
 rw [hZ] at HV ⊢
 obtain ⟨J, hJ⟩ : ∃ J, jopen h D.M = J := ⟨_, rfl⟩
 rw [hJ] at HO hl ⊢
 have Hl := Lib.hid hl
 generalize D.slot (0, root) = sl at *
 obtain ⟨se, sd⟩ := sl
 dsimp only at hse HSt ⊢
 have Hse := Lib.hid hse
 obtain ⟨RR, hRR⟩ : ∃ RR : VRes, (if se = 0 then (0, some ⟨J, root, Z, none, []⟩, sd) else (14, none, sd)) = RR := ⟨_, rfl⟩
 rw [hRR]
 have HRR := Lib.hid hRR
 clear hRR
 clear hd hon hf hcl hh h1 hD hs hr hr0 hl hJ hZ hse
 go_enter Tryz.func46, Tryz.ntmps46
 go_wp2_with (first
  | (go_at_call 64; refine HV.out.mono ?_; rintro e w1 ⟨rfl, hB1⟩; obtain ⟨wA, hwA⟩ : ∃ wA, w1.alloc (.cells #[.string Z, .string Z, .string Z] 96) = wA := ⟨_, rfl⟩; have HAr : Hid (Blk wA w1.heap.size 96 #[.string Z, .string Z, .string Z]) := (by rw [<- hwA]; exact Blk.new _ _ _); have HBA : Hid (Below w.heap.size w wA) := (by rw [<- hwA]; exact hB1.alloc hB1.size _); clear hB1)
  | (go_at_call 65; refine (HO.out _ HBA.out).mono ?_; rintro e w2 ⟨jb, vj, hjb, rfl, hjis, hB2⟩; have HJi := Lib.hid hjis; have HB2 := Lib.hid hB2; have Hjb := Lib.hid (Nat.le_trans HBA.out.size hjb); clear hjis hB2 hjb)
  | (go_at_call 57; refine (HVa.out _).mono ?_; rintro e w3 ⟨rfl, hB3⟩; have HB3 := Lib.hid hB3; clear hB3))
 obtain ⟨ab, hab⟩ : ∃ ab, w1.heap.size = ab := ⟨_, rfl⟩
 rw [hab] at HAr ⊢
 have HB23 : Hid (Below w.heap.size w w3) := (HBA.out.trans (HB2.out.mono HBA.out.size)).trans (HB3.out.mono (HBA.out.trans (HB2.out.mono HBA.out.size)).size)
 have HAr3 : Hid (Blk w3 ab 96 #[.string Z, .string Z, .string Z]) := (HAr.out.below HB2.out HAr.out.lt).below HB3.out (HAr.out.below HB2.out HAr.out.lt).lt
 have HJ3 : Hid (JIs w3 jb a h J vj) := HJi.out.below HB3.out
 have HS3 : Hid (∀ wx, Below w3.heap.size w3 wx -> wx.cell? ⟨ab, 0, none⟩ = some (.string Z) /\ wx.cell? ⟨ab, 1, none⟩ = some (.string Z) /\ wx.cell? ⟨ab, 2, none⟩ = some (.string Z)) := fun wx hB => ⟨(HAr3.out.below hB HAr3.out.lt).cell 0, (HAr3.out.below hB HAr3.out.lt).cell 1, (HAr3.out.below hB HAr3.out.lt).cell 2⟩
 have HN : Hid (∀ wx, Below w3.heap.size w3 wx -> Calls Tryz.prog 67 #[.pointer (some ⟨jb, 0, none⟩)] wx fun e w' => ∃ An cn, e = .returned (.slice An 0 cn) /\ Below wx.heap.size wx w') := fun wx hB => by
  refine (jNumbers_any (HJ3.out.below hB) (by rw [Hl.out]; decide)).mono ?_
  rintro e w' ⟨u, rfl, h1, _, h3⟩
  rw [Hl.out] at h1
  obtain ⟨A, c, rfl⟩ := Sec.ownsRow_slice h1
  exact ⟨A, c, rfl, h3⟩
 have hzz : (Z.toList == Z.toList) = true := beq_self_eq_true _
 have hzn : (Z.toList != Z.toList) = false := by show (!(Z.toList == Z.toList)) = false; rw [hzz]; rfl
 clear HAr hab hwA HB2 HB3 HBA HJi
 refine' meet_up1 (C := fun W => Below w3.heap.size w3 W) (fun hgo => ?body) ?rest
 case body =>
  have HB0 : Hid (Below w3.heap.size w3 w3.drew) := (Below.refl _ w3).drew
  refine wp_region_held_drew (S := (fun W => W.cell? ⟨ab, 0, none⟩ = some (.string Z) /\ W.cell? ⟨ab, 1, none⟩ = some (.string Z) /\ W.cell? ⟨ab, 2, none⟩ = some (.string Z))) (by kernel_rfl) (HS3.out _ HB0.out) (fun hHeld => ?_)
  generalize w3.drew = w3d at *
  refine' tk 0 rfl hHeld ?_
  try simp only [sA, gA]
  refine td 1 rfl (fun K hK => ?_)
  ·go_simp
   go_at_call 61
   refine (HE.out _).mono ?_
   rintro e9 w9_1 ⟨rfl, hB9⟩
   have HB_1 := Lib.hid (HB0.out.trans (hB9.mono HB0.out.size))
   clear hB9
   refine hK.out _ _ ?_ (fun hHeld2 => ?_)
   ·exact HS3.out _ HB_1.out
   clear hK K hHeld
   have hHeld := hHeld2
   clear hHeld2
   try simp only [sA, gA]
   refine td 2 rfl (fun K hK => ?_)
   ·go_simp
    go_at_call 61
    refine (HE.out _).mono ?_
    rintro e9 w9_2 ⟨rfl, hB9⟩
    have HB_2 := Lib.hid (HB_1.out.trans (hB9.mono HB_1.out.size))
    clear hB9
    refine hK.out _ _ ?_ (fun hHeld2 => ?_)
    ·exact HS3.out _ HB_2.out
    clear hK K hHeld
    have hHeld := hHeld2
    clear hHeld2
    try simp only [sA, gA]
    refine td 3 rfl (fun K hK => ?_)
    ·go_simp
     go_at_call 61
     refine (HE.out _).mono ?_
     rintro e9 w9_3 ⟨rfl, hB9⟩
     have HB_3 := Lib.hid (HB_2.out.trans (hB9.mono HB_2.out.size))
     clear hB9
     refine hK.out _ _ ?_ (fun hHeld2 => ?_)
     ·exact HS3.out _ HB_3.out
     clear hK K hHeld
     have hHeld := hHeld2
     clear hHeld2
     try simp only [sA, gA]
     refine' tk 4 rfl hHeld ?_
     try simp only [sA, gA]
     refine' tk 5 rfl hHeld ?_
     try simp only [sA, gA]
     refine' tk 6 rfl hHeld ?_
     try simp only [sA, gA]
     refine' tk 7 rfl hHeld ?_
     try simp only [sA, gA]
     refine td 8 rfl (fun K hK => ?_)
     go_simp
     go_at_call 67
     refine (HN.out _ HB_3.out).mono ?_
     rintro e9 w9 ⟨An, cn, rfl, hB9⟩
     have HB9 := Lib.hid (HB_3.out.trans (hB9.mono HB_3.out.size))
     clear hB9
     refine hK.out _ _ ?_ (fun hHeld2 => ?_)
     ·exact HS3.out _ HB9.out
     clear hK K hHeld
     have hHeld := hHeld2
     clear hHeld2
     try simp only [sA, gA]
     refine' tk 9 rfl hHeld ?_
     try simp only [sA, gA]
     refine' tk 10 rfl hHeld ?_
     try simp only [sA, gA]
     refine' tk 11 rfl hHeld ?_
     try simp only [sA, gA]
     refine' tk 12 rfl hHeld ?_
     try simp only [sA, gA]
     refine wpAnyH_done (by kernel_rfl) ?_ _
     generalize Value.slice An 0 cn = vn
     exact hgo vn w9 HB9.out
 intro vn w4 hB4
 have hBw : Below w.heap.size w w4 := HB23.out.trans (hB4.mono HB23.out.size)
 have HBw := Lib.hid hBw
 have HJ4 : Hid (JIs w4 jb a h J vj) := HJ3.out.below hB4
 clear hBw hB4 HS3 HN HAr3 HJ3 hEq hzz hzn
 rcases Hse.out with e0 | e0
 ·cases e0
  have hR : Hid (RR = (0, some ⟨J, root, Z, none, []⟩, sd)) := HRR.out.symm.trans (if_pos rfl)
  go_wp2_with (first
   | (go_at_call 83; refine (HSt.out w4 HBw.out).mono ?_; rintro e w5 ⟨rfl, hd5, hL5⟩; have H5 := Lib.hid (And.intro hd5 hL5); clear hd5 hL5)
   | (go_at_call 61; refine (HE.out _).mono ?_; rintro e w6 ⟨rfl, hB6⟩; have H6 := Lib.hid hB6; clear hB6))
  go_ret2
  rw [hR.out]
  obtain ⟨wv, hwv⟩ : ∃ wv, w6.alloc (.cells #[.pointer (some ⟨a.d, 0, none⟩), .pointer (some ⟨jb, 0, none⟩), .string root, .string Z, .pointer none, .slice none 0 0, .bool false] 79) = wv := ⟨_, rfl⟩
  have hBa : Below w6.heap.size w6 wv := by rw [<- hwv]; exact (Below.refl _ w6).alloc (Nat.le_refl _) _
  have hvb : Blk wv w6.heap.size 79 #[.pointer (some ⟨a.d, 0, none⟩), .pointer (some ⟨jb, 0, none⟩), .string root, .string Z, .pointer none, .slice none 0 0, .bool false] := by rw [<- hwv]; exact Blk.new _ _ _
  have hd6 := H5.out.1.below H6.out
  have hsb : a.sb < w6.heap.size := by
   obtain ⟨_, q⟩ := hd6.sblk
   exact q.lt
  have hsz : w.heap.size <= w6.heap.size := Nat.le_trans HBw.out.size (Nat.le_trans H5.out.2.size H6.out.size)
  have hj6 : JIs w6 jb a h J vj := (HJ4.out.left (HD.out.below HBw.out) H5.out.2).below H6.out
  have hgoal : VOpened w a h (0, some ⟨J, root, Z, none, []⟩, sd) (.returned (.tuple #[.pointer (some ⟨w6.heap.size, 0, none⟩), .int .i64 0])) wv :=
   ⟨(DLeft.ofBelow HBw.out).trans (H5.out.2.trans ((DLeft.ofBelow H6.out).trans (DLeft.ofBelow hBa))), hd6.below hBa, .inr ⟨_, ⟨a, jb, w6.heap.size, w6.heap.size⟩, .pointer none, .slice none 0 0, rfl, rfl, rfl, ⟨hd6.below hBa, ⟨vj, hj6.below hBa⟩, hvb, .inl ⟨rfl, rfl⟩, World.ownsRow_nil _ _ _ _, hsb, fun g i e => (by cases e), hBa.size⟩, Hjb.out, hsz, hsz⟩⟩
  rw [<- hwv] at hgoal
  exact hgoal
 ·cases e0
  have hR : Hid (RR = (14, none, sd)) := HRR.out.symm.trans (if_neg (by decide))
  go_wp2_with (first
   | (go_at_call 83; refine (HSt.out w4 HBw.out).mono ?_; rintro e w5 ⟨rfl, hd5, hL5⟩; have H5 := Lib.hid (And.intro hd5 hL5); clear hd5 hL5))
  go_ret2
  rw [hR.out]
  exact ⟨(DLeft.ofBelow HBw.out).trans H5.out.2, H5.out.1, .inl ⟨rfl, rfl⟩⟩
end
end Go.Proofs.YtpghocekofdpbaaGreatDoor
namespace Go.Proofs.YtpghocekofdpbaaGreatDoor
open Go.RowKit Go.Shelf
open Sec (bytesC bytesC_app bytesC_len conv_back)
attribute [local go_sem] Oper.semAt_some
def rootL (f k : Nat) : List UInt8 := (List.range k).map fun i => UInt8.ofNat ((f + i) % 256)
def textL (f k : Nat) : List UInt8 := (List.range k).map fun i => UInt8.ofNat ((f + i % 7) % 256)
theorem rootL_snoc (f k : Nat) : rootL f (k + 1) = rootL f k ++ [UInt8.ofNat ((f + k) % 256)] := by unfold rootL; rw [List.range_succ, List.map_append]; rfl
theorem textL_snoc (f k : Nat) : textL f (k + 1) = textL f k ++ [UInt8.ofNat ((f + k % 7) % 256)] := by unfold textL; rw [List.range_succ, List.map_append]; rfl
theorem rootL_len (f k : Nat) : (rootL f k).length = k := by unfold rootL; rw [List.length_map, List.length_range]
theorem textL_len (f k : Nat) : (textL f k).length = k := by unfold textL; rw [List.length_map, List.length_range]
def root26 (f : Nat) : ByteArray := ⟨(rootL f 32).toArray⟩
theorem root26_size (f : Nat) : (root26 f).size = 32 := (List.size_toArray ..).trans (rootL_len f 32)
def len26 (size : Int) : Nat := (min size 300).toNat
def text26 (f : Nat) (size : Int) : ByteArray := ⟨(textL f (len26 size)).toArray⟩
theorem len26_le (size : Int) : len26 size <= 300 := by unfold len26; omega
theorem text26_size (f : Nat) (size : Int) : (text26 f size).size = len26 size := (List.size_toArray ..).trans (textL_len f _)
set_option maxRecDepth 100000 in
set_option maxHeartbeats 4000000 in
theorem rRoot_any (w : World) (f : Nat) (_hf : f < 256) :
  Calls Tryz.prog 26 #[.int .u8 f] w fun e w' => e = .returned (.string (root26 f)) /\ Below w.heap.size w w' := by
 obtain ⟨i0, hi, hz0, hz1, hz2⟩ := info_parts Sec.infoU8
 go_enter Tryz.func26, Tryz.ntmps26
 go_wp2_with fail
 go_loopw [3, 4] (fun b i wr => ∃ k : Nat, k <= 32 /\ i = .int .i64 k /\ wr.ownsRow w.heap.size 5 1 b k (bytesC (rootL f k)) /\ Below w.heap.size w wr) (fun _ i _ => 32 - (intOf i).toNat)
 case atStart => exact ⟨0, Nat.zero_le _, rfl, World.ownsRow_nil _ _ _ _, Below.refl _ _⟩
 case round =>
  obtain ⟨k, hk, rfl, hrow, hB⟩ := hrel
  have hBs := hB.size
  by_cases hkl : k < 32
  ·have HL := Lib.hid (rootL_snoc f k)
   have hb : (((f : Int) + (k : Int)) % 256) = ((UInt8.ofNat ((f + k) % 256)).toNat : Int) := by simp
   have HB := Lib.hid hb
   have hk8 : (k : Int) % 256 = (k : Int) := by omega
   clear hb
   go_wp2_with (at_builtin; refine wpList_append_own _ rfl _ _ 66 rfl w.heap.size 5 i0 _ 1 1 Tryz.underlying66 hi hz0 hz1 hz2 rfl (by decide) _ k (bytesC (rootL f k)) rfl (hrow.alloc _) ⟨wr.heap.size, 0, none⟩ 1 1 [.int .u8 (((f : Int) + (k : Int)) % 256)] rfl rfl ?c1 ?c2 ?c3 ?c4 ?c5 ?_)
   case c1 => exact cell_one_new _ _ _
   case c2 => simp [Value.oneCell']
   case c3 => unfold maxLen; omega
   case c4 => omega
   case c5 => simp; omega
   intro v' w3 hown3 hg3 _
   have hB3 : Below w.heap.size w w3 := (hB.alloc (by omega) _).grown hg3 (by simp; omega) (fun g e => (hrow.lt g e).1)
   have hown4 : Hid (w3.ownsRow w.heap.size 5 1 v' (k + 1) (bytesC (rootL f (k + 1)))) := by
    unfold Hid
    rw [HL.out, bytesC_app]
    have e : bytesC [UInt8.ofNat ((f + k) % 256)] = [.int .u8 (((f : Int) + (k : Int)) % 256)] := by rw [HB.out]; rfl
    rw [e]
    exact hown3
   clear hg3 hown3 hrow
   go_wp2_with fail
   go_roundw
   case rel => exact ⟨k + 1, by omega, by go_num, hown4.out, hB3⟩
   case measure => simp [intOf]; omega
  ·obtain rfl : k = 32 := by omega
   obtain ⟨g, c, rfl, hcv⟩ := conv_back _ hrow (by omega)
   go_wp2_with fail
   go_ret
   exact ⟨rfl, hB⟩
theorem conv_all {w : World} {base n : Nat} {v : Value} (l : List UInt8) (h : w.ownsRow base 5 1 v n (bytesC l)) : (convert 66 9 v).run Tryz.prog w = .ok (.string ⟨l.toArray⟩) w := by
 rcases Nat.eq_zero_or_pos n with rfl | hn
 ·have hl : l = [] := by
   have := h.1
   rw [bytesC_len] at this
   exact List.eq_nil_of_length_eq_zero (by omega)
  subst hl
  rcases h.2 with ⟨rfl, h0⟩ | ⟨g, cap, cur, rfl, _⟩
  ·simp [go_sem, convert, Conv.bytesToString]
   rfl
  ·exact run_convert_bytes_back (P := Tryz.prog) w 66 9 5 ⟨g, 0, none⟩ cap [] Tryz.underlying66 Tryz.underlying5 Tryz.underlying9 (fun j hj => absurd hj (by simp))
 ·obtain ⟨g, c, rfl, hc⟩ := conv_back l h hn
  exact hc
set_option maxRecDepth 100000 in
set_option maxHeartbeats 4000000 in
theorem rText26_any (w : World) (kind n size : Int) (f : Nat) (_hf : f < 256) (A : Option Addr) (m c : Nat) :
  Calls Tryz.prog 14 #[.agg #[.int .i64 kind, .int .i64 n, .int .i64 size, .int .u8 f, .slice A m c]] w fun e w' => e = .returned (.string (text26 f size)) /\ Below w.heap.size w w' := by
 obtain ⟨i0, hi, hz0, hz1, hz2⟩ := info_parts Sec.infoU8
 obtain ⟨N, hN⟩ : ∃ N, len26 size = N := ⟨_, rfl⟩
 have hNl : N <= 300 := by rw [<- hN]; exact len26_le size
 have hlt : ∀ k : Nat, k < N ↔ ((k : Int) < size /\ k < 300) := fun k => by rw [<- hN]; unfold len26; omega
 have hT : text26 f size = ⟨(textL f N).toArray⟩ := by unfold text26; rw [hN]
 rw [hT]
 have HT := Lib.hid hlt
 have hb := Blk.new w 32 #[.int .i64 kind, .int .i64 n, .int .i64 size, .int .u8 f, .slice A m c]
 have hb0 := (Below.refl w.heap.size w).alloc (Nat.le_refl _) (.cells #[.int .i64 kind, .int .i64 n, .int .i64 size, .int .u8 f, .slice A m c] 32)
 clear hlt hT hN
 go_enter Tryz.func14, Tryz.ntmps14
 go_wp2_with fail
 generalize w.alloc (.cells #[.int .i64 kind, .int .i64 n, .int .i64 size, .int .u8 f, .slice A m c] 32) = w0 at *
 go_loopw [3, 4] (fun b i wr => ∃ k : Nat, k <= N /\ i = .int .i64 k /\ wr.ownsRow (w.heap.size + 1) 5 1 b k (bytesC (textL f k)) /\ Below w.heap.size w wr /\ Hid (Blk wr w.heap.size 32 #[.int .i64 kind, .int .i64 n, .int .i64 size, .int .u8 f, .slice A m c])) (fun _ i _ => N - (intOf i).toNat)
 case atStart => exact ⟨0, Nat.zero_le _, rfl, World.ownsRow_nil _ _ _ _, hb0, hb⟩
 case round =>
  obtain ⟨k, hk, rfl, hrow, hB, hX⟩ := hrel
  have hBs := hB.size
  have hXl := hX.out.lt
  have y2 : wr.cell? ⟨w.heap.size, 2, none⟩ = some (.int .i64 size) := hX.out.cell 2
  have y3 : wr.cell? ⟨w.heap.size, 3, none⟩ = some (.int .u8 f) := hX.out.cell 3
  by_cases hkl : k < N
  ·obtain ⟨q1, q2⟩ := (HT.out k).1 hkl
   have d1 : decide ((k : Int) < size) = true := decide_eq_true q1
   have d2 : (k : Int) < 300 := by omega
   have HL := Lib.hid (textL_snoc f k)
   have hb : (((f : Int) + (k : Int) % 7) % 256) = ((UInt8.ofNat ((f + k % 7) % 256)).toNat : Int) := by simp
   have HB := Lib.hid hb
   have hk7 : ((k : Int) % 7) % 256 = (k : Int) % 7 := by omega
   have hkt : Int.tmod (k : Int) 7 = (k : Int) % 7 := Int.tmod_eq_emod_of_nonneg (by omega)
   clear hb
   go_wp2_with (at_builtin; refine wpList_append_own _ rfl _ _ 66 rfl (w.heap.size + 1) 5 i0 _ 1 1 Tryz.underlying66 hi hz0 hz1 hz2 rfl (by decide) _ k (bytesC (textL f k)) rfl (hrow.alloc _) ⟨wr.heap.size, 0, none⟩ 1 1 [.int .u8 (((f : Int) + (k : Int) % 7) % 256)] rfl rfl ?c1 ?c2 ?c3 ?c4 ?c5 ?_)
   case c1 => exact cell_one_new _ _ _
   case c2 => simp [Value.oneCell']
   case c3 => unfold maxLen; omega
   case c4 => omega
   case c5 => simp; omega
   intro v' w3 hown3 hg3 _
   have hB3 : Below w.heap.size w w3 := (hB.alloc (by omega) _).grown hg3 (by simp; omega) (fun g e => by have := (hrow.lt g e).1; omega)
   have hX3 : Hid (Blk w3 w.heap.size 32 #[.int .i64 kind, .int .i64 n, .int .i64 size, .int .u8 f, .slice A m c]) := (hX.out.alloc _).grown hg3 (fun e => by have := (hrow.lt _ e.symm).1; omega)
   have hown4 : Hid (w3.ownsRow (w.heap.size + 1) 5 1 v' (k + 1) (bytesC (textL f (k + 1)))) := by
    unfold Hid
    rw [HL.out, bytesC_app]
    have e : bytesC [UInt8.ofNat ((f + k % 7) % 256)] = [.int .u8 (((f : Int) + (k : Int) % 7) % 256)] := by rw [HB.out]; rfl
    rw [e]
    exact hown3
   clear hg3 hown3 hrow hX y2 y3
   go_wp2_with fail
   go_roundw
   case rel => exact ⟨k + 1, by omega, by go_num, hown4.out, hB3, hX3⟩
   case measure => simp [intOf]; omega
  ·obtain rfl : k = N := by omega
   have hcv := conv_all _ hrow
   by_cases q1 : (k : Int) < size
   ·have d1 : decide ((k : Int) < size) = true := decide_eq_true q1
    have d2 : ¬ (k : Int) < 300 := fun h => hkl ((HT.out k).2 ⟨q1, by omega⟩)
    have d3 : decide ((k : Int) < 300) = false := decide_eq_false d2
    go_wp2_with fail
    go_ret
    exact ⟨rfl, hB⟩
   ·have d1 : decide ((k : Int) < size) = false := decide_eq_false q1
    go_wp2_with fail
    go_ret
    exact ⟨rfl, hB⟩
end Go.Proofs.YtpghocekofdpbaaGreatDoor
namespace Go.Proofs.YtpghocekofdpbaaGreatDoor
open Sec (countN mostN fitL joinTo joinL PartL)
theorem open_text_le {s : List UInt8} {p : PartL} (h : Sec.openL s = some p) : p.text.length <= 44 := by
 unfold Sec.openL at h
 split at h
 ·cases h
  dsimp only
  rw [List.length_take]
  omega
 ·cases h
theorem fit_le {n l i : Nat} {s x : List UInt8} (h : fitL n l i s = some x) : x.length <= 44 := by
 unfold fitL at h
 split at h
 ·split at h
  ·rename_i p hp
   split at h
   ·cases h; exact open_text_le hp
   ·cases h
  ·cases h
 ·cases h
theorem joinTo_le {n l0 : Nat} {l : Rows8} : ∀ {k : Nat} {t : List UInt8}, joinTo n l0 l k = some t -> t.length <= 44 * k
 | 0, t, h => by cases h; exact Nat.le_refl _
 | k + 1, t, h => by
  have h' : (match joinTo n l0 l k with
   | none => none
   | some t => match l[k]? with
    | none => none
    | some s => match fitL n l0 k s with
     | none => none
     | some x => some (t ++ x)) = some t := h
  split at h'
  ·cases h'
  ·rename_i t0 h0
   split at h'
   ·cases h'
   ·split at h'
    ·cases h'
    ·rename_i x hx
     cases h'
     have := joinTo_le h0
     have := fit_le hx
     rw [List.length_append]
     omega
theorem join_text_le {l : Rows8} (h : (joinL l).e = 0) : (joinL l).text.length <= 44 * l.length := by
 obtain ⟨s0, p, t, _, _, _, _, hc, ht, e⟩ := join_head h
 rw [e]
 have := joinTo_le ht
 dsimp only
 omega
theorem path_few {B : Rows8} {u last u' last' : Nat} {xs : List (Nat × Nat × List UInt8)} (h : Path B u last xs u' last') : u + xs.length <= u' /\ ∀ x ∈ xs, x.2.1 <= last' /\ x.2.2.length <= 44 * B.length := by
 induction h with
 | nil u last => exact ⟨Nat.le_refl _, fun x hx => by cases hx⟩
 | cons hx r ih =>
  rename_i u0 last0 x xs u1 last1
  have hr := recAt_up hx
  have hp := path_up r
  refine ⟨by rw [List.length_cons]; omega, fun y hy => ?_⟩
  rcases List.mem_cons.1 hy with rfl | hy
  ·refine ⟨hp.2, ?_⟩
   unfold recAt at hx
   split at hx
   ·rename_i hc
    cases hx
    have := join_text_le hc.2.1
    rw [List.length_drop] at this
    dsimp only
    omega
   ·cases hx
  ·exact ih.2 y hy
section
variable {h b : Nat} {J : Jrn} {M : List Sec}
theorem JInv.few (I : JInv h J M) : J.l.length <= h := by
 obtain ⟨xs, hp, hx⟩ := I.path
 have h1 := (path_few hp).1
 have h2 := congrArg List.length hx
 rw [List.length_map, List.length_map] at h2
 have := I.used
 omega
theorem JInv.bounds (I : JInv h J M) : ∀ e ∈ J.l, e.1 < J.next /\ e.2.size <= 44 * h := by
 obtain ⟨xs, hp, hx⟩ := I.path
 have h1 := (path_few hp).2
 intro e he
 have hm : (e.1, e.2.data.toList) ∈ xs.map (fun x => (x.2.1, x.2.2)) := by rw [hx]; exact List.mem_map.2 ⟨e, he, rfl⟩
 obtain ⟨y, hy, e1⟩ := List.mem_map.1 hm
 obtain ⟨a1, a2⟩ := h1 y hy
 have e2 : y.2.1 = e.1 := congrArg Prod.fst e1
 have e3 : y.2.2 = e.2.data.toList := congrArg Prod.snd e1
 rw [e2] at a1
 rw [e3] at a2
 have hT : (bankAt (nowL M) (J.bank * h) h 0).length = h := by rw [bankAt_len _ _ _ _ (by rw [nowL_len]; exact I.banks.1)]; omega
 rw [hT] at a2
 have := I.last
 exact ⟨by omega, a2⟩
theorem JInv.hbl (I : JInv h J M) (hn : J.next <= 100000) (hh : h <= 4096) : (∀ e ∈ J.l, e.1 < 9223372036854775808 /\ e.2.size <= 1000000) /\ J.l.length <= 1048576 := by
 refine ⟨fun e he => ?_, ?_⟩
 ·have := I.bounds e he
  omega
 ·have := I.few
  omega
end
theorem root26_ne (f : Nat) : root26 f ≠ zero32 := by
 intro h
 have h1 : rootL f 32 = List.replicate 32 0 := by
  have := congrArg (fun x : ByteArray => x.data.toList) h
  exact this
 have h2 : (rootL f 32)[0]? = some (UInt8.ofNat (f % 256)) := by unfold rootL; simp
 have h3 : (rootL f 32)[1]? = some (UInt8.ofNat ((f + 1) % 256)) := by unfold rootL; simp
 rw [h1] at h2 h3
 have e2 : (0 : UInt8) = UInt8.ofNat (f % 256) := by simpa using h2
 have e3 : (0 : UInt8) = UInt8.ofNat ((f + 1) % 256) := by simpa using h3
 have n2 := congrArg UInt8.toNat e2
 have n3 := congrArg UInt8.toNat e3
 simp at n2 n3
 omega
theorem slot_left {D : Dev} (h : D.left = -1) (x : Nat × ByteArray) : (D.slot x).2.left = -1 := by
 unfold Dev.slot Dev.dstep
 split
 ·exact h
 ·split
  ·rename_i h0; exact absurd rfl h0
  ·split
   ·rename_i h1; omega
   ·show max (D.left - 1) (-1) = -1
    rw [h]; rfl
theorem stores_left : ∀ (l : List (Nat × ByteArray)) (D : Dev), D.left = -1 -> (dstores l D).2.left = -1
 | [], _, h => h
 | x :: r, D, h => by
  show (if (D.slot x).1 = 0 then dstores r (D.slot x).2 else D.slot x).2.left = -1
  split
  ·exact stores_left r _ (slot_left h x)
  ·exact slot_left h x
section
variable {h : Nat} {V : Vlt} {D : Dev}
theorem vchain_left (hl : D.left = -1) (c : ByteArray) : (vchain c V D).2.2.left = -1 := by
 unfold vchain
 split <;> exact slot_left hl _
theorem on_left (hl : D.left = -1) (k : Nat) (M : List Sec) : (D.on k M).left = -1 := by
 show lft D.left k = -1
 rw [hl]; rfl
theorem commit_left (hl : D.left = -1) (t : ByteArray) : (vcommit h V D t).2.2.left = -1 := by
 unfold vcommit
 split
 ·exact hl
 ·rcases append_cases (h := h) (D := D) (blobOf V.root V.J.next (recT t)) V.J with ⟨_, e⟩ | ⟨_, _, e⟩ | ⟨_, _, e⟩ <;> rw [e]
  ·exact hl
  ·rfl
  ·exact vchain_left (on_left hl _ _) _
theorem replace_left (hl : D.left = -1) (r t : ByteArray) : (vreplace h V D r t).2.2.left = -1 := by
 unfold vreplace
 rcases compact_cases (h := h) (D := D) (blobOf r V.J.next (imgT V.chain t)) V.J with ⟨_, e⟩ | ⟨_, _, e⟩ | ⟨_, _, e⟩ <;> rw [e]
 ·exact hl
 ·rfl
 ·exact on_left hl _ _
theorem compact_left (hl : D.left = -1) (t : ByteArray) : (vcompact h V D t).2.2.left = -1 := by
 unfold vcompact
 split
 ·exact hl
 ·have hr := replace_left (h := h) (V := V) hl V.root t
  split
  ·rename_i V' D' e
   rw [e] at hr
   exact vchain_left hr _
  ·exact hr
theorem vall_left (hl : D.left = -1) : (vall V D).2.2.left = -1 := by
 unfold vall
 split <;> exact stores_left _ _ hl
theorem rekey_left (hl : D.left = -1) (r t : ByteArray) : (vrekey h V D r t).2.2.left = -1 := by
 unfold vrekey
 split
 ·exact hl
 ·split
  ·exact slot_left hl _
  ·have hr := replace_left (h := h) (V := V) (slot_left hl (2, r)) r t
   split
   ·rename_i V' D' e
    rw [e] at hr
    exact vall_left hr
   ·rename_i e
    rw [e] at hr
    exact hr
   ·rename_i e
    rw [e] at hr
    exact slot_left hr _
end
theorem slot_M (D : Dev) (x : Nat × ByteArray) : (D.slot x).2.M = D.M := by
 unfold Dev.slot Dev.dstep
 split
 ·rfl
 ·split
  ·rename_i h0; exact absurd rfl h0
  ·split <;> rfl
theorem stores_M : ∀ (l : List (Nat × ByteArray)) (D : Dev), (dstores l D).2.M = D.M
 | [], _ => rfl
 | x :: r, D => by
  show (if (D.slot x).1 = 0 then dstores r (D.slot x).2 else D.slot x).2.M = D.M
  split
  ·exact (stores_M r _).trans (slot_M D x)
  ·exact slot_M D x
section
variable {h : Nat} {V : Vlt} {D : Dev}
theorem vchain_len (c : ByteArray) : (vchain c V D).2.2.M.length = D.M.length := by
 unfold vchain
 split <;> exact congrArg List.length (slot_M D _)
theorem commit_len (t : ByteArray) : (vcommit h V D t).2.2.M.length = D.M.length := by
 unfold vcommit
 split
 ·rfl
 ·rcases append_cases (h := h) (D := D) (blobOf V.root V.J.next (recT t)) V.J with ⟨_, e⟩ | ⟨_, _, e⟩ | ⟨_, _, e⟩ <;> rw [e]
  ·exact wrL_len _ _ _
  ·exact (vchain_len _).trans (putM_len _ _ _)
theorem replace_len (r t : ByteArray) : (vreplace h V D r t).2.2.M.length = D.M.length := by
 unfold vreplace
 rcases compact_cases (h := h) (D := D) (blobOf r V.J.next (imgT V.chain t)) V.J with ⟨_, e⟩ | ⟨_, _, e⟩ | ⟨_, _, e⟩ <;> rw [e]
 ·exact wrL_len _ _ _
 ·exact putM_len _ _ _
theorem compact_lenV (t : ByteArray) : (vcompact h V D t).2.2.M.length = D.M.length := by
 unfold vcompact
 split
 ·rfl
 ·have hr := replace_len (h := h) (V := V) (D := D) V.root t
  split
  ·rename_i V' D' e
   rw [e] at hr
   exact (vchain_len _).trans hr
  ·exact hr
theorem vall_len : (vall V D).2.2.M.length = D.M.length := by
 unfold vall
 split <;> exact congrArg List.length (stores_M _ D)
theorem rekey_len (r t : ByteArray) : (vrekey h V D r t).2.2.M.length = D.M.length := by
 unfold vrekey
 split
 ·rfl
 ·split
  ·exact congrArg List.length (slot_M D _)
  ·have hr := replace_len (h := h) (V := V) (D := (D.slot (2, r)).2) r t
   rw [slot_M] at hr
   split
   ·rename_i V' D' e
    rw [e] at hr
    exact vall_len.trans hr
   ·rename_i e
    rw [e] at hr
    exact hr
   ·rename_i e
    rw [e] at hr
    exact (congrArg List.length (slot_M _ _)).trans hr
end
end Go.Proofs.YtpghocekofdpbaaGreatDoor
namespace Go.Proofs.YtpghocekofdpbaaGreatDoor
open Go.ChangeShapes Go.WideShapes Go.ChangeAt Go.RowKit Go.Deep
theorem cellsStep : Tryz.prog.cellsOf 32 = 5 := by kernel_rfl
structure JStep where
 kind : Int
 n : Int
 size : Int
 fill : Nat
 picks : List Int
instance : Inhabited JStep := ⟨⟨0, 0, 0, 0, []⟩⟩
def stepCells (op : JStep) (pv : Value) : List Value := [.int .i64 op.kind, .int .i64 op.n, .int .i64 op.size, .int .u8 op.fill, pv]
def JStep.ok (op : JStep) : Prop := op.fill < 256 /\ -9223372036854775808 <= op.n /\ op.n <= 9223372036854775807
def JStepAt (W : World) (b o : Nat) (op : JStep) : Prop :=
 ∃ pv, (∀ j, j < 5 -> W.cell? ⟨b, o + j, none⟩ = (stepCells op pv)[j]?) /\ op.ok /\ IntsAt W pv op.picks
def JStepsAt (W : World) (v : Value) (ops : List JStep) : Prop :=
 ∃ A c, v = .slice A ops.length c /\ (0 < ops.length -> ∃ b o, A = some ⟨b, o, none⟩ /\ b < W.heap.size /\ ∀ i op, ops[i]? = some op -> JStepAt W b (o + i * 5) op)
section
variable {H : Type} {enc : TypeId × Value -> H} {w : World} {base : Nat} {spare : Nat -> Bool} {held : Bool}
set_option maxRecDepth 100000 in
theorem step_cells {m : Nat} {cs : List Value} {x : DataW H × List MemPlace} (h : DataW.trod enc Tryz.prog w base spare held m 32 cs = some x) :
  ∃ (op : JStep) (pv : Value), cs = stepCells op pv /\ op.ok /\ IntsAt w pv op.picks := by
 obtain ⟨xs, n, _, _, hl, hlen, hf⟩ := DataW.trod_struct Tryz.underlying32 h
 rw [cellsStep] at hl
 have f0 : DataW.trod enc Tryz.prog w base spare held n 3 ((cs.drop 0).take (Tryz.prog.cellsOf 3)) = xs[0]? := hf 0 _ rfl
 have f1 : DataW.trod enc Tryz.prog w base spare held n 3 ((cs.drop 1).take (Tryz.prog.cellsOf 3)) = xs[1]? := hf 1 _ rfl
 have f2 : DataW.trod enc Tryz.prog w base spare held n 3 ((cs.drop 2).take (Tryz.prog.cellsOf 3)) = xs[2]? := hf 2 _ rfl
 have f3 : DataW.trod enc Tryz.prog w base spare held n 5 ((cs.drop 3).take (Tryz.prog.cellsOf 5)) = xs[3]? := hf 3 _ rfl
 have f4 : DataW.trod enc Tryz.prog w base spare held n 30 ((cs.drop 4).take (Tryz.prog.cellsOf 30)) = xs[4]? := hf 4 _ rfl
 rw [cellsInt] at f0 f1 f2
 rw [cellsU8] at f3
 rw [cellsInts] at f4
 have hx : ∀ i, i < 5 -> ∃ y, xs[i]? = some y := fun i hi => ⟨_, List.getElem?_eq_getElem (by rw [hlen]; exact hi)⟩
 obtain ⟨y0, e0⟩ := hx 0 (by decide)
 obtain ⟨y1, e1⟩ := hx 1 (by decide)
 obtain ⟨y2, e2⟩ := hx 2 (by decide)
 obtain ⟨y3, e3⟩ := hx 3 (by decide)
 obtain ⟨y4, e4⟩ := hx 4 (by decide)
 obtain ⟨a, ha, _, wa⟩ := DataW.trod_int Tryz.underlying3 (f0.trans e0)
 obtain ⟨b, hb, _, wb⟩ := DataW.trod_int Tryz.underlying3 (f1.trans e1)
 obtain ⟨c, hc, _, wc⟩ := DataW.trod_int Tryz.underlying3 (f2.trans e2)
 obtain ⟨d, hd, _, wd⟩ := DataW.trod_int Tryz.underlying5 (f3.trans e3)
 obtain ⟨pv, P, hp, hP⟩ := open_ints (f4.trans e4)
 obtain ⟨fl, rfl, hfl⟩ := u8_nat wd
 refine ⟨⟨a, b, c, fl, P⟩, pv, ?_, ⟨hfl, i64_in wb⟩, hP⟩
 match cs, hl with
 | [c0, c1, c2, c3, c4], _ =>
  simp at ha hb hc hd hp
  rw [ha, hb, hc, hd, hp]
  rfl
end
set_option maxRecDepth 100000 in
theorem open_steps {H : Type} {enc : TypeId × Value -> H} {W : World} {base : Nat} {v : Value} {d : DataW H} {ps : List MemPlace} (hv : Value.okWide Tryz.prog W .any base 22 v)
  (h : DataW.Trod enc Tryz.prog W 0 (fun _ => true) true 22 v d ps) : ∃ ops : List JStep, JStepsAt W v ops /\ ∀ (i : Nat) (o : JStep), ops[i]? = some o -> o.ok := by
 obtain ⟨a0, len, cap, rfl⟩ := okWide_slice Tryz.underlying22 hv
 obtain ⟨fuel, hf⟩ := h
 rcases open_slice Tryz.underlying22 hf with ⟨hcs, _⟩ | ⟨a, len', cap', m, n, D, Pl, hcs, _, hl, hm, hmm, _, hx⟩
 ·simp [Value.cells] at hcs
  obtain ⟨rfl, rfl, rfl⟩ := hcs
  exact ⟨[], ⟨none, 0, rfl, fun h => absurd h (by simp)⟩, fun i o h => by simp at h⟩
 ·simp [Value.cells] at hcs
  obtain ⟨rfl, rfl, rfl⟩ := hcs
  simp only [if_true] at hmm
  rw [cellsStep] at hx
  obtain ⟨T, hT⟩ := choose_lt (α := JStep) (n := len) (p := fun i T => ∃ pv, W.cells? 0 (a.add (i * 5)) 5 = some (stepCells T pv) /\ T.ok /\ IntsAt W pv T.picks) (fun i hi => by
   obtain ⟨cs', h1, h2⟩ := hx i (by omega)
   obtain ⟨T, pv, rfl, h3, h4⟩ := step_cells h2
   exact ⟨T, pv, h1, h3, h4⟩)
  have hlen : ((List.range len).map T).length = len := by rw [List.length_map, List.length_range]
  have hget : ∀ i G, ((List.range len).map T)[i]? = some G -> i < len /\ T i = G := fun i G hG => by
   rw [List.getElem?_map] at hG
   obtain ⟨i', hi', e⟩ := Option.map_eq_some_iff.1 hG
   have hil : i < len := by have := (List.getElem?_eq_some_iff.1 hi').1; simpa using this
   have : i' = i := by rw [List.getElem?_range hil] at hi'; cases hi'; rfl
   subst this
   exact ⟨hil, e⟩
  have hat : ∀ i (hi : i < len), ∃ pv, (∀ j, j < 5 -> W.cell? ((a.add (i * 5)).add j) = (stepCells (T i) pv)[j]?) /\ (T i).ok /\ IntsAt W pv (T i).picks := fun i hi => by
   obtain ⟨pv, h1, h2⟩ := hT i hi
   exact ⟨pv, fun j hj => (World.cells?_some h1).2.2 j hj, h2⟩
  refine ⟨(List.range len).map T, ⟨_, cap, by rw [hlen], fun hl0 => ?_⟩, fun i o ho => ?_⟩
  ·rw [hlen] at hl0
   obtain ⟨_, h00, _⟩ := hat 0 hl0
   have h00 := h00 0 (by decide)
   rw [Nat.zero_mul] at h00
   have ha0 : (a.add 0).add 0 = a := by simp [Addr.add]
   rw [ha0] at h00
   obtain ⟨ha, hbl⟩ := cell_spot h00
   refine ⟨a.block, a.off, by rw [<- ha], hbl, fun i G hG => ?_⟩
   obtain ⟨hil, rfl⟩ := hget i G hG
   obtain ⟨pv, h1, h2, h3⟩ := hat i hil
   refine ⟨pv, fun j hj => ?_, h2, h3⟩
   have := h1 j hj
   rw [ha, Addr.add_lit, Addr.add_lit] at this
   exact this
  ·obtain ⟨hil, rfl⟩ := hget i o ho
   obtain ⟨_, _, h2, _⟩ := hat i hil
   exact h2
def JStepOk (w0 : World) (o : JStep) (x : Value) : Prop := ∃ A n c, x = .agg #[.int .i64 o.kind, .int .i64 o.n, .int .i64 o.size, .int .u8 o.fill, .slice A n c] /\ o.ok /\ IntsAt w0 (.slice A n c) o.picks
set_option maxRecDepth 100000 in
theorem JStepAt.below {W W' : World} {b o : Nat} {op : JStep} (h : JStepAt W b o op) (hb : b < W.heap.size) (hB : Below W.heap.size W W') : ∃ A n c, W'.cell? ⟨b, o, none⟩ = some (.int .i64 op.kind) /\ W'.cell? ⟨b, o + 1, none⟩ = some (.int .i64 op.n) /\ W'.cell? ⟨b, o + 2, none⟩ = some (.int .i64 op.size) /\ W'.cell? ⟨b, o + 3, none⟩ = some (.int .u8 op.fill) /\ W'.cell? ⟨b, o + 4, none⟩ = some (.slice A n c) /\
  JStepOk W op (.agg #[.int .i64 op.kind, .int .i64 op.n, .int .i64 op.size, .int .u8 op.fill, .slice A n c]) := by
 obtain ⟨pv, h0, h5, h6⟩ := h
 have h6' := h6
 obtain ⟨A, c, rfl, _⟩ := h6'
 refine ⟨A, _, c, ?_, ?_, ?_, ?_, ?_, A, _, c, rfl, h5, h6⟩
 ·exact (hB.cell (p := ⟨b, o, none⟩) hb).trans (h0 0 (by decide))
 ·exact (hB.cell (p := ⟨b, o + 1, none⟩) hb).trans (h0 1 (by decide))
 ·exact (hB.cell (p := ⟨b, o + 2, none⟩) hb).trans (h0 2 (by decide))
 ·exact (hB.cell (p := ⟨b, o + 3, none⟩) hb).trans (h0 3 (by decide))
 ·exact (hB.cell (p := ⟨b, o + 4, none⟩) hb).trans (h0 4 (by decide))
theorem jpicks_rest {w0 w : World} {pv : Value} {P : List Int} {b g : Nat} (h : IntsAt w0 pv P) (hB : Below w0.heap.size w0 w) (hbg : b ≠ g) (hb : b < w.heap.size) (hg : w0.heap.size <= g) :
  ∃ pb po, RestAt pv P.length 0 pb po /\ pb ≠ g /\ pb < w.heap.size /\ ∀ i x, P[i]? = some x -> w.cell? ⟨pb, po + i, none⟩ = some (.int .i64 x) := by
 obtain ⟨A, c, rfl, h1, h2, h3⟩ := h
 by_cases hP : 0 < P.length
 ·obtain ⟨pb, po, rfl, hl, hc⟩ := h3 hP
  refine ⟨pb, po, ⟨_, c, rfl, h1, h2, fun _ => rfl⟩, by omega, Nat.lt_of_lt_of_le hl hB.size, fun i x hx => ?_⟩
  exact (hB.cell (p := ⟨pb, po + i, none⟩) hl).trans (hc i x hx)
 ·refine ⟨b, 0, ⟨A, c, rfl, h1, h2, fun e => absurd e hP⟩, hbg, hb, fun i x hx => ?_⟩
  have := (List.getElem?_eq_some_iff.1 hx).1
  omega
end Go.Proofs.YtpghocekofdpbaaGreatDoor
namespace Go.Proofs.YtpghocekofdpbaaGreatDoor
open Go.ChangeShapes Go.WideShapes Go.ChangeAt Go.RowKit Go.Deep
def laid4 : List (String × DataW Unit) := [("custody/custodyref02.constants", Rows.laid_custody_custodyref02_constants), ("custody/hash.constants", Rows.laid_custody_hash_constants), ("unicode/utf8.acceptRanges", Rows.laid_unicode_utf8_acceptRanges), ("unicode/utf8.first", Rows.laid_unicode_utf8_first)]
set_option maxRecDepth 100000 in
theorem laid4_met (os : Os) (args : Array Value) : laidMetH Tryz.prog laid4 ((World.laidAll Tryz.prog os laid4).forCall (fun _ _ => 0) ⟨#[], args, []⟩).memory := by
 rw [MakeChecks.laidMetH_plain _ _ _ (by kernel_rfl)]
 exact laidMet_laidAll _ (by kernel_rfl) (by kernel_rfl)
theorem gHash : Tryz.prog.globalNamed "custody/hash.constants" = some 1 := by kernel_rfl
theorem tHash : (Tryz.prog.globals[1]?).map (·.type) = some 166 := by kernel_rfl
theorem gRef02 : Tryz.prog.globalNamed "custody/custodyref02.constants" = some 0 := by kernel_rfl
theorem tRef02 : (Tryz.prog.globals[0]?).map (·.type) = some 166 := by kernel_rfl
theorem cellsA64 : Tryz.prog.cellsOf 166 = 64 := by kernel_rfl
theorem cellsU32 : Tryz.prog.cellsOf 112 = 1 := by kernel_rfl
def kData {H : Type} : DataW H := .agg (shaK.map fun k => .lit (.int .u32 (k.toNat : Int)))
theorem hash_kData : (Rows.laid_custody_hash_constants : DataW Unit) = kData := by kernel_rfl
theorem ref02_kData : (Rows.laid_custody_custodyref02_constants : DataW Unit) = kData := by kernel_rfl
section
variable {H : Type} {enc : TypeId × Value -> H} {w : World} {base : Nat} {spare : Nat -> Bool} {held : Bool}
theorem consts_cells {m : Nat} {cs : List Value} {x : DataW H × List MemPlace} (h : DataW.trod enc Tryz.prog w base spare held m 166 cs = some x) (hx : x.1 = kData) : cs = kV := by
 obtain ⟨xs, n, _, rfl, hl, hlen, hel⟩ := DataW.trod_array Tryz.underlying166 h
 rw [cellsA64] at hl
 rw [cellsU32] at hel
 unfold kData at hx
 dsimp only at hx
 simp only [DataW.agg.injEq] at hx
 apply List.ext_getElem
 ·rw [hl, kV_len]
 ·intro i h1 h2
  have hi : i < 64 := by omega
  have he := hel i hi
  rw [Nat.mul_one, List.getElem?_eq_getElem (by omega : i < xs.length)] at he
  obtain ⟨k, hk, hxk, _⟩ := DataW.trod_int Tryz.underlying112 he
  have hxi : (xs.map (·.1))[i]? = some (.lit (.int .u32 k)) := by
   rw [List.getElem?_map, List.getElem?_eq_getElem (by omega : i < xs.length), hxk]
   rfl
  rw [hx, List.getElem?_map, List.getElem?_eq_getElem (by rw [shaK_len]; exact hi)] at hxi
  simp only [Option.map_some, Option.some.injEq, DataW.lit.injEq, Lit.int.injEq, true_and] at hxi
  have hc : (cs.drop i).take 1 = [cs[i]] := by
   rw [List.drop_eq_getElem_cons h1]
   rfl
  rw [hc] at hk
  have hk2 := (List.cons.injEq _ _ _ _).mp hk |>.1
  rw [hk2, <- hxi]
  exact (List.getElem_map u32v (l := shaK) (h := h2)).symm
end
theorem consts_at {W : World} {cs0 : Array Value} {name : String} {g : Nat} (hg : Tryz.prog.globalNamed name = some g) (hv : W.var? Tryz.prog name = some cs0) (hcs : cs0.toList = kV) : KAt W g := by
 unfold World.var? at hv
 rw [hg] at hv
 simp only [Option.bind_some] at hv
 split at hv
 ·rename_i c e fz hh
  have hc : c = cs0 := Option.some.inj hv
  subst hc
  refine ⟨(Array.getElem?_eq_some_iff.1 hh).1, fun j v hj => ?_⟩
  rw [<- hcs] at hj
  simp only [World.cell?, hh]
  rw [Nat.zero_add, <- hj, Array.getElem?_toList]
  rfl
 ·cases hv
theorem kAts_of_laid4 {W : World} (h : laidMetH Tryz.prog laid4 W) : KAt W 1 /\ KAt W 0 := by
 rw [MakeChecks.laidMetH_plain _ _ _ (by kernel_rfl)] at h
 obtain ⟨ps, ⟨g0, t0, cs0, f0, p0, q0, hg0, ht0, hv0, hd0, hr, _⟩, _, _⟩ := h
 obtain ⟨g1, t1, cs1, f1, p1, q1, hg1, ht1, hv1, hd1, _, _⟩ := hr
 obtain rfl := Option.some.inj (gRef02.symm.trans hg0)
 obtain rfl := Option.some.inj (tRef02.symm.trans ht0)
 obtain rfl := Option.some.inj (gHash.symm.trans hg1)
 obtain rfl := Option.some.inj (tHash.symm.trans ht1)
 exact ⟨consts_at gHash hv1 (consts_cells hd1 hash_kData), consts_at gRef02 hv0 (consts_cells hd0 ref02_kData)⟩
set_option maxRecDepth 100000 in
theorem open_int64 {H : Type} {enc : TypeId × Value -> H} {W : World} {v : Value} {d : DataW H} {ps : List MemPlace} {base : Nat} (hv : Value.okWide Tryz.prog W .any base 3 v)
  (h : DataW.Trod enc Tryz.prog W 0 (fun _ => true) true 3 v d ps) : ∃ n : Int, v = .int .i64 n /\ -9223372036854775808 <= n /\ n < 9223372036854775808 := by
 obtain ⟨n, rfl⟩ := okWide_int Tryz.underlying3 hv
 obtain ⟨fuel, hf⟩ := h
 obtain ⟨k, hk, _, hz⟩ := DataW.trod_int Tryz.underlying3 hf
 simp [Value.cells] at hk
 subst hk
 refine ⟨n, rfl, ?_⟩
 simp only [Lit.wf, Bool.and_eq_true, IntKind.min, IntKind.max] at hz
 simp [IntKind.signed, IntKind.bits] at hz
 omega
theorem trodAll_below {P : Program} (hl : laidOutB P = true) {H : Type} {enc : TypeId × Value -> H} {W W' : World} (hb : Below W.heap.size W W') : ∀ {ts : List TypeId} {vs : List Value} {ds : List (DataW H)} {ps : List MemPlace}, (ts.all fun t => P.readableRec t && decide (t < P.types.size)) = true ->
  DataW.TrodAll enc P W 0 (fun _ => true) true ts vs ds ps -> (∀ x ∈ ps, x.block < W.heap.size) -> DataW.TrodAll enc P W' 0 (fun b => decide (b < W.heap.size)) true ts vs ds ps := by
 intro ts
 induction ts with
 | nil =>
  intro vs ds ps _ h _
  obtain ⟨rfl, rfl, rfl⟩ := trodAll_nil h
  exact rfl
 | cons t ts ih =>
  intro vs ds ps ht h hlt
  obtain ⟨v, vs', d, ds', p, q, rfl, rfl, rfl, h0, h1⟩ := trodAll_cons h
  rw [List.all_cons, Bool.and_eq_true, Bool.and_eq_true] at ht
  exact trodAll_cons_mk (Below.trod hl ht.1.1 (of_decide_eq_true ht.1.2) h0 hb (fun x hx => hlt x (List.mem_append_left _ hx))) (ih ht.2 h1 (fun x hx => hlt x (List.mem_append_right _ hx)))
end Go.Proofs.YtpghocekofdpbaaGreatDoor
namespace Go.Proofs.YtpghocekofdpbaaGreatDoor
open Go.RowKit Go.Shelf
attribute [local go_sem] Oper.semAt_some
structure VBack (B : Nat) (x : VAt) (u : Value) : Prop where
 d : B <= x.a.d
 g : B <= x.a.g
 sb : B <= x.a.sb
 fb : B <= x.a.fb
 jb : B <= x.jb
 vb : B <= x.vb
 u : ∀ k, u.ownBlock = some k -> B <= k
section
variable {W w w' w1 w2 : World} {x : VAt} {h b lo pb B : Nat} {V V' : Vlt} {D E : Dev} {p u p' u' : Value}
theorem VLeft.below {w0 : World} (hF : VLeft w w' x u) (hB : Below B w0 w) (h0 : B <= w.heap.size) (k : VBack B x u) : Below B w0 w' :=
 ⟨hF.os.trans hB.os, hF.tape.trans hB.tape, hF.output.trans hB.output, Nat.le_trans hB.size hF.size, fun j hj => (hF.rest j (Nat.lt_of_lt_of_le hj h0) (by have := k.d; omega) (by have := k.g; omega) (by have := k.sb; omega) (by have := k.fb; omega) (by have := k.jb; omega) (by have := k.vb; omega) (fun e => by have := k.u j e; omega)).trans (hB.block j hj)⟩
theorem VBack.later (k : VBack W.heap.size x u) (hW : W.heap.size <= w.heap.size) (hl : Later w p u p' u') : VBack W.heap.size { x with lo := lo } u' :=
 ⟨k.d, k.g, k.sb, k.fb, k.jb, k.vb, fun j e => (hl.own j e).elim (k.u j) (fun q => Nat.le_trans hW q)⟩
theorem kl_of {g : Nat} (hg : g = 1) (hK : KAt W g) (hB : Below W.heap.size W w) (k : VBack W.heap.size x u) : KL w x u := fun _ hF => by
 subst hg
 exact hK.below (hF.below hB hB.size k)
structure PSt (W w : World) (x : VAt) (pb h : Nat) (V : Vlt) (D : Dev) (b : Nat) (p u : Value) : Prop where
 vis : VIs w x h V D p u
 inv : VInv h V D b
 pl : Blk w pb 37 #[.pointer (some ⟨x.a.d, 0, none⟩), .pointer (some ⟨x.vb, 0, none⟩), .slice none 0 0]
 bel : Below W.heap.size W w
 back : VBack W.heap.size x u
 len : D.M.length <= 24
 half : D.M.length / 2 = h
 at_ : W.heap.size <= pb
theorem PSt.on (k : PSt W w x pb h V D b p u) (hB : Below w.heap.size w w') : PSt W w' x pb h V D b p u :=
 ⟨k.vis.below hB, k.inv, k.pl.below hB k.pl.lt, k.bel.trans (hB.mono k.bel.size), k.back, k.len, k.half, k.at_⟩
theorem PSt.next {r : VRes} {e : Ending} {c : Nat} (k : PSt W w x pb h V D b p u) (hp : VPost w x h p u r e w') (hV : r.2.1 = some V') (hi : VInv h V' r.2.2 c) (hl : r.2.2.M.length = D.M.length) : ∃ lo p' u', PSt W w' { x with lo := lo } pb h V' r.2.2 c p' u' /\ Later w p u p' u' := by
 obtain ⟨_, h2, h3, h4⟩ := hp
 obtain ⟨lo, p', u', kv, hla⟩ := h4 V' hV
 refine ⟨lo, p', u', ⟨kv, hi, ?_, h2.below k.bel k.bel.size k.back, k.back.later k.bel.size hla, by rw [hl]; exact k.len, by rw [hl]; exact k.half, k.at_⟩, hla⟩
 exact k.vis.box h2 k.pl (by decide)
theorem PSt.hh (k : PSt W w x pb h V D b p u) : h <= 12 := by have := k.len; have := k.half; omega
theorem PSt.few (k : PSt W w x pb h V D b p u) : V.J.l.length <= 1048576 /\ V.texts.length <= 1048576 := by
 have h1 := k.inv.jok.inv.few
 have h2 := k.hh
 obtain ⟨R, hR, _, _, e3⟩ := k.inv.read
 have h3 := readN_texts hR
 rw [e3] at h3
 omega
theorem PSt.commit (k : PSt W w x pb h V D b p u) (hb : b <= 255) (hK : KAt W 1) (t : ByteArray) (ht : t.size <= 7971) :
  Calls Tryz.prog 16 #[.pointer (some ⟨x.vb, 0, none⟩), .string t] w (VPost w x h p u (vcommit h V D t)) :=
 vcommit_any k.vis k.inv hb t ht (by have := k.len; omega) k.few.1 k.few.2 (kl_of rfl hK k.bel k.back)
theorem PSt.compact (k : PSt W w x pb h V D b p u) (hb : b < 255) (hK : KAt W 1) (t : ByteArray) (ht : t.size <= 7939) :
  Calls Tryz.prog 37 #[.pointer (some ⟨x.vb, 0, none⟩), .string t] w (VPost w x h p u (vcompact h V D t)) :=
 vcompact_any k.vis k.inv hb t ht (by have := k.len; omega) (kl_of rfl hK k.bel k.back)
theorem PSt.rekey (k : PSt W w x pb h V D b p u) (hb : b < 255) (hK : KAt W 1) (root t : ByteArray) (hr : root.size = 32 /\ root ≠ zero32) (ht : t.size <= 7939) :
  Calls Tryz.prog 25 #[.pointer (some ⟨x.vb, 0, none⟩), .string root, .string t] w (VPost w x h p u (vrekey h V D root t)) :=
 vrekey_any k.vis k.inv hb root t hr ht (by have := k.len; omega) (kl_of rfl hK k.bel k.back)
end
end Go.Proofs.YtpghocekofdpbaaGreatDoor
namespace Go.Proofs.YtpghocekofdpbaaGreatDoor
open Go.RowKit Go.Shelf
attribute [local go_sem] Oper.semAt_some
section
variable {W w w' w1 w2 : World} {x : VAt} {h b lo pb B : Nat} {V V' : Vlt} {D E : Dev} {p u p' u' : Value}
end
end Go.Proofs.YtpghocekofdpbaaGreatDoor
