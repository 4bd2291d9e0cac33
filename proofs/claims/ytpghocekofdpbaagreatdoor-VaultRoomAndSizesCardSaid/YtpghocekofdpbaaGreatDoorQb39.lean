import Derived.Test.YtpghocekofdpbaaGreatDoorQb37
import Derived.Test.YtpghocekofdpbaaGreatDoorQb11
import Derived.Test.YtpghocekofdpbaaGreatDoorQb10
import Derived.Test.YtpghocekofdpbaaGreatDoorQb12
import Derived.Test.YtpghocekofdpbaaGreatDoorQb38
namespace Go.Proofs.YtpghocekofdpbaaGreatDoor
open Go.RowKit Go.Shelf
attribute [local go_sem] Oper.semAt_some
set_option maxRecDepth 100000 in
set_option maxHeartbeats 1600000 in
theorem vempty_any (w : World) : Calls Tryz.prog 61 #[] w fun e w' => e = .returned (.string zero32) /\ Below w.heap.size w w' := by
 go_enter Tryz.func61, Tryz.ntmps61
 go_wp2_with (first | (go_at_call 95; refine (rep32 _).mono ?_; rintro e w1 ⟨rfl, hB1⟩))
 go_ret
 exact ⟨rfl, hB1⟩
set_option maxRecDepth 100000 in
set_option maxHeartbeats 1600000 in
theorem vvalid_good (w : World) (root : ByteArray) (h1 : root.size = 32) (h2 : root ≠ zero32) : Calls Tryz.prog 57 #[.string root] w fun e w' => e = .returned (.bool true) /\ Below w.heap.size w w' := by
 have d1 : ((root.size : Int) == 32) = true := by rw [h1]; rfl
 have d1' : (root.size == 32) = true := by rw [h1]; rfl
 have d2 : (root.toList == zero32.toList) = false := toList_ne h2
 have d3 : (root.toList != zero32.toList) = true := by show (!(root.toList == zero32.toList)) = true; rw [d2]; rfl
 obtain ⟨Z, hZ⟩ : ∃ Z, zero32 = Z := ⟨_, rfl⟩
 have HE := Lib.hid (vempty_any)
 rw [hZ] at d2 d3 HE
 clear hZ h2
 go_enter Tryz.func57, Tryz.ntmps57
 go_wp2_with (first | (go_at_call 61; refine (HE.out _).mono ?_; rintro e w1 ⟨rfl, hB1⟩))
 go_ret
 exact ⟨rfl, hB1⟩
theorem int_txt (w : World) (n : Nat) (hn : n < 9223372036854775808) : Calls Tryz.prog 42 #[.int .i64 n] w fun e w' => ∃ v, e = .returned v /\ (convert 66 9 v).run Tryz.prog w' = .ok (.string (txt (intL n))) w' /\ Below w.heap.size w w' := by
 refine (int_any w n hn).mono ?_
 rintro e w' ⟨v, rfl, hR, hB⟩
 exact ⟨v, rfl, conv_row hR, hB⟩
theorem intT_size (n : Nat) : (txt (intL n)).size <= 9 := by rw [txt_size]; exact intL_le n
set_option maxRecDepth 100000 in
set_option maxHeartbeats 1600000 in
theorem vlink_any (w : World) (chain blob : ByteArray) (n : Nat) (hn : n < 9223372036854775808) (hc : chain.size < 10000000000) (hb : blob.size <= 1000000) (hK : KAt w 1) :
  Calls Tryz.prog 11 #[.string chain, .int .i64 n, .string blob] w fun e w' => e = .returned (.string (linkB chain n blob)) /\ Below w.heap.size w w' := by
 have HI := Lib.hid (int_txt w n hn)
 have hIs := intT_size n
 obtain ⟨I, hI⟩ : ∃ I, txt (intL n) = I := ⟨_, rfl⟩
 rw [hI] at HI hIs
 obtain ⟨T, hT⟩ : ∃ T, I ++ blob = T := ⟨_, rfl⟩
 have hTs : T.size <= 1000009 := by rw [<- hT, ByteArray.size_append]; omega
 have hA : ∀ wx, (Op.stringOp .add I blob).run Tryz.prog wx = .ok (.string T) wx := fun wx => by rw [<- hT]; exact run_string_add_sum wx _ _ (by omega)
 have hfin : Hid (txt (macL (bl chain) (bl T)) = linkB chain n blob) := by unfold Hid linkB; rw [<- hT, bl_append, <- hI, bl_txt]
 have HM : Hid (∀ wx, Below w.heap.size w wx -> Calls Tryz.prog 41 #[.string chain, .string T] wx fun e w' => e = .returned (.string (linkB chain n blob)) /\ Below wx.heap.size wx w') := fun wx hB => by
  have h := mac_any wx chain T (hK.below hB) hc (by omega)
  rw [hfin.out] at h
  exact h
 clear hI hT hfin hK hb hc hn hIs hTs
 generalize linkB chain n blob = L at *
 go_enter Tryz.func11, Tryz.ntmps11
 go_wp2_with (first | (go_at_call 42; refine HI.out.mono ?_; rintro e w1 ⟨v, rfl, hcv, hB1⟩; have HB1 := Lib.hid hB1; clear hB1) | (go_at_call 41; refine (HM.out _ HB1.out).mono ?_; rintro e w2 ⟨rfl, hB2⟩; have HB2 := Lib.hid (HB1.out.trans (hB2.mono HB1.out.size)); clear hB2) | fail)
 go_ret
 exact ⟨rfl, HB2.out⟩
def vsizeZ (n : Int) : Int := if n < 0 \/ 7971 < n then 0 else Sec.countN (n.toNat + 29)
set_option maxRecDepth 100000 in
set_option maxHeartbeats 1600000 in
theorem vsize_any (w : World) (n : Int) : Calls Tryz.prog 9 #[.int .i64 n] w fun e w' => e = .returned (.int .i64 (vsizeZ n)) /\ w = w' := by
 unfold vsizeZ
 by_cases h0 : n < 0
 ·have d0 : decide (n < 0) = true := decide_eq_true h0
  rw [if_pos (.inl h0)]
  go_enter Tryz.func9, Tryz.ntmps9
  go_wp2_with fail
  go_ret
  exact ⟨rfl, rfl⟩
 ·have d0 : decide (n < 0) = false := decide_eq_false h0
  by_cases h1 : 7971 < n
  ·have d1 : decide (7971 < n) = true := decide_eq_true h1
   rw [if_pos (.inr h1)]
   go_enter Tryz.func9, Tryz.ntmps9
   go_wp2_with fail
   go_ret
   exact ⟨rfl, rfl⟩
  ·have d1 : decide (7971 < n) = false := decide_eq_false h1
   rw [if_neg (by omega)]
   obtain ⟨m, hm⟩ : ∃ m : Int, n + 28 = m := ⟨_, rfl⟩
   obtain ⟨p, hp⟩ : ∃ p : Int, m + 1 = p := ⟨_, rfl⟩
   have w1 : wrap64 (n + 28) = m := by unfold wrap64; omega
   have w2 : wrap64 (m + 1) = p := by unfold wrap64; omega
   have HC := Sec.count_any p w
   have e : Sec.countZ p = Sec.countN (n.toNat + 29) := by
    unfold Sec.countZ
    rw [if_pos (by omega)]
    congr 2
    omega
   rw [e] at HC
   have HCH := Lib.hid HC
   clear HC e hm hp h1 h0
   generalize Sec.countN (n.toNat + 29) = K at *
   go_enter Tryz.func9, Tryz.ntmps9
   go_wp2_with (first | (go_at_call 39; refine HCH.out.mono ?_; rintro e w1 ⟨rfl, rfl⟩))
   go_ret
   exact ⟨rfl, rfl⟩
section
variable {w : World} {a : DAt} {D : Dev}
theorem load_good (h : DevIs w a D) (hd : D.down = false) {i : Nat} {s : ByteArray} (hs : D.slots[i]? = some s) : Calls Tryz.prog 31 #[.pointer (some ⟨a.d, 0, none⟩), .int .i64 (i : Int)] w fun e w' => e = .returned (.tuple #[.string s, .int .i64 0]) /\ w = w' := by
 have h1 := dLoad_any h (i : Int)
 have hi := (List.getElem?_eq_some_iff.1 hs).1
 have hin : inS D.slots (i : Int) := ⟨by omega, by omega⟩
 rw [if_neg (by rw [hd]; decide), if_pos hin, if_neg (by rw [hd]; decide), if_pos hin, Int.toNat_natCast, List.getD_eq_getElem?_getD, hs] at h1
 exact h1
def slotC (s0 s1 s2 : ByteArray) (k : Nat) : Array Value := #[.string (if 0 < k then s0 else ⟨#[]⟩), .string (if 1 < k then s1 else ⟨#[]⟩), .string (if 2 < k then s2 else ⟨#[]⟩)]
set_option maxRecDepth 100000 in
set_option maxHeartbeats 4000000 in
theorem values_good (h : DevIs w a D) (hd : D.down = false) {s0 s1 s2 : ByteArray} (hs : D.slots = [s0, s1, s2]) :
  Calls Tryz.prog 64 #[.pointer (some ⟨a.d, 0, none⟩)] w fun e w' => e = .returned (.tuple #[.agg #[.string s0, .string s1, .string s2], .int .i64 0]) /\ Below w.heap.size w w' := by
 have HL : Hid (∀ wx (i : Nat) (s : ByteArray), Below w.heap.size w wx -> D.slots[i]? = some s -> Calls Tryz.prog 31 #[.pointer (some ⟨a.d, 0, none⟩), .int .i64 (i : Int)] wx fun e w' => e = .returned (.tuple #[.string s, .int .i64 0]) /\ wx = w') := fun wx i s hB hi => load_good (h.below hB) hd hi
 have L0 : Hid (∀ wx, Below w.heap.size w wx -> Calls Tryz.prog 31 #[.pointer (some ⟨a.d, 0, none⟩), .int .i64 0] wx fun e w' => e = .returned (.tuple #[.string s0, .int .i64 0]) /\ wx = w') := fun wx hB => HL.out wx 0 s0 hB (by rw [hs]; rfl)
 have L1 : Hid (∀ wx, Below w.heap.size w wx -> Calls Tryz.prog 31 #[.pointer (some ⟨a.d, 0, none⟩), .int .i64 1] wx fun e w' => e = .returned (.tuple #[.string s1, .int .i64 0]) /\ wx = w') := fun wx hB => HL.out wx 1 s1 hB (by rw [hs]; rfl)
 have L2 : Hid (∀ wx, Below w.heap.size w wx -> Calls Tryz.prog 31 #[.pointer (some ⟨a.d, 0, none⟩), .int .i64 2] wx fun e w' => e = .returned (.tuple #[.string s2, .int .i64 0]) /\ wx = w') := fun wx hB => HL.out wx 2 s2 hB (by rw [hs]; rfl)
 clear h hd hs HL
 go_enter Tryz.func64, Tryz.ntmps64
 go_upto_region 2 with fail
 refine world_is (P := fun W => Code.wp _ _ _ _ W) (fun W0 hW0 => ?_)
 have B0 : Hid (Below w.heap.size w W0) := by unfold Hid; rw [<- hW0]; exact ((Below.refl _ _).alloc (Nat.le_refl _) _).alloc (by simp) _
 have R0 : Hid (Blk W0 w.heap.size 96 #[.string ⟨#[]⟩, .string ⟨#[]⟩, .string ⟨#[]⟩]) := by unfold Hid; rw [<- hW0]; exact (Blk.new _ _ _).alloc _
 have A0 : Hid (Blk W0 (w.heap.size + 1) 96 (slotC s0 s1 s2 0)) := by
  unfold Hid
  have := Blk.new (w.alloc (.cells #[.string ⟨#[]⟩, .string ⟨#[]⟩, .string ⟨#[]⟩] 96)) 96 (slotC s0 s1 s2 0)
  rw [World.size_alloc] at this
  rw [<- hW0]
  exact this
 obtain ⟨ra, era⟩ : ∃ g, w.heap.size = g := ⟨_, rfl⟩
 obtain ⟨ab, eab⟩ : ∃ g, w.heap.size + 1 = g := ⟨_, rfl⟩
 have hne : Hid (ra ≠ ab) := by unfold Hid; omega
 have hra : Hid (w.heap.size <= ra) := Nat.le_of_eq era
 have hab : Hid (w.heap.size <= ab) := by unfold Hid; omega
 rw [eab] at A0
 rw [era] at R0
 try rw [eab]
 try rw [era]
 clear hW0 era eab
 go_wp2_with fail
 go_loopw [8] (fun v8 wr => ∃ k : Nat, k <= 3 /\ v8 = .int .i64 (k : Int) /\ Hid (Below w.heap.size w wr) /\ Hid (Blk wr ra 96 #[.string ⟨#[]⟩, .string ⟨#[]⟩, .string ⟨#[]⟩]) /\ Hid (Blk wr ab 96 (slotC s0 s1 s2 k))) (fun v8 _ => 3 - (intOf v8).toNat)
 case atStart => exact ⟨0, by decide, rfl, B0.out, R0.out, A0.out⟩
 case round =>
  obtain ⟨k, hk, rfl, hB, hR, hA⟩ := hrel
  clear B0 R0 A0
  have f0 := hA.out.frozen 0
  have f1 := hA.out.frozen 1
  have f2 := hA.out.frozen 2
  obtain rfl | rfl | rfl | rfl : k = 0 \/ k = 1 \/ k = 2 \/ k = 3 := by omega
  ·have c0 : wr.cell? ⟨ab, 0, none⟩ = some (.string ⟨#[]⟩) := hA.out.cell 0
   go_wp2_with fail
   refine (L0.out _ hB.out).mono ?_
   rintro e w1 ⟨rfl, rfl⟩
   go_wp2_with fail
   go_roundw
   case rel => exact ⟨1, by decide, by go_num, hB.out.setCell (p := ⟨ab, 0, none⟩) hab.out _, hR.out.other (a := ⟨ab, 0, none⟩) hne.out _, hA.out.set_ 0 _⟩
   case measure => simp [intOf]
  ·have c0 : wr.cell? ⟨ab, 1, none⟩ = some (.string ⟨#[]⟩) := hA.out.cell 1
   go_wp2_with fail
   refine (L1.out _ hB.out).mono ?_
   rintro e w1 ⟨rfl, rfl⟩
   go_wp2_with fail
   go_roundw
   case rel => exact ⟨2, by decide, by go_num, hB.out.setCell (p := ⟨ab, 1, none⟩) hab.out _, hR.out.other (a := ⟨ab, 1, none⟩) hne.out _, hA.out.set_ 1 _⟩
   case measure => simp [intOf]
  ·have c0 : wr.cell? ⟨ab, 2, none⟩ = some (.string ⟨#[]⟩) := hA.out.cell 2
   go_wp2_with fail
   refine (L2.out _ hB.out).mono ?_
   rintro e w1 ⟨rfl, rfl⟩
   go_wp2_with fail
   go_roundw
   case rel => exact ⟨3, by decide, by go_num, hB.out.setCell (p := ⟨ab, 2, none⟩) hab.out _, hR.out.other (a := ⟨ab, 2, none⟩) hne.out _, hA.out.set_ 2 _⟩
   case measure => simp [intOf]
  ·have c0 : wr.cell? ⟨ab, 0, none⟩ = some (.string s0) := hA.out.cell 0
   have c1 : wr.cell? ⟨ab, 1, none⟩ = some (.string s1) := hA.out.cell 1
   have c2 : wr.cell? ⟨ab, 2, none⟩ = some (.string s2) := hA.out.cell 2
   have e0 : wr.cell? ⟨ra, 0, none⟩ = some (.string ⟨#[]⟩) := hR.out.cell 0
   have e1 : wr.cell? ⟨ra, 1, none⟩ = some (.string ⟨#[]⟩) := hR.out.cell 1
   have e2 : wr.cell? ⟨ra, 2, none⟩ = some (.string ⟨#[]⟩) := hR.out.cell 2
   have g0 := hR.out.frozen 0
   have g1 := hR.out.frozen 1
   have g2 := hR.out.frozen 2
   go_wp2_with fail
   exact bodyPost_ret (results_ct (P := Tryz.prog) rfl _ _ ra 96 #[.string s0, .string s1, .string s2] _ rfl (((hR.out.set_ 0 _).set_ 1 _).set_ 2 _) Tryz.underlying96 rfl (by kernel_rfl)) rfl ⟨rfl, ((hB.out.setCell (p := ⟨ra, 0, none⟩) hra.out _).setCell (p := ⟨ra, 1, none⟩) hra.out _).setCell (p := ⟨ra, 2, none⟩) hra.out _⟩
end
end Go.Proofs.YtpghocekofdpbaaGreatDoor
namespace Go.Proofs.YtpghocekofdpbaaGreatDoor
open Go.RowKit Go.Shelf
attribute [local go_sem] Oper.semAt_some
theorem vstr_part (s : ByteArray) (a b : Nat) (h1 : a <= b) (h2 : b <= s.size) (wx : World) : (Instr.slice 9 (.string s) (some (.int .i64 (a : Int))) (some (.int .i64 (b : Int))) none).run Tryz.prog wx = .ok (.string (s.extract a b)) wx := by
 have h3 : ¬ (a : Int) < 0 := by omega
 have h4 : ¬ (b : Int) < 0 := by omega
 have h5 : ¬ s.size < b := by omega
 have h6 : ¬ b < a := by omega
 simp [Instr.slice, Instr.sliceBounds, Instr.sliceBound, asIntOf, run_underlying Tryz.underlying9]
 rw [if_pos h2, if_pos h1]
theorem vstr_from (s : ByteArray) (K : Nat) (h : K <= s.size) (wx : World) : (Instr.slice 9 (.string s) (some (.int .i64 (K : Int))) none none).run Tryz.prog wx = .ok (.string (s.extract K s.size)) wx := by
 simp [Instr.slice, Instr.sliceBounds, Instr.sliceBound, asIntOf, run_underlying Tryz.underlying9]
 intro hc
 omega
theorem vext_list (s : ByteArray) (a b : Nat) : bl (s.extract a b) = ((bl s).drop a).take (b - a) := by
 unfold bl
 rw [ByteArray.data_extract, Array.toList_extract, List.extract_eq_take_drop]
def partC (p : Part) : Array Value := #[.int .u8 p.kind, .string p.start, .string p.text]
def partV (p : Part) : Value := .agg (partC p)
set_option maxRecDepth 100000 in
set_option maxHeartbeats 4000000 in
theorem vopenB_any (w : World) (root blob : ByteArray) (n : Nat) (hn : n < 9223372036854775808) (hr : root.size < 10000000000) (hb : blob.size <= 1000000) (hK : KAt w 1) :
  Calls Tryz.prog 70 #[.string root, .int .i64 n, .string blob] w fun e w' => e = .returned (partV (openB root n blob)) /\ Below w.heap.size w w' := by
 have hO : Hid (openB root n blob = if (openL (jkey root) (intL n) (bl blob)).2 = 0 then partL (openL (jkey root) (intL n) (bl blob)).1 else noPart) := rfl
 have HD : Hid (∀ wx, Below w.heap.size w wx -> Calls Tryz.prog 85 #[.string root, .string ⟨#[106, 111, 117, 114, 110, 97, 108]⟩, .slice none 0 0] wx fun e w' => e = .returned (.string (txt (jkey root))) /\ Below wx.heap.size wx w') := fun wx hB =>
  derive_any wx root jlabel none 0 0 [] rfl (by decide) (fun x hx => by cases hx) (.inl rfl) (hK.below hB) hr (by decide)
 have HI := Lib.hid (fun wx => int_txt wx n hn)
 have HO : Hid (∀ wx, Below w.heap.size w wx -> Calls Tryz.prog 109 #[.string (txt (jkey root)), .string (txt (intL n)), .string blob] wx fun e w' => e = .returned (.tuple #[.string (txt (openL (jkey root) (intL n) (bl blob)).1), .int .i64 ((openL (jkey root) (intL n) (bl blob)).2 : Nat)]) /\ Below wx.heap.size wx w') := fun wx hB =>
  open_any wx (txt (jkey root)) (txt (intL n)) blob (by rw [txt_size, jkey_len]) (by have := intT_size n; omega) hb (hK.below hB)
 obtain ⟨P, hP⟩ : ∃ P, openB root n blob = P := ⟨_, rfl⟩
 rw [hP] at hO ⊢
 obtain ⟨t, ht⟩ : ∃ t, (openL (jkey root) (intL n) (bl blob)).1 = t := ⟨_, rfl⟩
 obtain ⟨c, hc⟩ : ∃ c, (openL (jkey root) (intL n) (bl blob)).2 = c := ⟨_, rfl⟩
 rw [ht, hc] at HO hO
 obtain ⟨K, hKe⟩ : ∃ K, txt (jkey root) = K := ⟨_, rfl⟩
 obtain ⟨I, hIe⟩ : ∃ I, txt (intL n) = I := ⟨_, rfl⟩
 obtain ⟨S, hS⟩ : ∃ S, txt t = S := ⟨_, rfl⟩
 obtain ⟨E, hE⟩ : ∃ E : Int, (c : Int) = E := ⟨_, rfl⟩
 rw [hKe] at HD HO
 rw [hIe] at HI HO
 rw [hS, hE] at HO
 have hSt : Hid (bl S = t) := by unfold Hid; rw [<- hS]; rfl
 have hEc := Lib.hid hE
 clear hP ht hc hKe hIe hS hE hK hn hr hb
 go_enter Tryz.func70, Tryz.ntmps70
 go_upto_region 1 with fail
 refine world_is (P := fun W => Code.wp _ _ _ _ W) (fun W0 hW0 => ?_)
 have B0 : Hid (Below w.heap.size w W0) := by unfold Hid; rw [<- hW0]; exact (Below.refl _ _).alloc (Nat.le_refl _) _
 have R0 : Hid (Blk W0 w.heap.size 104 #[.int .u8 0, .string ⟨#[]⟩, .string ⟨#[]⟩]) := by unfold Hid; rw [<- hW0]; exact Blk.new _ _ _
 obtain ⟨ra, era⟩ : ∃ g, w.heap.size = g := ⟨_, rfl⟩
 have hra : Hid (w.heap.size <= ra) := Nat.le_of_eq era
 rw [era] at R0
 try rw [era]
 clear hW0 era
 go_upto_region 2 with (first
  | (go_at_call 85; refine (HD.out _ B0.out).mono ?_; rintro e w1 ⟨rfl, hB⟩; have B1 := Lib.hid (B0.out.trans (hB.mono B0.out.size)); have R1 := Lib.hid (R0.out.below hB R0.out.lt); clear hB)
  | (go_at_call 42; refine (HI.out _).mono ?_; rintro e w2 ⟨v2, rfl, hcv2, hB⟩; have B2 := Lib.hid (B1.out.trans (hB.mono B1.out.size)); have R2 := Lib.hid (R1.out.below hB R1.out.lt); clear hB)
  | (go_at_call 109; refine (HO.out _ B2.out).mono ?_; rintro e w3 ⟨rfl, hB⟩; have B3 := Lib.hid (B2.out.trans (hB.mono B2.out.size)); have R3 := Lib.hid (R2.out.below hB R2.out.lt); clear hB))
 clear B0 B1 B2 R0 R1 R2 HD HI HO
 have c0 : w3.cell? ⟨ra, 0, none⟩ = some (.int .u8 0) := R3.out.cell 0
 have c1 : w3.cell? ⟨ra, 1, none⟩ = some (.string ⟨#[]⟩) := R3.out.cell 1
 have c2 : w3.cell? ⟨ra, 2, none⟩ = some (.string ⟨#[]⟩) := R3.out.cell 2
 have f0 := R3.out.frozen 0
 have f1 := R3.out.frozen 1
 have f2 := R3.out.frozen 2
 by_cases hc : c = 0
 case neg =>
  have hPn : P = noPart := by rw [hO.out, if_neg hc]
  subst hPn
  have d1 : (E != 0) = true := by rw [bne_iff_ne, <- hEc.out]; omega
  have d1' : ¬ E = 0 := by rw [<- hEc.out]; omega
  clear hc hO hEc
  go_wp2_with fail
  exact bodyPost_ret (results_c (P := Tryz.prog) rfl _ _ ra 104 (partC noPart) _ rfl (((R3.out.set_ 0 _).set_ 1 _).set_ 2 _) Tryz.underlying104 rfl (by kernel_rfl)) rfl ⟨rfl, ((B3.out.setCell (p := ⟨ra, 0, none⟩) hra.out _).setCell (p := ⟨ra, 1, none⟩) hra.out _).setCell (p := ⟨ra, 2, none⟩) hra.out _⟩
 case pos =>
 have hPl : P = partL t := by rw [hO.out, if_pos hc]
 obtain rfl : E = 0 := by rw [<- hEc.out, hc]; rfl
 clear hO hEc hc
 cases t with
 | nil =>
  have hPn : P = noPart := hPl
  subst hPn
  have e1 : (S.toList == []) = true := by rw [ByteArray.toList_eq]; show (bl S == []) = true; rw [hSt.out]; rfl
  clear hPl
  go_wp2_with fail
  exact bodyPost_ret (results_c (P := Tryz.prog) rfl _ _ ra 104 (partC noPart) _ rfl (((R3.out.set_ 0 _).set_ 1 _).set_ 2 _) Tryz.underlying104 rfl (by kernel_rfl)) rfl ⟨rfl, ((B3.out.setCell (p := ⟨ra, 0, none⟩) hra.out _).setCell (p := ⟨ra, 1, none⟩) hra.out _).setCell (p := ⟨ra, 2, none⟩) hra.out _⟩
 | cons x s =>
  have e1 : (S.toList == []) = false := by rw [ByteArray.toList_eq]; show (bl S == []) = false; rw [hSt.out]; rfl
  have hz : S.size = s.length + 1 := by rw [<- bl_len, hSt.out]; rfl
  obtain ⟨y, hy, hix⟩ := idx_at S (j := 0) (by omega)
  have hyx : y = x := by
   have h1 : (bl S)[0]? = some y := hy
   rw [hSt.out] at h1
   exact (Option.some.inj h1).symm
  subst hyx
  have i0 : ∀ wx, (Instr.index 9 (.string S) (.int .i64 0)).run Tryz.prog wx = .ok (.int .u8 y.toNat) wx := hix
  have g1 : ∀ wx, (Instr.slice 9 (.string S) (some (.int .i64 1)) none none).run Tryz.prog wx = .ok (.string (S.extract 1 S.size)) wx := fun wx => vstr_from S 1 (by omega) wx
  have hx1 : S.extract 1 S.size = txt s := by
   apply bl_inj
   rw [vext_list, hSt.out, bl_txt, hz]
   show (s.take _) = s
   rw [List.take_of_length_le (by omega)]
  rw [hx1] at g1
  clear hix hy hx1
  by_cases h82 : y = 82
  case pos =>
   have hPn : P = ⟨82, ⟨#[]⟩, txt s⟩ := by rw [hPl, partL_cons, if_pos h82]
   subst hPn
   have d2 : ((y.toNat : Int) == 82) = true := by rw [h82]; rfl
   clear hPl h82
   go_wp2_with fail
   exact bodyPost_ret (results_c (P := Tryz.prog) rfl _ _ ra 104 (partC ⟨82, ⟨#[]⟩, txt s⟩) _ rfl (((R3.out.set_ 0 _).set_ 1 _).set_ 2 _) Tryz.underlying104 rfl (by kernel_rfl)) rfl ⟨rfl, ((B3.out.setCell (p := ⟨ra, 0, none⟩) hra.out _).setCell (p := ⟨ra, 1, none⟩) hra.out _).setCell (p := ⟨ra, 2, none⟩) hra.out _⟩
  case neg =>
  have d2 : ((y.toNat : Int) == 82) = false := by
   rw [beq_eq_false_iff_ne]
   intro h
   exact h82 (UInt8.toNat_inj.1 (by show y.toNat = 82; omega))
  by_cases h73 : y = 73
  case neg =>
   have hPn : P = noPart := by rw [hPl, partL_cons, if_neg h82, if_neg (fun h => h73 h.1)]
   subst hPn
   have d3 : ((y.toNat : Int) == 73) = false := by
    rw [beq_eq_false_iff_ne]
    intro h
    exact h73 (UInt8.toNat_inj.1 (by show y.toNat = 73; omega))
   clear hPl h82 h73
   go_wp2_with fail
   exact bodyPost_ret (results_c (P := Tryz.prog) rfl _ _ ra 104 (partC noPart) _ rfl (((R3.out.set_ 0 _).set_ 1 _).set_ 2 _) Tryz.underlying104 rfl (by kernel_rfl)) rfl ⟨rfl, ((B3.out.setCell (p := ⟨ra, 0, none⟩) hra.out _).setCell (p := ⟨ra, 1, none⟩) hra.out _).setCell (p := ⟨ra, 2, none⟩) hra.out _⟩
  case pos =>
  have d3 : ((y.toNat : Int) == 73) = true := by rw [h73]; rfl
  by_cases h32 : 32 <= s.length
  case neg =>
   have hPn : P = noPart := by rw [hPl, partL_cons, if_neg h82, if_neg (fun h => h32 h.2)]
   subst hPn
   have d4 : decide ((32 : Int) < (S.size : Int)) = false := decide_eq_false (by omega)
   have d4' : decide (32 < S.size) = false := decide_eq_false (by omega)
   clear hPl h82 h73 hz
   go_wp2_with fail
   exact bodyPost_ret (results_c (P := Tryz.prog) rfl _ _ ra 104 (partC noPart) _ rfl (((R3.out.set_ 0 _).set_ 1 _).set_ 2 _) Tryz.underlying104 rfl (by kernel_rfl)) rfl ⟨rfl, ((B3.out.setCell (p := ⟨ra, 0, none⟩) hra.out _).setCell (p := ⟨ra, 1, none⟩) hra.out _).setCell (p := ⟨ra, 2, none⟩) hra.out _⟩
  case pos =>
  have hPn : P = ⟨73, txt (s.take 32), txt (s.drop 32)⟩ := by rw [hPl, partL_cons, if_neg h82, if_pos ⟨h73, h32⟩]
  subst hPn
  have d4 : decide ((32 : Int) < (S.size : Int)) = true := decide_eq_true (by omega)
  have d4' : decide (32 < S.size) = true := decide_eq_true (by omega)
  have g2 : ∀ wx, (Instr.slice 9 (.string S) (some (.int .i64 1)) (some (.int .i64 33)) none).run Tryz.prog wx = .ok (.string (S.extract 1 33)) wx := fun wx => vstr_part S 1 33 (by decide) (by omega) wx
  have g3 : ∀ wx, (Instr.slice 9 (.string S) (some (.int .i64 33)) none none).run Tryz.prog wx = .ok (.string (S.extract 33 S.size)) wx := fun wx => vstr_from S 33 (by omega) wx
  have hx2 : S.extract 1 33 = txt (s.take 32) := by
   apply bl_inj
   rw [vext_list, hSt.out, bl_txt]
   rfl
  have hx3 : S.extract 33 S.size = txt (s.drop 32) := by
   apply bl_inj
   rw [vext_list, hSt.out, bl_txt, hz]
   show ((s.drop 32).take _) = s.drop 32
   rw [List.take_of_length_le (by rw [List.length_drop]; omega)]
  rw [hx2] at g2
  rw [hx3] at g3
  clear hPl h82 h73 h32 hx2 hx3 g1
  obtain ⟨X, hX⟩ : ∃ X, txt (s.take 32) = X := ⟨_, rfl⟩
  obtain ⟨Y, hY⟩ : ∃ Y, txt (s.drop 32) = Y := ⟨_, rfl⟩
  rw [hX] at g2
  rw [hY] at g3
  have hXY : Hid (partC ⟨73, txt (s.take 32), txt (s.drop 32)⟩ = partC ⟨73, X, Y⟩) := by unfold Hid; rw [hX, hY]
  clear hX hY hz
  go_wp2_with fail
  go_region
  all_goals go_wp2_with fail
  all_goals exact bodyPost_ret (results_c (P := Tryz.prog) rfl _ _ ra 104 (partC ⟨73, X, Y⟩) _ rfl ((((R3.out.set_ 0 (.int .u8 73)).set_ 1 (.string X)).set_ 2 (.string Y)).drew) Tryz.underlying104 rfl (by kernel_rfl)) rfl ⟨by unfold partV; rw [hXY.out], (((B3.out.setCell (p := ⟨ra, 0, none⟩) hra.out (.int .u8 73)).setCell (p := ⟨ra, 1, none⟩) hra.out (.string X)).setCell (p := ⟨ra, 2, none⟩) hra.out (.string Y)).drew⟩
end Go.Proofs.YtpghocekofdpbaaGreatDoor
namespace Go.Proofs.YtpghocekofdpbaaGreatDoor
open Go.RowKit Go.Shelf
attribute [local go_sem] Oper.semAt_some
theorem int_later (w : World) (n : Nat) (hn : n < 9223372036854775808) : Calls Tryz.prog 42 #[.int .i64 n] w fun e w' => ∃ v, e = .returned v /\ (∀ wz, Below w'.heap.size w' wz -> (convert 66 9 v).run Tryz.prog wz = .ok (.string (txt (intL n))) wz) /\ Below w.heap.size w w' := by
 refine (int_any w n hn).mono ?_
 rintro e w' ⟨v, rfl, hR, hB⟩
 exact ⟨v, rfl, fun wz hz => conv_row (hR.below hz), hB⟩
def KL (w : World) (x : VAt) (u : Value) : Prop := ∀ w', VLeft w w' x u -> KAt w' 1
theorem KL.at_ {w : World} {x : VAt} {u : Value} (h : KL w x u) : KAt w 1 := h w (VLeft.refl w)
theorem KL.on {w w' : World} {x : VAt} {u : Value} (h : KL w x u) (hF : VLeft w w' x u) : KL w' x u := fun w2 h2 => h w2 (hF.trans h2)
def wrS (V : Vlt) (B : ByteArray) : JRes -> ByteArray
 | .ok n _ _ => linkB V.chain n B
 | _ => ⟨#[]⟩
def wrE : JRes -> Int
 | .err c => c
 | .down _ => 14
 | .ok _ _ _ => 0
def WrPost (w : World) (x : VAt) (h : Nat) (V : Vlt) (D : Dev) (p u : Value) (B : ByteArray) (r : JRes) (e : Ending) (w' : World) : Prop :=
 e = .returned (.tuple #[.string (wrS V B r), .int .i64 (wrE r)]) /\ VLeft w w' x u /\ (∃ cb, Blk w' x.vb 79 #[.pointer (some ⟨x.a.d, 0, none⟩), .pointer (some ⟨x.jb, 0, none⟩), .string V.root, .string V.chain, p, u, .bool cb]) /\ match r with
 | .err _ => VIs w' x h V D p u
 | .down E => DevIs w' x.a E
 | .ok _ J' E => VIs w' x h { V with J := J' } E p u
section
variable {w w' w2 : World} {x : VAt} {h b : Nat} {V : Vlt} {D E : Dev} {p u : Value}
set_option maxRecDepth 100000 in
set_option maxHeartbeats 4000000 in
theorem vwriteA_any (k : VIs w x h V D p u) (hu : DOn D) (hJ : JOk h V.J D.M b) (hb : b <= 255) (hsp : V.J.spoiled = false) (hll : V.J.l.length <= 1048576) (hch : V.chain.size = 32) (root text : ByteArray) (hr : root.size = 32) (ht : text.size <= 7972) (hD : D.M.length <= 4096) (hKL : KL w x u) :
  Calls Tryz.prog 49 #[.pointer (some ⟨x.vb, 0, none⟩), .string root, .string text, .func (.func 50) #[.pointer (some ⟨x.jb, 0, none⟩)] #[]] w (WrPost w x h V D p u (blobOf root V.J.next text) (dappend h (blobOf root V.J.next text) V.J D)) := by
 have hK := hKL.at_
 have hm := hJ.most hb
 have hmv : Sec.mostN = 4611686018427387904 := rfl
 have hn : V.J.next < 9223372036854775808 := by omega
 clear hmv hm
 have HD : Hid (∀ wx, Below w.heap.size w wx -> Calls Tryz.prog 85 #[.string root, .string ⟨#[106, 111, 117, 114, 110, 97, 108]⟩, .slice none 0 0] wx fun e w' => e = .returned (.string (txt (jkey root))) /\ Below wx.heap.size wx w') := fun wx hB =>
  derive_any wx root jlabel none 0 0 [] rfl (by decide) (fun x hx => by cases hx) (.inl rfl) (hK.below hB) (by omega) (by decide)
 have HI := Lib.hid (fun wx => int_later wx V.J.next hn)
 have HN : Hid (∀ wx, Below w.heap.size w wx -> Calls Tryz.prog 86 #[.pointer (some ⟨x.jb, 0, none⟩)] wx fun e w' => e = .returned (.int .i64 (V.J.next : Int)) /\ wx = w') := fun wx hB => by
  obtain ⟨v, hv⟩ := k.jrn
  exact jNext_any (hv.below hB)
 have HS : Hid (∀ wx, Below w.heap.size w wx -> Calls Tryz.prog 84 #[.string (txt (jkey root)), .string (txt (intL V.J.next)), .string text] wx fun e w' => e = .returned (.tuple #[.string (blobOf root V.J.next text), .int .i64 0]) /\ Below wx.heap.size wx w') := fun wx hB =>
  seal_any wx (txt (jkey root)) (txt (intL V.J.next)) text (by rw [txt_size, jkey_len]) (by have := intT_size V.J.next; omega) (by omega) (hK.below hB)
 have hBs : (blobOf root V.J.next text).size <= 8000 := by rw [blobOf_size]; omega
 have hcs : V.chain.size < 10000000000 \/ True := .inr trivial
 have HT : Hid (∀ wx, Below w.heap.size w wx -> Calls Tryz.prog 50 #[.pointer (some ⟨x.jb, 0, none⟩), .string (blobOf root V.J.next text)] wx (JDone wx x.a x.jb h V.J D (dappend h (blobOf root V.J.next text) V.J D))) := fun wx hB => by
  obtain ⟨v, hv⟩ := k.jrn
  exact vappend_any (k.dev.below hB) hu (hv.below hB) hJ hb hsp _ hBs hD hll
 have HL : Hid (∀ wx, VLeft w wx x u -> ∀ n : Nat, n < 9223372036854775808 -> Calls Tryz.prog 11 #[.string V.chain, .int .i64 (n : Int), .string (blobOf root V.J.next text)] wx fun e w' => e = .returned (.string (linkB V.chain n (blobOf root V.J.next text))) /\ Below wx.heap.size wx w') := fun wx hF n hn =>
  vlink_any wx V.chain _ n hn (by rw [hch]; decide) (by omega) (hKL wx hF)
 have HN1 : Hid (V.J.next < 9223372036854775808) := hn
 have hrn : Hid (∀ n J' E, dappend h (blobOf root V.J.next text) V.J D = .ok n J' E -> n = V.J.next) := by
  intro n J' E e
  unfold dappend at e
  split at e
  ·cases e
  ·split at e
   ·cases e
   ·cases e; rfl
 have hrc : Hid (∀ c, dappend h (blobOf root V.J.next text) V.J D = .err c -> c = 15) := by
  intro c e
  unfold dappend at e
  split at e
  ·cases e; rfl
  ·split at e <;> cases e
 obtain ⟨B, hB⟩ : ∃ B, blobOf root V.J.next text = B := ⟨_, rfl⟩
 rw [hB] at HS HT HL hrn hrc ⊢
 obtain ⟨r, hr0⟩ : ∃ r, dappend h B V.J D = r := ⟨_, rfl⟩
 rw [hr0] at HT hrn hrc ⊢
 obtain ⟨K, hKe⟩ : ∃ K, txt (jkey root) = K := ⟨_, rfl⟩
 obtain ⟨I, hIe⟩ : ∃ I, txt (intL V.J.next) = I := ⟨_, rfl⟩
 rw [hKe] at HD HS
 rw [hIe] at HI HS
 obtain ⟨N, hN⟩ : ∃ N, V.J.next = N := ⟨_, rfl⟩
 rw [hN] at HI HN HN1 hrn
 obtain ⟨c0, c1, c2, c3, c4, c5, c6⟩ := k.cells
 have KK := Lib.hid k
 clear hB hr0 hKe hIe hN hK hKL hn hr ht hD hu hJ hb hBs hcs k hch hsp hll
 go_enter Tryz.func49, Tryz.ntmps49
 go_upto_region 1 with fail
 go_cut [10, 11] from 10 to 48 (fun v10 v11 wx => v10 = .string B /\ v11 = .int .i64 0 /\ Hid (Below w.heap.size w wx))
 case first =>
  go_region_with
   (first
    | (go_at_call 84; (first | (refine (HS.out _ HBz.out).mono ?_) | (refine (HS.out _ HBd.out).mono ?_) | (refine (HS.out _ HBi.out).mono ?_)); rintro e wz ⟨rfl, hBs⟩; (first | (have HBe := Lib.hid (HBz.out.trans (hBs.mono HBz.out.size))) | (have HBe := Lib.hid (HBd.out.trans (hBs.mono HBd.out.size))) | (have HBe := Lib.hid (HBi.out.trans (hBs.mono HBi.out.size)))); have y1 := (KK.out.blk.below HBe.out KK.out.blk.lt).cell 1)
    | (go_at_call 85; have hmk := HBi; clear hmk; refine (HD.out _ HBi.out).mono ?_; rintro e w1 ⟨rfl, hB1⟩; have HBz := Lib.hid (HBi.out.trans (hB1.mono HBi.out.size)); have hc1 := hcv.out w1 hB1; have y1 := (KK.out.blk.below HBz.out KK.out.blk.lt).cell 1; clear hB1)
    | (go_at_call 85; refine (HD.out _ (Below.refl w.heap.size w).drew).mono ?_; rintro e w1 ⟨rfl, hB1⟩; have HBd := Lib.hid ((Below.refl w.heap.size w).drew.trans (hB1.mono (Below.refl w.heap.size w).drew.size)); have y1 := (KK.out.blk.below HBd.out KK.out.blk.lt).cell 1; clear hB1)
    | (go_at_call 86; have hmk := HBd; clear hmk; refine (HN.out _ HBd.out).mono ?_; rintro e w3 ⟨rfl, rfl⟩)
    | (go_at_call 86; refine (HN.out _ (Below.refl w.heap.size w).drew).mono ?_; rintro e w3 ⟨rfl, rfl⟩)
    | (go_at_call 42; have hmk := HBd; clear hmk; refine (HI.out _).mono ?_; rintro e w2 ⟨v2, rfl, hcv0, hB1⟩; have hcv := Lib.hid hcv0; have hc1 := hcv.out w2 (Below.refl _ _); have HBz := Lib.hid (HBd.out.trans (hB1.mono HBd.out.size)); have y1 := (KK.out.blk.below HBz.out KK.out.blk.lt).cell 1; clear hB1 hcv0)
    | (go_at_call 42; refine (HI.out _).mono ?_; rintro e w2 ⟨v2, rfl, hcv0, hB1⟩; have hcv := Lib.hid hcv0; have hc1 := hcv.out w2 (Below.refl _ _); have HBi := Lib.hid ((Below.refl w.heap.size w).drew.trans (hB1.mono (Below.refl w.heap.size w).drew.size)); have y1 := (KK.out.blk.below HBi.out KK.out.blk.lt).cell 1; clear hB1 hcv0))
  all_goals go_wp2_with fail
  all_goals go_meet
  all_goals exact ⟨rfl, rfl, HBe.out⟩
 case rest =>
 obtain ⟨rfl, rfl, hcut⟩ := hcut
 have HB1 := Lib.hid hcut
 clear hcut c0 c1 c2 c3 c4 c5 c6 HS HD HI HN
 go_wp2_with fail
 refine (HT.out _ HB1.out).mono ?_
 rintro e w1 ⟨hF, hpost⟩
 have HF := Lib.hid ((VLeft.ofBelow (x := x) (u := u) HB1.out).trans (VLeft.ofJ hF))
 cases r with
 | err c =>
  obtain ⟨rfl, hd, hj⟩ := hpost
  obtain rfl := hrc.out c rfl
  have K1 := (KK.out.below HB1.out).jleft hF hd hj
  have K1H : Hid (VIs w1 x h V D p u) := K1
  clear hd hj K1 hF HT HL
  go_wp2_with fail
  refine (vnote_ok K1H.out 15 (by decide)).mono ?_
  rintro e w2 ⟨rfl, rfl⟩
  go_wp2_with fail
  go_ret2
  exact ⟨rfl, HF.out.set 6 _, ⟨false, K1H.out.same.blk⟩, K1H.out.same⟩
 | down E =>
  obtain ⟨rfl, hd⟩ := hpost
  obtain ⟨vj, hvj⟩ := (KK.out.below HB1.out).jrn
  have hblk : Hid (Blk w1 x.vb 79 #[.pointer (some ⟨x.a.d, 0, none⟩), .pointer (some ⟨x.jb, 0, none⟩), .string V.root, .string V.chain, p, u, .bool false]) :=
   (hF.blk (KK.out.below HB1.out).dev hvj (KK.out.below HB1.out).blk (fun e => by cases e) (fun e => by cases e) (fun e => by cases e) (fun e => by cases e) (fun e => by cases e)).trans (KK.out.below HB1.out).blk
  have HD := Lib.hid hd
  clear hd hvj hF HT HL
  go_wp2_with fail
  refine (vnote_off hblk.out false rfl).mono ?_
  rintro e w2 ⟨rfl, rfl⟩
  go_wp2_with fail
  go_ret2
  exact ⟨rfl, HF.out.set 6 _, ⟨true, hblk.out.set_ 6 _⟩, isDev_past HD.out hblk.out (by decide) (grown_set _ _ _ _)⟩
 | ok n J' E =>
  obtain ⟨rfl, hd, hj⟩ := hpost
  obtain rfl := hrn.out n J' E rfl
  have K1 := (KK.out.below HB1.out).jleft hF hd hj
  have K1H := Lib.hid K1
  obtain ⟨d0, d1, d2, d3, d4, d5, d6⟩ := K1.cells
  have HL1 := Lib.hid (HL.out w1 HF.out n HN1.out)
  clear hd hj K1 hF HT HL
  go_wp2_with fail
  refine HL1.out.mono ?_
  rintro e w2 ⟨rfl, hB2⟩
  have K2 := Lib.hid (K1H.out.below hB2)
  have F2 := Lib.hid (HF.out.trans (VLeft.ofBelow hB2))
  clear hB2
  go_wp2_with fail
  go_ret2
  exact ⟨rfl, F2.out, ⟨false, K2.out.blk⟩, K2.out⟩
set_option maxRecDepth 100000 in
set_option maxHeartbeats 4000000 in
theorem vwriteC_any (k : VIs w x h V D p u) (hu : DOn D) (hJ : JOk h V.J D.M b) (hb : b <= 255) (hch : V.chain.size = 32) (root text : ByteArray) (hr : root.size = 32) (ht : text.size <= 7972) (hD : D.M.length <= 4096) (hKL : KL w x u) :
  Calls Tryz.prog 49 #[.pointer (some ⟨x.vb, 0, none⟩), .string root, .string text, .func (.func 94) #[.pointer (some ⟨x.jb, 0, none⟩)] #[]] w (WrPost w x h V D p u (blobOf root V.J.next text) (dcompact h (blobOf root V.J.next text) V.J D)) := by
 have hK := hKL.at_
 have hm := hJ.most hb
 have hmv : Sec.mostN = 4611686018427387904 := rfl
 have hn : V.J.next < 9223372036854775808 := by omega
 clear hmv hm
 have HD : Hid (∀ wx, Below w.heap.size w wx -> Calls Tryz.prog 85 #[.string root, .string ⟨#[106, 111, 117, 114, 110, 97, 108]⟩, .slice none 0 0] wx fun e w' => e = .returned (.string (txt (jkey root))) /\ Below wx.heap.size wx w') := fun wx hB =>
  derive_any wx root jlabel none 0 0 [] rfl (by decide) (fun x hx => by cases hx) (.inl rfl) (hK.below hB) (by omega) (by decide)
 have HI := Lib.hid (fun wx => int_later wx V.J.next hn)
 have HN : Hid (∀ wx, Below w.heap.size w wx -> Calls Tryz.prog 86 #[.pointer (some ⟨x.jb, 0, none⟩)] wx fun e w' => e = .returned (.int .i64 (V.J.next : Int)) /\ wx = w') := fun wx hB => by
  obtain ⟨v, hv⟩ := k.jrn
  exact jNext_any (hv.below hB)
 have HS : Hid (∀ wx, Below w.heap.size w wx -> Calls Tryz.prog 84 #[.string (txt (jkey root)), .string (txt (intL V.J.next)), .string text] wx fun e w' => e = .returned (.tuple #[.string (blobOf root V.J.next text), .int .i64 0]) /\ Below wx.heap.size wx w') := fun wx hB =>
  seal_any wx (txt (jkey root)) (txt (intL V.J.next)) text (by rw [txt_size, jkey_len]) (by have := intT_size V.J.next; omega) (by omega) (hK.below hB)
 have hBs : (blobOf root V.J.next text).size <= 8000 := by rw [blobOf_size]; omega
 have hcs : V.chain.size < 10000000000 \/ True := .inr trivial
 have HT : Hid (∀ wx, Below w.heap.size w wx -> Calls Tryz.prog 94 #[.pointer (some ⟨x.jb, 0, none⟩), .string (blobOf root V.J.next text)] wx (JDone wx x.a x.jb h V.J D (dcompact h (blobOf root V.J.next text) V.J D))) := fun wx hB => by
  obtain ⟨v, hv⟩ := k.jrn
  exact vcompactJ_any (k.dev.below hB) hu (hv.below hB) hJ hb _ hBs hD
 have HL : Hid (∀ wx, VLeft w wx x u -> ∀ n : Nat, n < 9223372036854775808 -> Calls Tryz.prog 11 #[.string V.chain, .int .i64 (n : Int), .string (blobOf root V.J.next text)] wx fun e w' => e = .returned (.string (linkB V.chain n (blobOf root V.J.next text))) /\ Below wx.heap.size wx w') := fun wx hF n hn =>
  vlink_any wx V.chain _ n hn (by rw [hch]; decide) (by omega) (hKL wx hF)
 have HN1 : Hid (V.J.next < 9223372036854775808) := hn
 have hrn : Hid (∀ n J' E, dcompact h (blobOf root V.J.next text) V.J D = .ok n J' E -> n = V.J.next) := by
  intro n J' E e
  unfold dcompact at e
  split at e
  ·cases e
  ·split at e
   ·cases e
   ·cases e; rfl
 have hrc : Hid (∀ c, dcompact h (blobOf root V.J.next text) V.J D = .err c -> c = 15) := by
  intro c e
  unfold dcompact at e
  split at e
  ·cases e; rfl
  ·split at e <;> cases e
 obtain ⟨B, hB⟩ : ∃ B, blobOf root V.J.next text = B := ⟨_, rfl⟩
 rw [hB] at HS HT HL hrn hrc ⊢
 obtain ⟨r, hr0⟩ : ∃ r, dcompact h B V.J D = r := ⟨_, rfl⟩
 rw [hr0] at HT hrn hrc ⊢
 obtain ⟨K, hKe⟩ : ∃ K, txt (jkey root) = K := ⟨_, rfl⟩
 obtain ⟨I, hIe⟩ : ∃ I, txt (intL V.J.next) = I := ⟨_, rfl⟩
 rw [hKe] at HD HS
 rw [hIe] at HI HS
 obtain ⟨N, hN⟩ : ∃ N, V.J.next = N := ⟨_, rfl⟩
 rw [hN] at HI HN HN1 hrn
 obtain ⟨c0, c1, c2, c3, c4, c5, c6⟩ := k.cells
 have KK := Lib.hid k
 clear hB hr0 hKe hIe hN hK hKL hn hr ht hD hu hJ hb hBs hcs k hch
 go_enter Tryz.func49, Tryz.ntmps49
 go_upto_region 1 with fail
 go_cut [10, 11] from 10 to 48 (fun v10 v11 wx => v10 = .string B /\ v11 = .int .i64 0 /\ Hid (Below w.heap.size w wx))
 case first =>
  go_region_with
   (first
    | (go_at_call 84; (first | (refine (HS.out _ HBz.out).mono ?_) | (refine (HS.out _ HBd.out).mono ?_) | (refine (HS.out _ HBi.out).mono ?_)); rintro e wz ⟨rfl, hBs⟩; (first | (have HBe := Lib.hid (HBz.out.trans (hBs.mono HBz.out.size))) | (have HBe := Lib.hid (HBd.out.trans (hBs.mono HBd.out.size))) | (have HBe := Lib.hid (HBi.out.trans (hBs.mono HBi.out.size)))); have y1 := (KK.out.blk.below HBe.out KK.out.blk.lt).cell 1)
    | (go_at_call 85; have hmk := HBi; clear hmk; refine (HD.out _ HBi.out).mono ?_; rintro e w1 ⟨rfl, hB1⟩; have HBz := Lib.hid (HBi.out.trans (hB1.mono HBi.out.size)); have hc1 := hcv.out w1 hB1; have y1 := (KK.out.blk.below HBz.out KK.out.blk.lt).cell 1; clear hB1)
    | (go_at_call 85; refine (HD.out _ (Below.refl w.heap.size w).drew).mono ?_; rintro e w1 ⟨rfl, hB1⟩; have HBd := Lib.hid ((Below.refl w.heap.size w).drew.trans (hB1.mono (Below.refl w.heap.size w).drew.size)); have y1 := (KK.out.blk.below HBd.out KK.out.blk.lt).cell 1; clear hB1)
    | (go_at_call 86; have hmk := HBd; clear hmk; refine (HN.out _ HBd.out).mono ?_; rintro e w3 ⟨rfl, rfl⟩)
    | (go_at_call 86; refine (HN.out _ (Below.refl w.heap.size w).drew).mono ?_; rintro e w3 ⟨rfl, rfl⟩)
    | (go_at_call 42; have hmk := HBd; clear hmk; refine (HI.out _).mono ?_; rintro e w2 ⟨v2, rfl, hcv0, hB1⟩; have hcv := Lib.hid hcv0; have hc1 := hcv.out w2 (Below.refl _ _); have HBz := Lib.hid (HBd.out.trans (hB1.mono HBd.out.size)); have y1 := (KK.out.blk.below HBz.out KK.out.blk.lt).cell 1; clear hB1 hcv0)
    | (go_at_call 42; refine (HI.out _).mono ?_; rintro e w2 ⟨v2, rfl, hcv0, hB1⟩; have hcv := Lib.hid hcv0; have hc1 := hcv.out w2 (Below.refl _ _); have HBi := Lib.hid ((Below.refl w.heap.size w).drew.trans (hB1.mono (Below.refl w.heap.size w).drew.size)); have y1 := (KK.out.blk.below HBi.out KK.out.blk.lt).cell 1; clear hB1 hcv0))
  all_goals go_wp2_with fail
  all_goals go_meet
  all_goals exact ⟨rfl, rfl, HBe.out⟩
 case rest =>
 obtain ⟨rfl, rfl, hcut⟩ := hcut
 have HB1 := Lib.hid hcut
 clear hcut c0 c1 c2 c3 c4 c5 c6 HS HD HI HN
 go_wp2_with fail
 refine (HT.out _ HB1.out).mono ?_
 rintro e w1 ⟨hF, hpost⟩
 have HF := Lib.hid ((VLeft.ofBelow (x := x) (u := u) HB1.out).trans (VLeft.ofJ hF))
 cases r with
 | err c =>
  obtain ⟨rfl, hd, hj⟩ := hpost
  obtain rfl := hrc.out c rfl
  have K1 := (KK.out.below HB1.out).jleft hF hd hj
  have K1H : Hid (VIs w1 x h V D p u) := K1
  clear hd hj K1 hF HT HL
  go_wp2_with fail
  refine (vnote_ok K1H.out 15 (by decide)).mono ?_
  rintro e w2 ⟨rfl, rfl⟩
  go_wp2_with fail
  go_ret2
  exact ⟨rfl, HF.out.set 6 _, ⟨false, K1H.out.same.blk⟩, K1H.out.same⟩
 | down E =>
  obtain ⟨rfl, hd⟩ := hpost
  obtain ⟨vj, hvj⟩ := (KK.out.below HB1.out).jrn
  have hblk : Hid (Blk w1 x.vb 79 #[.pointer (some ⟨x.a.d, 0, none⟩), .pointer (some ⟨x.jb, 0, none⟩), .string V.root, .string V.chain, p, u, .bool false]) :=
   (hF.blk (KK.out.below HB1.out).dev hvj (KK.out.below HB1.out).blk (fun e => by cases e) (fun e => by cases e) (fun e => by cases e) (fun e => by cases e) (fun e => by cases e)).trans (KK.out.below HB1.out).blk
  have HD := Lib.hid hd
  clear hd hvj hF HT HL
  go_wp2_with fail
  refine (vnote_off hblk.out false rfl).mono ?_
  rintro e w2 ⟨rfl, rfl⟩
  go_wp2_with fail
  go_ret2
  exact ⟨rfl, HF.out.set 6 _, ⟨true, hblk.out.set_ 6 _⟩, isDev_past HD.out hblk.out (by decide) (grown_set _ _ _ _)⟩
 | ok n J' E =>
  obtain ⟨rfl, hd, hj⟩ := hpost
  obtain rfl := hrn.out n J' E rfl
  have K1 := (KK.out.below HB1.out).jleft hF hd hj
  have K1H := Lib.hid K1
  obtain ⟨d0, d1, d2, d3, d4, d5, d6⟩ := K1.cells
  have HL1 := Lib.hid (HL.out w1 HF.out n HN1.out)
  clear hd hj K1 hF HT HL
  go_wp2_with fail
  refine HL1.out.mono ?_
  rintro e w2 ⟨rfl, hB2⟩
  have K2 := Lib.hid (K1H.out.below hB2)
  have F2 := Lib.hid (HF.out.trans (VLeft.ofBelow hB2))
  clear hB2
  go_wp2_with fail
  go_ret2
  exact ⟨rfl, F2.out, ⟨false, K2.out.blk⟩, K2.out⟩
end
end Go.Proofs.YtpghocekofdpbaaGreatDoor
