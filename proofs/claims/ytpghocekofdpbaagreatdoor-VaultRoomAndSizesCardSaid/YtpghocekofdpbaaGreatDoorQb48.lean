import Derived.Test.YtpghocekofdpbaaGreatDoorQb47
import Derived.Test.YtpghocekofdpbaaGreatDoorQb12
namespace Go.Proofs.YtpghocekofdpbaaGreatDoor
open Go.RowKit Go.Shelf
attribute [local go_sem] Oper.semAt_some
def vnew (n f : Nat) : Vlt := ⟨jopen (n / 2) (List.replicate n Sec.blank), root26 f, zero32, none, []⟩
def dnew (n f : Nat) : Dev := { freshDev n 3 2 with slots := [root26 f, zero32, zero32] }
theorem fresh_slot (n f : Nat) : (freshDev n 3 2).slot (0, root26 f) = (0, dnew n f) := by
 unfold Dev.slot Dev.dstep
 rfl
theorem fresh_on (n : Nat) : DOn (freshDev n 3 2) := ⟨rfl, by show -1 <= (-1 : Int) /\ (-1 : Int) <= 9223372036854775807; decide⟩
theorem vnew_inv (n f : Nat) (h : 2 <= n) : VInv (n / 2) (vnew n f) (dnew n f) 1 := by
 have hi := fresh_inv n (n / 2) (by omega) (by omega)
 have hj := fresh_jok n (n / 2) (by omega) (by omega)
 refine ⟨⟨rfl, by show -1 <= (-1 : Int) /\ (-1 : Int) <= 9223372036854775807; decide⟩, hj.open_ (by decide), rfl, rfl, ⟨root26_size f, root26_ne f⟩, rd0, ?_, rfl, rfl, rfl⟩
 have hl := (open_finds hi).2.2
 show readV _ (jopen (n / 2) (List.replicate n Sec.blank)).l = _
 rw [hl]
 rfl
section
variable {w : World}
set_option maxRecDepth 100000 in
set_option maxHeartbeats 1600000 in
theorem jOpen_one {a : DAt} {D : Dev} (hd : DevIs w a D) (hn : D.M.length = 1) : Calls Tryz.prog 65 #[.pointer (some ⟨a.d, 0, none⟩)] w fun e w' => e = .returned (.tuple #[.pointer none, .int .i64 1]) /\ Below w.heap.size w w' := by
 have HS := Lib.hid (Sectors_any hd)
 rw [hn] at HS
 have hq : Int.tdiv ((1 : Nat) : Int) 2 = 0 := by decide
 clear hd hn
 go_enter Tryz.func65, Tryz.ntmps65
 go_wp2_with (first | (go_at_call 103; refine HS.out.mono ?_; rintro e w1 ⟨rfl, rfl⟩))
 have hJ0 : Hid (JO w (((w.alloc (.cells #[.pointer (some ⟨a.d, 0, none⟩), .int .i64 0, .int .i64 0, .int .i64 0, .int .i64 1, .slice none 0 0, .bool false, .bool false] 126)).alloc (.cells #[.pointer (some ⟨w.heap.size, 0, none⟩)] 76)).alloc (.cells #[.slice none 0 0] 35)) a 0 1 0 (.slice none 0 0) []) := by
  have b1 := (Below.refl _ w).alloc (Nat.le_refl _) (.cells #[.pointer (some ⟨a.d, 0, none⟩), .int .i64 0, .int .i64 0, .int .i64 0, .int .i64 1, .slice none 0 0, .bool false, .bool false] 126)
  have b2 := b1.alloc b1.size (.cells #[.pointer (some ⟨w.heap.size, 0, none⟩)] 76)
  have b3 := b2.alloc b2.size (.cells #[.slice none 0 0] 35)
  refine ⟨((Blk.new w _ _).alloc _).alloc _, ?_, ?_, World.ownsRow_nil _ _ _ _, b3⟩
  ·have := (Blk.new (w.alloc (.cells #[.pointer (some ⟨a.d, 0, none⟩), .int .i64 0, .int .i64 0, .int .i64 0, .int .i64 1, .slice none 0 0, .bool false, .bool false] 126)) 76 #[.pointer (some ⟨w.heap.size, 0, none⟩)]).alloc (.cells #[.slice none 0 0] 35)
   rw [World.size_alloc] at this
   exact this
  ·have := Blk.new ((w.alloc (.cells #[.pointer (some ⟨a.d, 0, none⟩), .int .i64 0, .int .i64 0, .int .i64 0, .int .i64 1, .slice none 0 0, .bool false, .bool false] 126)).alloc (.cells #[.pointer (some ⟨w.heap.size, 0, none⟩)] 76)) 35 #[.slice none 0 0]
   rw [World.size_alloc, World.size_alloc] at this
   exact this
 generalize (((w.alloc (.cells #[.pointer (some ⟨a.d, 0, none⟩), .int .i64 0, .int .i64 0, .int .i64 0, .int .i64 1, .slice none 0 0, .bool false, .bool false] 126)).alloc (.cells #[.pointer (some ⟨w.heap.size, 0, none⟩)] 76)).alloc (.cells #[.slice none 0 0] 35)) = w0 at *
 go_loopw [25] (fun i wr => i = .int .i64 0 /\ Hid (JO w wr a 0 1 0 (.slice none 0 0) [])) (fun _ _ => 0)
 case atStart => exact ⟨rfl, hJ0⟩
 case round =>
  obtain ⟨rfl, hJ⟩ := hrel
  have c1 := hJ.out.c.cell 0
  have c4 := hJ.out.j.cell 1
  go_wp2_with fail
  go_ret2
  exact ⟨rfl, hJ.out.b⟩
set_option maxRecDepth 100000 in
set_option maxHeartbeats 1600000 in
theorem vcreate_one {a : DAt} {D : Dev} (hd : DevIs w a D) (hn : D.M.length = 1) (hdn : D.down = false) (hs : D.slots = [zero32, zero32, zero32]) (root : ByteArray) : Calls Tryz.prog 46 #[.pointer (some ⟨a.d, 0, none⟩), .string root] w fun e w' => e = .returned (.tuple #[.pointer none, .int .i64 1]) /\ Below w.heap.size w w' := by
 have HV : Hid (Calls Tryz.prog 64 #[.pointer (some ⟨a.d, 0, none⟩)] w fun e w' => e = .returned (.tuple #[.agg #[.string zero32, .string zero32, .string zero32], .int .i64 0]) /\ Below w.heap.size w w') := values_good hd hdn hs
 have HO : Hid (∀ wx, Below w.heap.size w wx -> Calls Tryz.prog 65 #[.pointer (some ⟨a.d, 0, none⟩)] wx fun e w' => e = .returned (.tuple #[.pointer none, .int .i64 1]) /\ Below wx.heap.size wx w') := fun wx hB => jOpen_one (hd.below hB) hn
 obtain ⟨Z, hZ⟩ : ∃ Z, zero32 = Z := ⟨_, rfl⟩
 rw [hZ] at HV
 clear hd hn hdn hs hZ
 go_enter Tryz.func46, Tryz.ntmps46
 go_wp2_with (first
  | (go_at_call 64; refine HV.out.mono ?_; rintro e w1 ⟨rfl, hB1⟩; obtain ⟨wA, hwA⟩ : ∃ wA, w1.alloc (.cells #[.string Z, .string Z, .string Z] 96) = wA := ⟨_, rfl⟩; have HBA : Hid (Below w.heap.size w wA) := (by rw [<- hwA]; exact hB1.alloc hB1.size _); clear hB1)
  | (go_at_call 65; refine (HO.out _ HBA.out).mono ?_; rintro e w2 ⟨rfl, hB2⟩; have HB2 := Lib.hid hB2; clear hB2))
 go_ret2
 exact ⟨rfl, HBA.out.trans (HB2.out.mono HBA.out.size)⟩
set_option maxRecDepth 100000 in
set_option maxHeartbeats 1600000 in
theorem begin_bad (n : Int) (f : Nat) (hf : f < 256) (h : n < 2) : Calls Tryz.prog 13 #[.int .i64 n, .int .u8 f] w fun e w' => e = .returned (.tuple #[.pointer none, .bool false]) /\ Below w.heap.size w w' := by
 by_cases h1 : n < 1
 ·have HD := Lib.hid (dNew_bad w n 3 2 (by omega))
  clear h h1
  go_enter Tryz.func13, Tryz.ntmps13
  go_wp2_with (first | (go_at_call 45; refine HD.out.mono ?_; rintro e w1 ⟨rfl, hB⟩))
  go_ret2
  exact ⟨rfl, hB⟩
 ·obtain rfl : n = ((1 : Nat) : Int) := by omega
  have HD := Lib.hid (dNew_ok w 1 3 2 (by decide) (by decide) (by decide))
  have HR : Hid (∀ wx, Calls Tryz.prog 26 #[.int .u8 f] wx fun e w' => e = .returned (.string (root26 f)) /\ Below wx.heap.size wx w') := fun wx => rRoot_any wx f hf
  generalize root26 f = R at HR
  clear h h1 hf
  go_enter Tryz.func13, Tryz.ntmps13
  go_wp2_with (first
   | (go_at_call 45; refine HD.out.mono ?_; rintro e w1 ⟨a, rfl, hd, _, hB⟩; have HDv := Lib.hid hd; have HB1 := Lib.hid hB; clear hd hB)
   | (go_at_call 26; refine (HR.out _).mono ?_; rintro e w2 ⟨rfl, hB⟩; have HB2 := Lib.hid hB; clear hB)
   | (go_at_call 46; refine (vcreate_one (HDv.out.below HB2.out) rfl rfl rfl R).mono ?_; rintro e w3 ⟨rfl, hB⟩; have HB3 := Lib.hid hB; clear hB))
  go_ret2
  have h12 := HB1.out.trans (HB2.out.mono HB1.out.size)
  exact ⟨rfl, h12.trans (HB3.out.mono h12.size)⟩
structure Begun (W w w' : World) (h : Nat) (V : Vlt) (D : Dev) (x : VAt) (pb : Nat) (p u : Value) : Prop where
 st : PSt W w' x pb h V D 1 p u
 bel : Below w.heap.size w w'
 back : VBack w.heap.size x u
 at_ : w.heap.size <= pb
 none : p = .pointer none
set_option maxRecDepth 100000 in
set_option maxHeartbeats 1600000 in
theorem begin_ok {W : World} (hW : Below W.heap.size W w) (n f : Nat) (hn : 2 <= n /\ n <= 24) (hf : f < 256) : Calls Tryz.prog 13 #[.int .i64 n, .int .u8 f] w fun e w' => ∃ x pb p u, e = .returned (.tuple #[.pointer (some ⟨pb, 0, none⟩), .bool true]) /\ Begun W w w' (n / 2) (vnew n f) (dnew n f) x pb p u := by
 have HD := Lib.hid (dNew_ok w n 3 2 (by omega) (by decide) (by decide))
 have HR : Hid (∀ wx, Calls Tryz.prog 26 #[.int .u8 f] wx fun e w' => e = .returned (.string (root26 f)) /\ Below wx.heap.size wx w') := fun wx => rRoot_any wx f hf
 have hi := fresh_inv n (n / 2) (by omega) (by omega)
 have HC : Hid (∀ (wx : World) (a : DAt), DevIs wx a (freshDev n 3 2) -> Calls Tryz.prog 46 #[.pointer (some ⟨a.d, 0, none⟩), .string (root26 f)] wx fun e w' => VOpened wx a (n / 2) (0, some (vnew n f), dnew n f) e w') := fun wx a hd => by
  have hM : (freshDev n 3 2).M = List.replicate n Sec.blank := rfl
  have hlen : (freshDev n 3 2).M.length = n := List.length_replicate ..
  have h := vcreate_any hd (fresh_on n) (by rw [hM]; exact hi.fine) (by rw [hM]; exact hi.clean) (n / 2) (by rw [hlen]) (by omega) (by rw [hlen]; omega) rfl (root26 f) (root26_size f) (root26_ne f) (by rw [hM]; exact (open_finds hi).2.2)
  rw [fresh_slot, if_pos rfl] at h
  exact h
 have HI := Lib.hid (vnew_inv n f hn.1)
 have HL : Hid ((dnew n f).M.length = n) := List.length_replicate ..
 have Hn := Lib.hid hn
 have HW := Lib.hid hW
 have HT : Hid ((vnew n f).image = none /\ (vnew n f).texts = []) := ⟨rfl, rfl⟩
 generalize vnew n f = V at HC HI HT ⊢
 generalize dnew n f = D at HC HI HL ⊢
 generalize root26 f = R at HR HC
 clear hn hf hi hW
 go_enter Tryz.func13, Tryz.ntmps13
 go_wp2_with (first
  | (go_at_call 45; refine HD.out.mono ?_; rintro e w1 ⟨a, rfl, hd, hs, hB⟩; have HDv := Lib.hid hd; have HSz := Lib.hid hs; have HB1 := Lib.hid hB; clear hd hB hs)
  | (go_at_call 26; refine (HR.out _).mono ?_; rintro e w2 ⟨rfl, hB⟩; have HB2 := Lib.hid hB; clear hB))
 refine (HC.out _ a (HDv.out.below HB2.out)).mono ?_
 intro e w3 hO
 obtain ⟨hL, hd3, hor⟩ := hO
 rcases hor with ⟨h0, _⟩ | ⟨V1, x, p, u, hV1, hxa, rfl, hvis, hj, hv, hlo⟩
 ·cases h0
 ·cases hV1
  have hB12 := HB1.out.trans (HB2.out.mono HB1.out.size)
  have hB3 : Below w.heap.size w w3 := DFr.below hL hB12 hB12.size HSz.out.1 HSz.out.2.1 HSz.out.2.2.1 HSz.out.2.2.2
  have hs2 := hB12.size
  have hs3 := hB3.size
  have hbk : Hid (VBack w.heap.size x u) := ⟨by rw [hxa]; exact HSz.out.1, by rw [hxa]; exact HSz.out.2.1, by rw [hxa]; exact HSz.out.2.2.1, by rw [hxa]; exact HSz.out.2.2.2, Nat.le_trans hs2 hj, Nat.le_trans hs2 hv, fun k e => by have := (hvis.row.lt k e).1; omega⟩
  have hp0 : Hid (p = .pointer none) := by
   rcases hvis.img with ⟨_, e2⟩ | ⟨_, _, _, _, _, e1, _⟩
   ·exact e2
   ·rw [HT.out.1] at e1; cases e1
  have hB4 : Hid (Below w3.heap.size w3 (w3.alloc (.cells #[.pointer (some ⟨x.a.d, 0, none⟩), .pointer (some ⟨x.vb, 0, none⟩), .slice none 0 0] 37))) := (Below.refl _ _).alloc (Nat.le_refl _) _
  have hbp : Hid (Blk (w3.alloc (.cells #[.pointer (some ⟨x.a.d, 0, none⟩), .pointer (some ⟨x.vb, 0, none⟩), .slice none 0 0] 37)) w3.heap.size 37 #[.pointer (some ⟨x.a.d, 0, none⟩), .pointer (some ⟨x.vb, 0, none⟩), .slice none 0 0]) := Blk.new _ _ _
  have hWs := HW.out.size
  have hbW : Hid (VBack W.heap.size x u) := ⟨Nat.le_trans hWs hbk.out.d, Nat.le_trans hWs hbk.out.g, Nat.le_trans hWs hbk.out.sb, Nat.le_trans hWs hbk.out.fb, Nat.le_trans hWs hbk.out.jb, Nat.le_trans hWs hbk.out.vb, fun k e => Nat.le_trans hWs (hbk.out.u k e)⟩
  have Fin : Hid (Begun W w (w3.alloc (.cells #[.pointer (some ⟨x.a.d, 0, none⟩), .pointer (some ⟨x.vb, 0, none⟩), .slice none 0 0] 37)) (n / 2) V D x w3.heap.size p u) := by
   refine ⟨⟨hvis.below hB4.out, HI.out, hbp.out, ?_, hbW.out, by rw [HL.out]; exact Hn.out.2, by rw [HL.out], Nat.le_trans hWs hs3⟩, hB3.trans (hB4.out.mono hs3), hbk.out, hs3, hp0.out⟩
   have h3 := hB3.trans (hB4.out.mono hs3)
   exact HW.out.trans (h3.mono hWs)
  have Hxa := Lib.hid hxa
  clear hL hd3 hvis hj hv hlo hB12 hB3 hs2 hs3 hWs hxa
  go_wp2_with fail
  go_ret2
  refine ⟨x, _, p, u, rfl, ?_⟩
  rw [<- Hxa.out]
  exact Fin.out
end
end Go.Proofs.YtpghocekofdpbaaGreatDoor
namespace Go.Proofs.YtpghocekofdpbaaGreatDoor
open Sec (countN)
def sanB1 : ByteArray := ⟨#[96, 183, 199, 1, 178, 246, 168, 18, 152, 15, 190, 81, 57, 105, 156, 14, 164, 205, 4, 180, 14, 248, 193, 179, 140, 2, 95, 216, 220, 92]⟩
def sanB2 : ByteArray := ⟨#[134, 208, 224, 19, 11, 247, 185, 222, 171, 68, 74, 127, 39, 222, 92, 188, 125, 24, 182, 235, 29, 121, 120, 136, 206, 11, 188, 23, 109, 132]⟩
def sanB3 : ByteArray := ⟨#[158, 58, 252, 65, 165, 233, 249, 56, 78, 148, 162, 58, 138, 121, 229, 160, 228, 224, 180, 21, 203, 87, 35, 112, 118, 249, 65, 125, 33, 176]⟩
def sanC1 : ByteArray := ⟨#[179, 220, 16, 177, 141, 3, 37, 14, 167, 148, 52, 221, 23, 52, 3, 109, 114, 3, 50, 116, 188, 249, 233, 164, 118, 78, 196, 188, 69, 83, 34, 137]⟩
def sanC2 : ByteArray := ⟨#[99, 39, 228, 27, 87, 255, 2, 240, 197, 67, 72, 221, 101, 95, 221, 255, 253, 43, 196, 159, 180, 166, 139, 213, 48, 45, 217, 159, 33, 96, 125, 134]⟩
def sanC3 : ByteArray := ⟨#[59, 249, 83, 36, 29, 188, 54, 34, 183, 19, 112, 60, 70, 145, 23, 74, 66, 95, 73, 203, 246, 188, 200, 170, 245, 56, 111, 228, 61, 128, 70, 162]⟩
def sanI1 : ByteArray := ⟨#[134, 198, 78, 225, 40, 147, 166, 246, 73, 155, 96, 225, 217, 187, 170, 220, 213, 251, 198, 209, 31, 69, 205, 97, 179, 140, 203, 80, 18, 123, 28, 81, 9, 200, 135, 153, 251, 157, 26, 198, 232, 174, 62, 214, 208, 223, 10, 150, 74, 132, 0, 203, 185, 167, 84, 118, 231, 125, 131, 52, 255, 73, 55, 128, 73, 100]⟩
def sanD1 : ByteArray := ⟨#[81, 25, 9, 155, 170, 100, 35, 156, 91, 25, 254, 168, 83, 113, 174, 27, 138, 21, 251, 199, 210, 87, 20, 189, 235, 145, 103, 158, 208, 230, 60, 211]⟩
def sanI2 : ByteArray := ⟨#[223, 55, 33, 156, 163, 76, 60, 110, 70, 154, 205, 236, 192, 176, 13, 214, 85, 56, 238, 136, 158, 252, 200, 24, 9, 38, 215, 66, 224, 202, 227, 24, 53, 28, 24, 235, 112, 71, 42, 46, 168, 121, 106, 189, 17, 51, 113, 41, 196, 73, 174, 244, 121, 61, 216, 8, 157, 198, 99, 5, 41, 239, 79, 235]⟩
def sanD2 : ByteArray := ⟨#[5, 85, 202, 75, 31, 11, 136, 187, 221, 214, 190, 147, 138, 101, 153, 188, 236, 132, 68, 209, 44, 46, 165, 118, 119, 101, 25, 149, 121, 248, 169, 122]⟩
def sanL3 : ByteArray := ⟨#[167, 191, 43, 207, 55, 204, 28, 178, 65, 141, 151, 34, 73, 119, 214, 107, 57, 22, 73, 127, 181, 131, 66, 86, 54, 47, 170, 213, 8, 254, 126, 111]⟩
set_option maxRecDepth 1000000 in
theorem san_key5 : jkey (root26 5) = [48, 188, 123, 192, 172, 236, 181, 125, 218, 120, 136, 238, 145, 192, 9, 235, 239, 188, 55, 195, 171, 44, 240, 102, 173, 211, 2, 217, 110, 120, 165, 107] := by kernel_rfl
set_option maxRecDepth 1000000 in
theorem san_key9 : jkey (root26 9) = [91, 170, 204, 121, 225, 9, 235, 152, 147, 103, 74, 162, 79, 119, 150, 30, 14, 208, 90, 52, 245, 12, 157, 23, 3, 180, 221, 93, 171, 63, 78, 20] := by kernel_rfl
set_option maxRecDepth 1000000 in
theorem san_e5 : encK [48, 188, 123, 192, 172, 236, 181, 125, 218, 120, 136, 238, 145, 192, 9, 235, 239, 188, 55, 195, 171, 44, 240, 102, 173, 211, 2, 217, 110, 120, 165, 107] = [158, 206, 18, 71, 220, 23, 143, 127, 23, 201, 50, 119, 110, 121, 135, 87, 192, 167, 224, 87, 170, 6, 174, 223, 36, 145, 33, 217, 241, 248, 42, 97] := by kernel_rfl
set_option maxRecDepth 1000000 in
theorem san_m5 : macK [48, 188, 123, 192, 172, 236, 181, 125, 218, 120, 136, 238, 145, 192, 9, 235, 239, 188, 55, 195, 171, 44, 240, 102, 173, 211, 2, 217, 110, 120, 165, 107] = [138, 26, 230, 224, 97, 248, 18, 169, 135, 102, 221, 64, 237, 38, 118, 135, 24, 58, 187, 88, 221, 244, 45, 54, 216, 207, 132, 166, 104, 76, 74, 62] := by kernel_rfl
set_option maxRecDepth 1000000 in
theorem san_e9 : encK [91, 170, 204, 121, 225, 9, 235, 152, 147, 103, 74, 162, 79, 119, 150, 30, 14, 208, 90, 52, 245, 12, 157, 23, 3, 180, 221, 93, 171, 63, 78, 20] = [89, 47, 140, 102, 161, 190, 169, 75, 65, 140, 174, 135, 68, 9, 191, 185, 78, 54, 152, 199, 17, 112, 246, 90, 167, 167, 215, 127, 37, 30, 93, 125] := by kernel_rfl
set_option maxRecDepth 1000000 in
theorem san_m9 : macK [91, 170, 204, 121, 225, 9, 235, 152, 147, 103, 74, 162, 79, 119, 150, 30, 14, 208, 90, 52, 245, 12, 157, 23, 3, 180, 221, 93, 171, 63, 78, 20] = [33, 79, 226, 40, 33, 24, 27, 118, 25, 3, 228, 132, 174, 178, 219, 0, 192, 67, 67, 186, 45, 41, 29, 196, 18, 75, 46, 148, 183, 100, 247, 33] := by kernel_rfl
theorem seal_parts {root txt0 b : ByteArray} {no : Nat} {k e m n c g : List UInt8} (h1 : jkey root = k) (h2 : encK k = e) (h3 : macK k = m) (h4 : nonceL m (intL no) (bl txt0) = n) (h5 : xorL e 1 n (bl txt0) = c) (h6 : tagL m n (intL no) c = g) (h7 : txt (n ++ c ++ g) = b) : blobOf root no txt0 = b := by
 unfold blobOf sealL
 rw [h1]
 dsimp only
 rw [h2, h3, h4, h5, h6]
 exact h7
set_option maxRecDepth 1000000 in
theorem san_B1n : nonceL [138, 26, 230, 224, 97, 248, 18, 169, 135, 102, 221, 64, 237, 38, 118, 135, 24, 58, 187, 88, 221, 244, 45, 54, 216, 207, 132, 166, 104, 76, 74, 62] (intL 1) (bl (recT ⟨#[97]⟩)) = [96, 183, 199, 1, 178, 246, 168, 18, 152, 15, 190, 81] := by kernel_rfl
set_option maxRecDepth 1000000 in
theorem san_B1c : xorL [158, 206, 18, 71, 220, 23, 143, 127, 23, 201, 50, 119, 110, 121, 135, 87, 192, 167, 224, 87, 170, 6, 174, 223, 36, 145, 33, 217, 241, 248, 42, 97] 1 [96, 183, 199, 1, 178, 246, 168, 18, 152, 15, 190, 81] (bl (recT ⟨#[97]⟩)) = [57, 105] := by kernel_rfl
set_option maxRecDepth 1000000 in
theorem san_B1t : tagL [138, 26, 230, 224, 97, 248, 18, 169, 135, 102, 221, 64, 237, 38, 118, 135, 24, 58, 187, 88, 221, 244, 45, 54, 216, 207, 132, 166, 104, 76, 74, 62] [96, 183, 199, 1, 178, 246, 168, 18, 152, 15, 190, 81] (intL 1) [57, 105] = [156, 14, 164, 205, 4, 180, 14, 248, 193, 179, 140, 2, 95, 216, 220, 92] := by kernel_rfl
theorem san_B1 : blobOf (root26 5) 1 (recT ⟨#[97]⟩) = sanB1 := seal_parts san_key5 san_e5 san_m5 san_B1n san_B1c san_B1t (by rfl)
set_option maxRecDepth 1000000 in
theorem san_C1 : linkB zero32 1 sanB1 = sanC1 := by kernel_rfl
set_option maxRecDepth 1000000 in
theorem san_B2n : nonceL [138, 26, 230, 224, 97, 248, 18, 169, 135, 102, 221, 64, 237, 38, 118, 135, 24, 58, 187, 88, 221, 244, 45, 54, 216, 207, 132, 166, 104, 76, 74, 62] (intL 2) (bl (recT ⟨#[98]⟩)) = [134, 208, 224, 19, 11, 247, 185, 222, 171, 68, 74, 127] := by kernel_rfl
set_option maxRecDepth 1000000 in
theorem san_B2c : xorL [158, 206, 18, 71, 220, 23, 143, 127, 23, 201, 50, 119, 110, 121, 135, 87, 192, 167, 224, 87, 170, 6, 174, 223, 36, 145, 33, 217, 241, 248, 42, 97] 1 [134, 208, 224, 19, 11, 247, 185, 222, 171, 68, 74, 127] (bl (recT ⟨#[98]⟩)) = [39, 222] := by kernel_rfl
set_option maxRecDepth 1000000 in
theorem san_B2t : tagL [138, 26, 230, 224, 97, 248, 18, 169, 135, 102, 221, 64, 237, 38, 118, 135, 24, 58, 187, 88, 221, 244, 45, 54, 216, 207, 132, 166, 104, 76, 74, 62] [134, 208, 224, 19, 11, 247, 185, 222, 171, 68, 74, 127] (intL 2) [39, 222] = [92, 188, 125, 24, 182, 235, 29, 121, 120, 136, 206, 11, 188, 23, 109, 132] := by kernel_rfl
theorem san_B2 : blobOf (root26 5) 2 (recT ⟨#[98]⟩) = sanB2 := seal_parts san_key5 san_e5 san_m5 san_B2n san_B2c san_B2t (by rfl)
set_option maxRecDepth 1000000 in
theorem san_C2 : linkB sanC1 2 sanB2 = sanC2 := by kernel_rfl
set_option maxRecDepth 1000000 in
theorem san_B3n : nonceL [138, 26, 230, 224, 97, 248, 18, 169, 135, 102, 221, 64, 237, 38, 118, 135, 24, 58, 187, 88, 221, 244, 45, 54, 216, 207, 132, 166, 104, 76, 74, 62] (intL 3) (bl (recT ⟨#[99]⟩)) = [158, 58, 252, 65, 165, 233, 249, 56, 78, 148, 162, 58] := by kernel_rfl
set_option maxRecDepth 1000000 in
theorem san_B3c : xorL [158, 206, 18, 71, 220, 23, 143, 127, 23, 201, 50, 119, 110, 121, 135, 87, 192, 167, 224, 87, 170, 6, 174, 223, 36, 145, 33, 217, 241, 248, 42, 97] 1 [158, 58, 252, 65, 165, 233, 249, 56, 78, 148, 162, 58] (bl (recT ⟨#[99]⟩)) = [138, 121] := by kernel_rfl
set_option maxRecDepth 1000000 in
theorem san_B3t : tagL [138, 26, 230, 224, 97, 248, 18, 169, 135, 102, 221, 64, 237, 38, 118, 135, 24, 58, 187, 88, 221, 244, 45, 54, 216, 207, 132, 166, 104, 76, 74, 62] [158, 58, 252, 65, 165, 233, 249, 56, 78, 148, 162, 58] (intL 3) [138, 121] = [229, 160, 228, 224, 180, 21, 203, 87, 35, 112, 118, 249, 65, 125, 33, 176] := by kernel_rfl
theorem san_B3 : blobOf (root26 5) 3 (recT ⟨#[99]⟩) = sanB3 := seal_parts san_key5 san_e5 san_m5 san_B3n san_B3c san_B3t (by rfl)
set_option maxRecDepth 1000000 in
theorem san_C3 : linkB sanC2 3 sanB3 = sanC3 := by kernel_rfl
set_option maxRecDepth 1000000 in
theorem san_I1n : nonceL [138, 26, 230, 224, 97, 248, 18, 169, 135, 102, 221, 64, 237, 38, 118, 135, 24, 58, 187, 88, 221, 244, 45, 54, 216, 207, 132, 166, 104, 76, 74, 62] (intL 1) (bl (imgT zero32 ⟨#[105, 109, 97, 103, 101]⟩)) = [134, 198, 78, 225, 40, 147, 166, 246, 73, 155, 96, 225] := by kernel_rfl
set_option maxRecDepth 1000000 in
theorem san_I1c : xorL [158, 206, 18, 71, 220, 23, 143, 127, 23, 201, 50, 119, 110, 121, 135, 87, 192, 167, 224, 87, 170, 6, 174, 223, 36, 145, 33, 217, 241, 248, 42, 97] 1 [134, 198, 78, 225, 40, 147, 166, 246, 73, 155, 96, 225] (bl (imgT zero32 ⟨#[105, 109, 97, 103, 101]⟩)) = [217, 187, 170, 220, 213, 251, 198, 209, 31, 69, 205, 97, 179, 140, 203, 80, 18, 123, 28, 81, 9, 200, 135, 153, 251, 157, 26, 198, 232, 174, 62, 214, 208, 223, 10, 150, 74, 132] := by kernel_rfl
set_option maxRecDepth 1000000 in
theorem san_I1t : tagL [138, 26, 230, 224, 97, 248, 18, 169, 135, 102, 221, 64, 237, 38, 118, 135, 24, 58, 187, 88, 221, 244, 45, 54, 216, 207, 132, 166, 104, 76, 74, 62] [134, 198, 78, 225, 40, 147, 166, 246, 73, 155, 96, 225] (intL 1) [217, 187, 170, 220, 213, 251, 198, 209, 31, 69, 205, 97, 179, 140, 203, 80, 18, 123, 28, 81, 9, 200, 135, 153, 251, 157, 26, 198, 232, 174, 62, 214, 208, 223, 10, 150, 74, 132] = [0, 203, 185, 167, 84, 118, 231, 125, 131, 52, 255, 73, 55, 128, 73, 100] := by kernel_rfl
theorem san_I1 : blobOf (root26 5) 1 (imgT zero32 ⟨#[105, 109, 97, 103, 101]⟩) = sanI1 := seal_parts san_key5 san_e5 san_m5 san_I1n san_I1c san_I1t (by rfl)
set_option maxRecDepth 1000000 in
theorem san_D1 : linkB zero32 1 sanI1 = sanD1 := by kernel_rfl
set_option maxRecDepth 1000000 in
theorem san_I2n : nonceL [33, 79, 226, 40, 33, 24, 27, 118, 25, 3, 228, 132, 174, 178, 219, 0, 192, 67, 67, 186, 45, 41, 29, 196, 18, 75, 46, 148, 183, 100, 247, 33] (intL 2) (bl (imgT sanD1 ⟨#[110, 101, 119]⟩)) = [223, 55, 33, 156, 163, 76, 60, 110, 70, 154, 205, 236] := by kernel_rfl
set_option maxRecDepth 1000000 in
theorem san_I2c : xorL [89, 47, 140, 102, 161, 190, 169, 75, 65, 140, 174, 135, 68, 9, 191, 185, 78, 54, 152, 199, 17, 112, 246, 90, 167, 167, 215, 127, 37, 30, 93, 125] 1 [223, 55, 33, 156, 163, 76, 60, 110, 70, 154, 205, 236] (bl (imgT sanD1 ⟨#[110, 101, 119]⟩)) = [192, 176, 13, 214, 85, 56, 238, 136, 158, 252, 200, 24, 9, 38, 215, 66, 224, 202, 227, 24, 53, 28, 24, 235, 112, 71, 42, 46, 168, 121, 106, 189, 17, 51, 113, 41] := by kernel_rfl
set_option maxRecDepth 1000000 in
theorem san_I2t : tagL [33, 79, 226, 40, 33, 24, 27, 118, 25, 3, 228, 132, 174, 178, 219, 0, 192, 67, 67, 186, 45, 41, 29, 196, 18, 75, 46, 148, 183, 100, 247, 33] [223, 55, 33, 156, 163, 76, 60, 110, 70, 154, 205, 236] (intL 2) [192, 176, 13, 214, 85, 56, 238, 136, 158, 252, 200, 24, 9, 38, 215, 66, 224, 202, 227, 24, 53, 28, 24, 235, 112, 71, 42, 46, 168, 121, 106, 189, 17, 51, 113, 41] = [196, 73, 174, 244, 121, 61, 216, 8, 157, 198, 99, 5, 41, 239, 79, 235] := by kernel_rfl
theorem san_I2 : blobOf (root26 9) 2 (imgT sanD1 ⟨#[110, 101, 119]⟩) = sanI2 := seal_parts san_key9 san_e9 san_m9 san_I2n san_I2c san_I2t (by rfl)
set_option maxRecDepth 1000000 in
theorem san_D2 : linkB sanD1 2 sanI2 = sanD2 := by kernel_rfl
set_option maxRecDepth 1000000 in
theorem san_L3 : linkB sanD2 3 ⟨#[120]⟩ = sanL3 := by kernel_rfl
theorem san_new : sanC3 ≠ sanC2 /\ sanC3 ≠ sanC1 /\ sanL3 ≠ sanD2 := by decide
def sanV0 : Vlt := ⟨J0, root26 5, zero32, none, []⟩
def sanV1 : Vlt := ⟨⟨0, 1, 2, [(1, sanB1)], false⟩, root26 5, sanC1, none, [⟨#[97]⟩]⟩
def sanV2 : Vlt := ⟨⟨0, 2, 3, [(1, sanB1), (2, sanB2)], false⟩, root26 5, sanC2, none, [⟨#[97]⟩, ⟨#[98]⟩]⟩
def sanV3 : Vlt := ⟨⟨0, 3, 4, [(1, sanB1), (2, sanB2), (3, sanB3)], false⟩, root26 5, sanC3, none, [⟨#[97]⟩, ⟨#[98]⟩, ⟨#[99]⟩]⟩
def sanW1 : Vlt := ⟨⟨1, 2, 2, [(1, sanI1)], false⟩, root26 5, sanD1, some ⟨#[105, 109, 97, 103, 101]⟩, []⟩
def sanW2 : Vlt := ⟨⟨0, 2, 3, [(2, sanI2)], false⟩, root26 9, sanD2, some ⟨#[110, 101, 119]⟩, []⟩
section
variable {h b : Nat} {V : Vlt} {D : Dev}
def vadd (V : Vlt) (t : ByteArray) : Vlt := ⟨⟨V.J.bank, V.J.used + countN (blobOf V.root V.J.next (recT t)).size, V.J.next + 1, V.J.l ++ [(V.J.next, blobOf V.root V.J.next (recT t))], false⟩, V.root, linkB V.chain V.J.next (blobOf V.root V.J.next (recT t)), V.image, V.texts ++ [t]⟩
def vimg (V : Vlt) (root t : ByteArray) : Vlt := ⟨⟨1 - V.J.bank, countN (blobOf root V.J.next (imgT V.chain t)).size, V.J.next + 1, [(V.J.next, blobOf root V.J.next (imgT V.chain t))], false⟩, root, linkB V.chain V.J.next (blobOf root V.J.next (imgT V.chain t)), some t, []⟩
theorem vchain_zero {c : ByteArray} (h0 : (vchain c V D).1 = 0) : vchain c V D = (0, some V, (vchain c V D).2.2) := by
 unfold vchain at h0 ⊢
 split
 ·rfl
 ·rename_i h1
  rw [if_neg h1] at h0
  cases h0
theorem vall_zero (h0 : (vall V D).1 = 0) : vall V D = (0, some V, (vall V D).2.2) := by
 unfold vall at h0 ⊢
 split
 ·rfl
 ·rename_i h1
  rw [if_neg h1] at h0
  cases h0
theorem commit_full (I : VInv h V D b) (hb : b < 255) (hl : D.left = -1) (t : ByteArray) (ht : t.size <= 7971) (hr : V.J.used + countN (t.size + 29) <= h) :
  vcommit h V D t = (0, some (vadd V t), (vcommit h V D t).2.2) /\ VInv h (vadd V t) (vcommit h V D t).2.2 (b + 1) := by
 have hsz : (blobOf V.root V.J.next (recT t)).size = t.size + 29 := by rw [blobOf_size, recT_size]
 have hun : ∃ D', vcommit h V D t = vchain (linkB V.chain V.J.next (blobOf V.root V.J.next (recT t))) (vadd V t) D' := by
  unfold vcommit
  rw [if_neg (by omega)]
  rcases append_cases (h := h) (D := D) (blobOf V.root V.J.next (recT t)) V.J with ⟨a, _⟩ | ⟨_, a, _⟩ | ⟨_, _, e⟩
  ·rw [hsz] at a; omega
  ·have := a.1; omega
  ·rw [e]; exact ⟨_, rfl⟩
 rcases commit_out I hb t ht with ⟨a, _⟩ | ⟨_, e0, ⟨V', e1, e2, _⟩, _⟩ | ⟨a, _⟩
 ·omega
 ·obtain ⟨D', e⟩ := hun
  rw [e] at e0
  have h2 := vchain_zero e0
  rw [<- e] at h2
  refine ⟨h2, ?_⟩
  rw [h2] at e1
  cases e1
  exact e2
 ·omega
theorem replace_full (hl : D.left = -1) (root t : ByteArray) (hc : V.chain.size = 32) (hr : countN (t.size + 61) <= h) : ∃ D', vreplace h V D root t = (0, some (vimg V root t), D') := by
 have hsz : (blobOf root V.J.next (imgT V.chain t)).size = t.size + 61 := by rw [blobOf_size, imgT_size, hc]; omega
 unfold vreplace
 rcases compact_cases (h := h) (D := D) (blobOf root V.J.next (imgT V.chain t)) V.J with ⟨a, _⟩ | ⟨_, a, _⟩ | ⟨_, _, e⟩
 ·rw [hsz] at a; omega
 ·have := a.1; omega
 ·rw [e]; exact ⟨_, rfl⟩
theorem vcompact_full (I : VInv h V D b) (hb : b < 255) (hl : D.left = -1) (t : ByteArray) (ht : t.size <= 7939) (hr : countN (t.size + 61) <= h) :
  vcompact h V D t = (0, some (vimg V V.root t), (vcompact h V D t).2.2) /\ VInv h (vimg V V.root t) (vcompact h V D t).2.2 (b + 1) := by
 have hun : ∃ c D', vcompact h V D t = vchain c (vimg V V.root t) D' := by
  obtain ⟨D', e⟩ := replace_full hl V.root t I.chain hr
  unfold vcompact
  rw [if_neg (by omega), e]
  exact ⟨_, _, rfl⟩
 rcases compactV_out I hb t ht with ⟨a, _⟩ | ⟨_, e0, ⟨V', e1, e2, _⟩⟩ | ⟨a, _⟩
 ·omega
 ·obtain ⟨c, D', e⟩ := hun
  rw [e] at e0
  have h2 := vchain_zero e0
  rw [<- e] at h2
  refine ⟨h2, ?_⟩
  rw [h2] at e1
  cases e1
  exact e2
 ·omega
theorem rekey_full (I : VInv h V D b) (hb : b < 255) (hl : D.left = -1) (root t : ByteArray) (hroot : root.size = 32 /\ root ≠ zero32) (ht : t.size <= 7939) (hr : countN (t.size + 61) <= h) :
  vrekey h V D root t = (0, some (vimg V root t), (vrekey h V D root t).2.2) /\ VInv h (vimg V root t) (vrekey h V D root t).2.2 (b + 1) := by
 have hs : (D.slot (2, root)).1 = 0 := by
  rcases slot_cases I.on (2, root) with ⟨a, _⟩ | ⟨_, e⟩
  ·omega
  ·rw [e]
 have hun : ∃ D', vrekey h V D root t = vall (vimg V root t) D' := by
  obtain ⟨D', e⟩ := replace_full (slot_left hl (2, root)) root t I.chain hr
  unfold vrekey
  rw [if_neg (by omega), if_neg (by rw [hs]; exact fun h => h rfl), e]
  exact ⟨_, rfl⟩
 have h0 : (vrekey h V D root t).1 = 0 := by
  obtain ⟨D', e⟩ := hun
  rcases rekey_out I hb root t hroot ht with ⟨a, _⟩ | ⟨a, _⟩ | ⟨a, _⟩
  ·rw [e] at a
   unfold vall at a
   split at a <;> cases a
  ·exact a
  ·omega
 have h2 : vrekey h V D root t = (0, some (vimg V root t), (vrekey h V D root t).2.2) := by
  obtain ⟨D', e⟩ := hun
  rw [e] at h0
  have := vall_zero h0
  rw [<- e] at this
  exact this
 refine ⟨h2, ?_⟩
 rcases rekey_out I hb root t hroot ht with ⟨a, _⟩ | ⟨_, ⟨V', e1, e2, _⟩⟩ | ⟨a, _⟩
 ·rw [h0] at a; cases a
 ·rw [h2] at e1
  cases e1
  exact e2
 ·omega
theorem open_same (I : VInv h V D b) (hn : V.J.next = lastN V.J.l + 1) : vopen h D = (0, some V, D) := by
 obtain ⟨R, hR, e1, e2, e3⟩ := I.read
 have hj := jopen_eq I.jok.inv
 have h1 := open_low I.jok.inv I.jok.low
 have h2 := (open_inv I.jok.inv).last
 have hJ : jopen h D.M = V.J := by
  rw [hj] at h1 h2 ⊢
  have h2' : lastN V.J.l < jnext ((nowL D.M).take (2 * h)) 1 := h2
  have h1' : jnext ((nowL D.M).take (2 * h)) 1 <= V.J.next := h1
  have h3 : jnext ((nowL D.M).take (2 * h)) 1 = V.J.next := by omega
  rw [h3, <- I.spoiled]
 obtain ⟨hr1, hr2⟩ := I.root
 unfold vopen
 rw [I.slots]
 have g0 : ([V.root, V.chain, zero32] : List ByteArray).getD 0 ⟨#[]⟩ = V.root := rfl
 have g1 : ([V.root, V.chain, zero32] : List ByteArray).getD 1 ⟨#[]⟩ = V.chain := rfl
 have g2 : ([V.root, V.chain, zero32] : List ByteArray).getD 2 ⟨#[]⟩ = zero32 := rfl
 rw [g0, g1, g2, hJ, if_neg (fun a => hr2 a.1), rootOf_first hr2 hR]
 dsimp only
 rw [hR]
 dsimp only
 have hnd : needed [V.root, V.chain, zero32] [(0, V.root), (1, R.chain), (2, zero32)] = [] := by
  unfold needed
  rw [e1]
  simp
 rw [hnd, if_neg (fun a => a.1 e1.symm), e1, e2, e3]
 exact if_pos rfl
end
theorem nowL_jopen {h : Nat} {M M' : List Sec} (e : nowL M = nowL M') : jopen h M = jopen h M' := by
 unfold jopen openBank
 rw [e]
theorem san_add0 : vadd sanV0 ⟨#[97]⟩ = sanV1 := by
 unfold vadd
 rw [show sanV0.J.next = 1 from rfl, show sanV0.root = root26 5 from rfl, show sanV0.chain = zero32 from rfl, san_B1, san_C1]
 rfl
theorem san_add1 : vadd sanV1 ⟨#[98]⟩ = sanV2 := by
 unfold vadd
 rw [show sanV1.J.next = 2 from rfl, show sanV1.root = root26 5 from rfl, show sanV1.chain = sanC1 from rfl, san_B2, san_C2]
 rfl
theorem san_add2 : vadd sanV2 ⟨#[99]⟩ = sanV3 := by
 unfold vadd
 rw [show sanV2.J.next = 3 from rfl, show sanV2.root = root26 5 from rfl, show sanV2.chain = sanC2 from rfl, san_B3, san_C3]
 rfl
theorem san_img0 : vimg sanV0 sanV0.root ⟨#[105, 109, 97, 103, 101]⟩ = sanW1 := by
 unfold vimg
 rw [show sanV0.J.next = 1 from rfl, show sanV0.root = root26 5 from rfl, show sanV0.chain = zero32 from rfl, san_I1, san_D1]
 rfl
theorem san_img1 : vimg sanW1 (root26 9) ⟨#[110, 101, 119]⟩ = sanW2 := by
 unfold vimg
 rw [show sanW1.J.next = 2 from rfl, show sanW1.chain = sanD1 from rfl, san_I2, san_D2]
 rfl
theorem san_fresh : vnew 12 5 = sanV0 := by
 have hi := fresh_inv 12 6 (by decide) (by decide)
 have hj := fresh_jok 12 6 (by decide) (by decide)
 have h1 := open_low hi hj.low
 have h2 := (open_inv hi).next
 have he := jopen_eq hi
 unfold vnew sanV0
 rw [show 12 / 2 = 6 from rfl]
 rw [he] at h1 h2 ⊢
 have h3 : jnext ((nowL (List.replicate 12 Sec.blank)).take (2 * 6)) 1 = 1 := Nat.le_antisymm h1 h2
 rw [h3]
 rfl
theorem san_stale {D : Dev} {_ : List Sec} {D0 : Dev} {b : Nat} (I : VInv 6 sanV2 D0 b) (hM : nowL D.M = nowL D0.M) (hs : D.slots = [root26 5, sanC3, zero32]) :
  vopen 6 D = (9, none, D) /\ rootOf (root26 5) zero32 (jopen 6 D.M).l = some (root26 5) /\ readV (root26 5) (jopen 6 D.M).l = some ⟨sanC2, sanC1, none, [⟨#[97]⟩, ⟨#[98]⟩]⟩ /\ (jopen 6 D.M).l = [(1, sanB1), (2, sanB2)] := by
 have hJ : (jopen 6 D.M).l = [(1, sanB1), (2, sanB2)] := by
  rw [nowL_jopen hM]
  exact (open_finds I.jok.inv).2.2
 have hr : readV (root26 5) [(1, sanB1), (2, sanB2)] = some ⟨sanC2, sanC1, none, [⟨#[97]⟩, ⟨#[98]⟩]⟩ := by
  have h0 : readV (root26 5) [] = some rd0 := rfl
  have h1 := readV_rec h0 1 ⟨#[97]⟩
  rw [san_B1, show rd0.chain = zero32 from rfl, san_C1] at h1
  have h2 := readV_rec h1 2 ⟨#[98]⟩
  rw [san_B2] at h2
  dsimp only at h2
  rw [san_C2] at h2
  exact h2
 have hro := rootOf_first (s2 := zero32) (root26_ne 5) hr
 refine ⟨?_, by rw [hJ]; exact hro, by rw [hJ]; exact hr, hJ⟩
 unfold vopen
 rw [hs]
 have g0 : ([root26 5, sanC3, zero32] : List ByteArray).getD 0 ⟨#[]⟩ = root26 5 := rfl
 have g1 : ([root26 5, sanC3, zero32] : List ByteArray).getD 1 ⟨#[]⟩ = sanC3 := rfl
 have g2 : ([root26 5, sanC3, zero32] : List ByteArray).getD 2 ⟨#[]⟩ = zero32 := rfl
 rw [g0, g1, g2, hJ, if_neg (fun a => root26_ne 5 a.1), hro]
 dsimp only
 rw [hr]
 dsimp only
 exact if_pos ⟨san_new.1, .inr san_new.2.1⟩
end Go.Proofs.YtpghocekofdpbaaGreatDoor
namespace Go.Proofs.YtpghocekofdpbaaGreatDoor
open Go.RowKit Go.Shelf
attribute [local go_sem] Oper.semAt_some
structure Off (x : VAt) (u : Value) (y : VAt) (p2 u2 : Value) : Prop where
 d : y.a.d ≠ x.a.d
 g : y.a.g ≠ x.a.g
 fb : y.a.fb ≠ x.a.fb
 jb : y.jb ≠ x.jb
 vb : y.vb ≠ x.vb
 s : ∀ k, (k = x.a.sb \/ u.ownBlock = some k) -> k ≠ y.a.sb /\ u2.ownBlock ≠ some k /\ ∀ i, p2 ≠ .pointer (some ⟨k, i, none⟩)
section
variable {W w w' w1 w2 : World} {x y : VAt} {h b lo pb qb h2 b2 : Nat} {V V' V2 : Vlt} {D E D2 : Dev} {p u p' u' p2 u2 : Value}
theorem VLeft.keeps (kx : VIs w x h V D p u) (hF : VLeft w w' x u) {j : Nat} {t : TypeId} {cs : Array Value} (hb : Blk w j t cs) (h1 : t = 89 -> j ≠ x.a.d) (h2 : t = 139 -> j ≠ x.a.g) (h3 : t = 9 -> j ≠ x.a.sb /\ u.ownBlock ≠ some j) (h4 : t = 4 -> j ≠ x.a.fb) (h5 : t = 126 -> j ≠ x.jb) (h6 : t = 79 -> j ≠ x.vb) : w'.heap[j]? = w.heap[j]? := by
 obtain ⟨_, q2⟩ := kx.dev.gblk
 obtain ⟨_, q3⟩ := kx.dev.sblk
 obtain ⟨_, q4⟩ := kx.dev.fblk
 obtain ⟨_, hv⟩ := kx.jrn
 refine hF.rest j hb.lt ?_ ?_ ?_ ?_ ?_ ?_ ?_
 ·by_cases e : t = 89
  ·exact h1 e
  ·exact hb.ne_ kx.dev.blk e
 ·by_cases e : t = 139
  ·exact h2 e
  ·exact hb.ne_ q2 e
 ·by_cases e : t = 9
  ·exact (h3 e).1
  ·exact hb.ne_ q3 e
 ·by_cases e : t = 4
  ·exact h4 e
  ·exact hb.ne_ q4 e
 ·by_cases e : t = 126
  ·exact h5 e
  ·exact hb.ne_ hv.blk e
 ·by_cases e : t = 79
  ·exact h6 e
  ·exact hb.ne_ kx.blk e
 ·by_cases e : t = 9
  ·exact (h3 e).2
  ·exact own_blk_ne kx.row hb (Ne.symm e)
theorem VIs.sizes (k : VIs w x h V D p u) : x.a.d < w.heap.size /\ x.a.g < w.heap.size /\ x.a.sb < w.heap.size /\ x.a.fb < w.heap.size /\ x.jb < w.heap.size /\ x.vb < w.heap.size /\ (∀ j, u.ownBlock = some j -> j < w.heap.size) /\ ∀ g i, p = .pointer (some ⟨g, i, none⟩) -> g < w.heap.size := by
 obtain ⟨_, q2⟩ := k.dev.gblk
 obtain ⟨_, q3⟩ := k.dev.sblk
 obtain ⟨_, q4⟩ := k.dev.fblk
 obtain ⟨_, hv⟩ := k.jrn
 exact ⟨k.dev.blk.lt, q2.lt, q3.lt, q4.lt, hv.blk.lt, k.blk.lt, fun j e => (k.row.lt j e).2, fun g i e => Nat.lt_of_lt_of_le (k.lowI g i e) k.lowB⟩
end
end Go.Proofs.YtpghocekofdpbaaGreatDoor
namespace Go.Proofs.YtpghocekofdpbaaGreatDoor
open Go.RowKit Go.Shelf
attribute [local go_sem] Oper.semAt_some
theorem toList_dataV (s : ByteArray) : s.toList = s.data.toList := ByteArray.toList_eq s
def TextsV (w : World) (v : Value) (I : List ByteArray) : Prop := ∃ A c, v = .slice A I.length c /\ I.length <= c /\ c <= maxLen /\ ∀ (i : Nat) (t : ByteArray), I[i]? = some t -> ∃ b, A = some ⟨b, 0, none⟩ /\ b < w.heap.size /\ w.cell? ⟨b, i, none⟩ = some (.string t)
theorem TextsV.row {w : World} {base : Nat} {v : Value} {I : List ByteArray} (h : w.ownsRow base 9 1 v I.length (strCells I)) : TextsV w v I := by
 have h' := h
 rcases h.2 with ⟨rfl, h0⟩ | ⟨gb, cap, cur, rfl, _, hb, h1, h2, _, _⟩
 ·exact ⟨none, 0, by rw [h0], by omega, by unfold maxLen; omega, fun i t hi => by rw [List.eq_nil_of_length_eq_zero h0] at hi; simp at hi⟩
 ·refine ⟨_, cap, rfl, h1, h2, fun i t hi => ⟨gb, rfl, Blk.lt hb, ?_⟩⟩
  rw [h'.cellAt i (by have := (List.getElem?_eq_some_iff.1 hi).1; omega)]
  simp [strCells, hi]
theorem TextsV.below {w w' : World} {v : Value} {I : List ByteArray} (h : TextsV w v I) (hB : Below w.heap.size w w') : TextsV w' v I := by
 obtain ⟨A, c, e, h1, h2, h3⟩ := h
 refine ⟨A, c, e, h1, h2, fun i t hi => ?_⟩
 obtain ⟨gb, e1, l1, c1⟩ := h3 i t hi
 exact ⟨gb, e1, Nat.lt_of_lt_of_le l1 hB.size, (hB.cell (p := ⟨gb, i, none⟩) l1).trans c1⟩
theorem belowDrewN {B : Nat} {a w : World} (h : Below B a w) (n : Nat) : Below B a (w.drewN n) := ⟨h.os, h.tape, h.output, h.size, h.block⟩
set_option maxRecDepth 100000 in
set_option maxHeartbeats 1600000 in
theorem vsame_any (w : World) (v v' : Value) (I J : List ByteArray) (h0 : TextsV w v I) (h0' : TextsV w v' J) (hN : I.length <= 1048576) (_hN' : J.length <= 1048576) :
  Calls Tryz.prog 33 #[v, v'] w fun e w' => e = .returned (.bool (decide (I = J))) /\ Below w.heap.size w w' := by
 obtain ⟨A, c, rfl, h⟩ := h0
 obtain ⟨A', c', rfl, h'⟩ := h0'
 by_cases hl : I.length = J.length
 ·have d0 : ((I.length : Int) != (J.length : Int)) = false := bne_f (by omega)
  have d00 : (I.length != J.length) = false := by simp [hl]
  have H := Lib.hid h
  have H' := Lib.hid h'
  have Hl := Lib.hid hl
  clear h h' hl
  go_enter Tryz.func33, Tryz.ntmps33
  go_wp2_with fail
  go_loopw [5] (fun i wr => ∃ k : Nat, k <= I.length /\ i = .int .i64 k /\ Hid (I.take k = J.take k) /\ Hid (Below w.heap.size w wr)) (fun i _ => I.length - (intOf i).toNat)
  case atStart => exact ⟨0, Nat.zero_le _, rfl, rfl, Below.refl _ _⟩
  case round =>
   obtain ⟨k, hk, rfl, ht, hB⟩ := hrel
   by_cases hkl : k < I.length
   ·have hd1 : decide (k < I.length) = true := decide_eq_true hkl
    obtain ⟨x, hx⟩ : ∃ x, I[k]? = some x := ⟨_, List.getElem?_eq_getElem hkl⟩
    obtain ⟨y, hy⟩ : ∃ y, J[k]? = some y := ⟨_, List.getElem?_eq_getElem (by have := Hl.out; omega)⟩
    obtain ⟨b, rfl, l1, hc0⟩ := H.out.2.2 k x hx
    obtain ⟨b', rfl, l2, hc0'⟩ := H'.out.2.2 k y hy
    have hc := (hB.out.cell (p := ⟨b, k, none⟩) l1).trans hc0
    have hc' := (hB.out.cell (p := ⟨b', k, none⟩) l2).trans hc0'
    clear hc0 hc0' l1 l2
    have hkJ : k < J.length := by have := Hl.out; omega
    have hk0 : (0 : Int) <= (k : Int) := by omega
    have hkI1 : (k : Int) < I.length := by omega
    have hkJ1 : (k : Int) < J.length := by omega
    have Hkl := Lib.hid hkl
    have Hxy : Hid (x = y -> I.take (k + 1) = J.take (k + 1)) := fun e => by rw [List.take_add_one, List.take_add_one, hx, hy, e, ht.out]
    have Hne : Hid (x ≠ y -> I ≠ J) := fun e e2 => e (by rw [e2, hy] at hx; exact (Option.some.inj hx).symm)
    clear hx hy hkl
    by_cases hxy : x = y
    ·have dx : (x.toList == y.toList) = true := by rw [hxy]; exact beq_self_eq_true _
     have Hn := Lib.hid (Hxy.out hxy)
     clear hxy
     go_wp2_with fail
     go_quiet (fail)
     have hB2 : Hid (Below w.heap.size w (wr.drewN nq)) := belowDrewN hB.out nq
     clear hc hc' hB
     generalize wr.drewN nq = w2 at hB2 ⊢
     go_wp2_with fail
     go_roundw
     case rel => exact ⟨k + 1, Hkl.out, by go_num, Hn, hB2⟩
     case measure => have := Hkl.out; simp [intOf]; omega
    ·have dx : (x.toList == y.toList) = false := by
      rw [beq_eq_false_iff_ne, toList_dataV, toList_dataV]
      exact fun e => hxy (by apply ByteArray.ext; exact Array.ext' e)
     have Hn := Lib.hid (Hne.out hxy)
     clear hxy
     go_wp2_with fail
     go_quiet (fail)
     have hB2 : Hid (Below w.heap.size w (wr.drewN nq)) := belowDrewN hB.out nq
     clear hc hc' hB
     generalize wr.drewN nq = w2 at hB2 ⊢
     go_wp2_with fail
     go_ret
     exact ⟨by rw [decide_eq_false Hn.out]; rfl, hB2.out⟩
   ·have hd1 : decide (k < I.length) = false := decide_eq_false hkl
    have Hn : Hid (I = J) := by
     have h1 := ht.out
     rw [List.take_of_length_le (by omega), List.take_of_length_le (by have := Hl.out; omega)] at h1
     exact h1
    clear hkl hk
    go_wp2_with fail
    go_ret
    exact ⟨by rw [decide_eq_true Hn.out]; rfl, hB.out⟩
 ·have d0 : ((I.length : Int) != (J.length : Int)) = true := bne_t (by omega)
  have d00 : (I.length != J.length) = true := by simp [hl]
  have Hn : Hid (I ≠ J) := fun e => hl (by rw [e])
  clear h h' hl
  go_enter Tryz.func33, Tryz.ntmps33
  go_wp2_with fail
  go_ret
  exact ⟨by rw [decide_eq_false Hn.out]; rfl, Below.refl _ _⟩
end Go.Proofs.YtpghocekofdpbaaGreatDoor
