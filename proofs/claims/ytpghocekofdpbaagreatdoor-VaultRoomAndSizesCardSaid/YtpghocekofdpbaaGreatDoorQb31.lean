import Derived.Test.YtpghocekofdpbaaGreatDoorQb30
import Derived.Test.YtpghocekofdpbaaGreatDoorQb03
import Derived.Test.YtpghocekofdpbaaGreatDoorQb26
namespace Go.Proofs.YtpghocekofdpbaaGreatDoor
open Go.RowKit Go.Shelf
attribute [local go_sem] Oper.semAt_some w_or
theorem text_index (w : World) (s : ByteArray) (i : Nat) (x : UInt8) (h : (bl s)[i]? = some x) : (Instr.index 9 (.string s) (.int .i64 (i : Int))).run Tryz.prog w = .ok (.int .u8 (x.toNat : Int)) w := by
 have hi : i < s.size := by
  rw [<- bl_len]
  exact (List.getElem?_eq_some_iff.1 h).1
 rw [run_index_string w 9 s .i64 i Tryz.underlying9, dif_pos ⟨by omega, by omega⟩]
 have e : s[(i : Int).toNat]'(by omega) = x := by
  have h2 := (List.getElem?_eq_some_iff.1 h).2
  rw [<- h2]
  rfl
 rw [e]
theorem shl16w (a : UInt32) : (a.toNat : Int) * 65536 % 4294967296 = ((wshl a 16).toNat : Int) := shl_eq a 16 (by decide)
theorem shl24w (a : UInt32) : (a.toNat : Int) * 16777216 % 4294967296 = ((wshl a 24).toNat : Int) := shl_eq a 24 (by decide)
set_option maxHeartbeats 800000 in
theorem get_any (w : World) (s : ByteArray) (h : 4 <= s.size) :
  Calls Tryz.prog 172 #[.string s] w fun e w' => e = .returned (u32v (getW (bl s))) /\ w' = w.drew := by
 have hl : 4 <= (bl s).length := by rw [bl_len]; exact h
 obtain ⟨b0, e0⟩ : ∃ x, (bl s)[0]? = some x := ⟨_, List.getElem?_eq_getElem (by omega)⟩
 obtain ⟨b1, e1⟩ : ∃ x, (bl s)[1]? = some x := ⟨_, List.getElem?_eq_getElem (by omega)⟩
 obtain ⟨b2, e2⟩ : ∃ x, (bl s)[2]? = some x := ⟨_, List.getElem?_eq_getElem (by omega)⟩
 obtain ⟨b3, e3⟩ : ∃ x, (bl s)[3]? = some x := ⟨_, List.getElem?_eq_getElem (by omega)⟩
 have i0 : ∀ wx, (Instr.index 9 (.string s) (.int .i64 0)).run Tryz.prog wx = .ok (.int .u8 (b0.toNat : Int)) wx := fun wx => text_index wx s 0 b0 e0
 have i1 : ∀ wx, (Instr.index 9 (.string s) (.int .i64 1)).run Tryz.prog wx = .ok (.int .u8 (b1.toNat : Int)) wx := fun wx => text_index wx s 1 b1 e1
 have i2 : ∀ wx, (Instr.index 9 (.string s) (.int .i64 2)).run Tryz.prog wx = .ok (.int .u8 (b2.toNat : Int)) wx := fun wx => text_index wx s 2 b2 e2
 have i3 : ∀ wx, (Instr.index 9 (.string s) (.int .i64 3)).run Tryz.prog wx = .ok (.int .u8 (b3.toNat : Int)) wx := fun wx => text_index wx s 3 b3 e3
 have hW : Hid (getW (bl s) = wor (wor (wor (w8 b0) (wshl (w8 b1) 8)) (wshl (w8 b2) 16)) (wshl (w8 b3) 24)) := by
  unfold Hid getW
  simp only [List.getD_eq_getElem?_getD, e0, e1, e2, e3, Option.getD_some]
 have c0 := byte_word b0
 have c1 := byte_word b1
 have c2 := byte_word b2
 have c3 := byte_word b3
 have d0 := byte_word' b0
 have d1 := byte_word' b1
 have d2 := byte_word' b2
 have d3 := byte_word' b3
 have s1 := shl8 (w8 b1)
 have s2 := shl16w (w8 b2)
 have s3 := shl24w (w8 b3)
 clear hl e0 e1 e2 e3
 go_enter Tryz.func172, Tryz.ntmps172
 go_wp2_with fail
 go_region
 go_wp2_with fail
 go_ret
 exact ⟨by rw [hW.out]; rfl, rfl⟩
theorem shr0 (x : UInt32) : Value.int IntKind.u8 ((x.toNat : Int) % 256) = byteV (UInt8.ofNat x.toNat) := by
 unfold byteV
 rw [byte_of]
theorem shrB (x : UInt32) (n : Nat) : Value.int IntKind.u8 ((x.toNat : Int) / (n : Int) % 256) = byteV (UInt8.ofNat (x.toNat / n)) := by
 unfold byteV
 rw [<- byte_of, Int.natCast_ediv]
theorem put_vals (x : UInt32) : #[Value.int IntKind.u8 ((x.toNat : Int) % 256), Value.int IntKind.u8 ((x.toNat : Int) / 256 % 256), Value.int IntKind.u8 ((x.toNat : Int) / 65536 % 256), Value.int IntKind.u8 ((x.toNat : Int) / 16777216 % 256)] = ((le4 x).map byteV).toArray := by
 have h0 := shr0 x
 have h1 := shrB x 256
 have h2 := shrB x 65536
 have h3 := shrB x 16777216
 show #[Value.int IntKind.u8 ((x.toNat : Int) % 256), Value.int IntKind.u8 ((x.toNat : Int) / ((256 : Nat) : Int) % 256), Value.int IntKind.u8 ((x.toNat : Int) / ((65536 : Nat) : Int) % 256), Value.int IntKind.u8 ((x.toNat : Int) / ((16777216 : Nat) : Int) % 256)] = _
 rw [h0, h1, h2, h3]
 rfl
set_option maxRecDepth 100000 in
theorem put_any (w : World) (base : Nat) (v : Value) (l : List UInt8) (x : UInt32) (hR : BRow w base v l) (hb : base <= w.heap.size) (hl : l.length < 1000000) :
  Calls Tryz.prog 174 #[v, u32v x] w fun e w' => ∃ v', e = .returned v' /\ Pushed w w' base v v' (l ++ le4 x) := by
 have hRH := Lib.hid hR
 have hvs := Lib.hid (put_vals x)
 have hlH : Hid (l.length + 4 < 99999999999) := by unfold Hid; omega
 have hbH := Lib.hid hb
 clear hR hl hb
 go_enter Tryz.func174, Tryz.ntmps174
 go_wp2_with (at_builtin; refine wp_lit rfl _ _ rfl base v l rfl hRH.out 4 4 (le4 x) hvs.out rfl rfl hlH.out hbH.out ?_; intro v' w' hP)
 go_ret
 exact ⟨_, rfl, hP⟩
end Go.Proofs.YtpghocekofdpbaaGreatDoor
namespace Go.Proofs.YtpghocekofdpbaaGreatDoor
open Go.RowKit Go.Shelf
attribute [local go_sem] Oper.semAt_some w_xor w_add w_add'
theorem blkW_cell {w : World} {g : Nat} {t : TypeId} {S : List UInt32} (h : Blk w g t (S.map u32v).toArray) {a : Nat} (ha : a < S.length) : w.cell? ⟨g, a, none⟩ = some (u32v (S.getD a 0)) := by
 rw [h.cell, List.getElem?_toArray, List.getElem?_map, List.getD_eq_getElem?_getD, List.getElem?_eq_getElem ha]
 rfl
theorem blkW_set {w : World} {g : Nat} {t : TypeId} {S : List UInt32} (h : Blk w g t (S.map u32v).toArray) (a : Nat) (v : UInt32) : Blk (w.setCell ⟨g, a, none⟩ (u32v v)) g t ((S.set a v).map u32v).toArray := by
 have h1 := h.set_ a (u32v v)
 rw [List.setIfInBounds_toArray, <- List.map_set] at h1
 exact h1
theorem grown_drew' (w : World) (row : Option Nat) : w.grownBy w.drew row := ⟨rfl, rfl, rfl, Nat.le_refl _, fun _ _ _ => rfl⟩
set_option maxRecDepth 100000 in
set_option maxHeartbeats 3200000 in
theorem quarter_any (W0 : World) (g a b c d : Nat) (t : TypeId) (S0 : List UInt32) (hl : S0.length = 16) (ha : a < 16) (hb : b < 16) (hc : c < 16) (hd : d < 16) (hB : Blk W0 g t (S0.map u32v).toArray) :
  Calls Tryz.prog 188 #[.pointer (some ⟨g, a, none⟩), .pointer (some ⟨g, b, none⟩), .pointer (some ⟨g, c, none⟩), .pointer (some ⟨g, d, none⟩)] W0 fun e w' => e = .returned (.tuple #[]) /\ Blk w' g t ((qrt S0 a b c d).map u32v).toArray /\ W0.grownBy w' (some g) := by
 have HB0 := Lib.hid hB
 have HG0 : Hid (W0.grownBy W0 (some g)) := ⟨rfl, rfl, rfl, Nat.le_refl _, fun _ _ _ => rfl⟩
 have hl0 := Lib.hid hl
 have h1 := Lib.hid ha
 have h2 := Lib.hid hb
 have h3 := Lib.hid hc
 have h4 := Lib.hid hd
 clear hB hl ha hb hc hd
 rename Hid (a < 16) => ha
 rename Hid (b < 16) => hb
 rename Hid (c < 16) => hc
 rename Hid (d < 16) => hd
 go_enter Tryz.func188, Tryz.ntmps188
 go_wp2_with fail
 obtain ⟨x0, hx0⟩ : ∃ x, S0.getD a 0 = x := ⟨_, rfl⟩
 obtain ⟨y0, hy0⟩ : ∃ y, S0.getD b 0 = y := ⟨_, rfl⟩
 have p0 : W0.cell? ⟨g, a, none⟩ = some (u32v x0) := by rw [<- hx0]; exact blkW_cell HB0.out (by rw [hl0.out]; exact ha.out)
 have q0 : W0.cell? ⟨g, b, none⟩ = some (u32v y0) := by rw [<- hy0]; exact blkW_cell HB0.out (by rw [hl0.out]; exact hb.out)
 have f0 := HB0.out.frozen a
 refine wp_region_last (S := (fun w' => w'.cell? ⟨g, a, none⟩ = some (u32v x0) /\ w'.cell? ⟨g, b, none⟩ = some (u32v y0))) 8 (by kernel_rfl) ⟨p0, q0⟩ (fun hHeld => ?_)
 refine' wkt (i := 0) (v := ?v0r0) rfl (Or.inl ⟨by rfl, ?hy0r0⟩) hHeld ?rest0r0
 case hy0r0 => intro w hSw; (try dsimp only at hSw); go_simp; all_goals with_reducible rfl
 try simp only [sA, gA]
 refine' wkt (i := 1) (v := ?v1r0) rfl (Or.inl ⟨by rfl, ?hy1r0⟩) hHeld ?rest1r0
 case hy1r0 => intro w hSw; (try dsimp only at hSw); go_simp; all_goals with_reducible rfl
 try simp only [sA, gA]
 refine' wkt (i := 2) (v := ?v2r0) rfl (Or.inl ⟨by rfl, ?hy2r0⟩) hHeld ?rest2r0
 case hy2r0 => intro w hSw; (try dsimp only at hSw); go_simp; all_goals with_reducible rfl
 try simp only [sA, gA]
 refine' wkt (i := 3) (v := ?v3r0) rfl (Or.inl ⟨by rfl, ?hy3r0⟩) hHeld ?rest3r0
 case hy3r0 => intro w hSw; (try dsimp only at hSw); go_simp; all_goals with_reducible rfl
 try simp only [sA, gA]
 refine' wkt (i := 4) (v := ?v4r0) rfl (Or.inl ⟨by rfl, ?hy4r0⟩) hHeld ?rest4r0
 case hy4r0 => intro w hSw; (try dsimp only at hSw); go_simp; all_goals with_reducible rfl
 try simp only [sA, gA]
 refine' wkt (i := 5) (v := ?v5r0) rfl (Or.inl ⟨by rfl, ?hy5r0⟩) hHeld ?rest5r0
 case hy5r0 => intro w hSw; (try dsimp only at hSw); go_simp; all_goals with_reducible rfl
 try simp only [sA, gA]
 refine' wkt (i := 6) (v := ?v6r0) rfl (Or.inl ⟨by rfl, ?hy6r0⟩) hHeld ?rest6r0
 case hy6r0 => intro w hSw; (try dsimp only at hSw); go_simp; all_goals with_reducible rfl
 try simp only [sA, gA]
 refine' wkt (i := 7) (v := ?v7r0) rfl (Or.inl ⟨by rfl, ?hy7r0⟩) hHeld ?rest7r0
 case hy7r0 => intro w hSw; (try dsimp only at hSw); go_simp; all_goals with_reducible rfl
 try simp only [sA, gA]
 refine wpAnyK_ready (rs := [8]) (by kernel_rfl) (by simp) ?_
 refine AllReadyK.last rfl (fun K hK => ?_)
 go_simp
 refine hK.out _ _ ?_
 clear hK K
 try simp only [sA, gA]
 refine wpAnyK_done (by kernel_rfl) ?_ _
 clear hHeld
 go_wp2_with fail
 refine world_is (P := fun W => Code.wp _ _ _ _ W) (fun W1 hW1 => ?_)
 have hB1 : Blk W1 g t ((S0.set a (wadd x0 y0)).map u32v).toArray := by rw [<- hW1]; exact blkW_set HB0.out a (wadd x0 y0)
 have hG1 : W0.grownBy W1 (some g) := by rw [<- hW1]; exact grown_tr HG0.out (grown_tr (grown_set' W0 g a (u32v (wadd x0 y0))) (grown_drew' _ _))
 clear hW1
 have hn0 : S0.set a (wadd x0 y0) = stAdd S0 a b := by rw [<- hx0, <- hy0]; rfl
 rw [hn0] at hB1
 have hl1 : Hid ((stAdd S0 a b).length = 16) := by unfold Hid; rw [stAdd_len]; exact hl0.out
 obtain ⟨S1, hS1⟩ : ∃ S, stAdd S0 a b = S := ⟨_, rfl⟩
 rw [hS1] at hB1 hl1
 have HB1 := Lib.hid hB1
 have HG1 := Lib.hid hG1
 have HS1 := Lib.hid hS1
 clear p0 q0 f0 hx0 hy0 hB1 hG1 hS1 hn0 HB0 HG0 hl0
 obtain ⟨x1, hx1⟩ : ∃ x, S1.getD d 0 = x := ⟨_, rfl⟩
 obtain ⟨y1, hy1⟩ : ∃ y, S1.getD a 0 = y := ⟨_, rfl⟩
 have p1 : W1.cell? ⟨g, d, none⟩ = some (u32v x1) := by rw [<- hx1]; exact blkW_cell HB1.out (by rw [hl1.out]; exact hd.out)
 have q1 : W1.cell? ⟨g, a, none⟩ = some (u32v y1) := by rw [<- hy1]; exact blkW_cell HB1.out (by rw [hl1.out]; exact ha.out)
 have f1 := HB1.out.frozen d
 refine wp_region_last (S := (fun w' => w'.cell? ⟨g, d, none⟩ = some (u32v x1) /\ w'.cell? ⟨g, a, none⟩ = some (u32v y1))) 10 (by kernel_rfl) ⟨p1, q1⟩ (fun hHeld => ?_)
 refine' wkt (i := 0) (v := ?v0r1) rfl (Or.inl ⟨by rfl, ?hy0r1⟩) hHeld ?rest0r1
 case hy0r1 => intro w hSw; (try dsimp only at hSw); go_simp; all_goals with_reducible rfl
 try simp only [sA, gA]
 refine' wkt (i := 1) (v := ?v1r1) rfl (Or.inl ⟨by rfl, ?hy1r1⟩) hHeld ?rest1r1
 case hy1r1 => intro w hSw; (try dsimp only at hSw); go_simp; all_goals with_reducible rfl
 try simp only [sA, gA]
 refine' wkt (i := 2) (v := ?v2r1) rfl (Or.inl ⟨by rfl, ?hy2r1⟩) hHeld ?rest2r1
 case hy2r1 => intro w hSw; (try dsimp only at hSw); go_simp; all_goals with_reducible rfl
 try simp only [sA, gA]
 refine' wkt (i := 3) (v := ?v3r1) rfl (Or.inl ⟨by rfl, ?hy3r1⟩) hHeld ?rest3r1
 case hy3r1 => intro w hSw; (try dsimp only at hSw); go_simp; all_goals with_reducible rfl
 try simp only [sA, gA]
 refine' wkt (i := 4) (v := ?v4r1) rfl (Or.inl ⟨by rfl, ?hy4r1⟩) hHeld ?rest4r1
 case hy4r1 => intro w hSw; (try dsimp only at hSw); go_simp; all_goals with_reducible rfl
 try simp only [sA, gA]
 refine' wkt (i := 5) (v := ?v5r1) rfl (Or.inl ⟨by rfl, ?hy5r1⟩) hHeld ?rest5r1
 case hy5r1 => intro w hSw; (try dsimp only at hSw); go_simp; all_goals with_reducible rfl
 try simp only [sA, gA]
 refine' wkt (i := 6) (v := ?v6r1) rfl (Or.inl ⟨by rfl, ?hy6r1⟩) hHeld ?rest6r1
 case hy6r1 => intro w hSw; (try dsimp only at hSw); go_simp; all_goals with_reducible rfl
 try simp only [sA, gA]
 refine' wkt (i := 7) (v := ?v7r1) rfl (Or.inl ⟨by rfl, ?hy7r1⟩) hHeld ?rest7r1
 case hy7r1 => intro w hSw; (try dsimp only at hSw); go_simp; all_goals with_reducible rfl
 try simp only [sA, gA]
 refine wpAnyK_ready (rs := [8]) (by kernel_rfl) (by simp) ?_
 refine AllReadyK.cons rfl (fun K hK => ?_) AllReadyK.nil
 go_simp
 go_at_call 171
 refine (rot_any _ (wxor x1 y1) 16 16 (by decide) (by decide) (by decide)).mono ?_
 rintro e w9 ⟨rfl, rfl⟩
 go_wp2_with fail
 refine hK.out _ _ ?_ (fun hHeld2 => ?_)
 ·exact ⟨p1, q1⟩
 clear hK K hHeld
 have hHeld := hHeld2
 clear hHeld2
 try simp only [sA, gA]
 refine' wkt (i := 9) (v := ?v9r1) rfl (Or.inl ⟨by rfl, ?hy9r1⟩) hHeld ?rest9r1
 case hy9r1 => intro w hSw; (try dsimp only at hSw); go_simp; all_goals with_reducible rfl
 try simp only [sA, gA]
 refine wpAnyK_ready (rs := [10]) (by kernel_rfl) (by simp) ?_
 refine AllReadyK.last rfl (fun K hK => ?_)
 go_simp
 refine hK.out _ _ ?_
 clear hK K
 try simp only [sA, gA]
 refine wpAnyK_done (by kernel_rfl) ?_ _
 clear hHeld
 go_wp2_with fail
 refine world_is (P := fun W => Code.wp _ _ _ _ W) (fun W2 hW2 => ?_)
 have hB2 : Blk W2 g t ((S1.set d (rotl (wxor x1 y1) 16)).map u32v).toArray := by rw [<- hW2]; exact blkW_set HB1.out d (rotl (wxor x1 y1) 16)
 have hG2 : W0.grownBy W2 (some g) := by rw [<- hW2]; exact grown_tr HG1.out (grown_tr (grown_set' W1 g d (u32v (rotl (wxor x1 y1) 16))) (grown_drew' _ _))
 clear hW2
 have hn1 : S1.set d (rotl (wxor x1 y1) 16) = stRot S1 d a 16 := by rw [<- hx1, <- hy1]; rfl
 rw [hn1] at hB2
 have hl2 : Hid ((stRot S1 d a 16).length = 16) := by unfold Hid; rw [stRot_len]; exact hl1.out
 obtain ⟨S2, hS2⟩ : ∃ S, stRot S1 d a 16 = S := ⟨_, rfl⟩
 rw [hS2] at hB2 hl2
 have HB2 := Lib.hid hB2
 have HG2 := Lib.hid hG2
 have HS2 := Lib.hid hS2
 clear p1 q1 f1 hx1 hy1 hB2 hG2 hS2 hn1 HB1 HG1 hl1
 obtain ⟨x2, hx2⟩ : ∃ x, S2.getD c 0 = x := ⟨_, rfl⟩
 obtain ⟨y2, hy2⟩ : ∃ y, S2.getD d 0 = y := ⟨_, rfl⟩
 have p2 : W2.cell? ⟨g, c, none⟩ = some (u32v x2) := by rw [<- hx2]; exact blkW_cell HB2.out (by rw [hl2.out]; exact hc.out)
 have q2 : W2.cell? ⟨g, d, none⟩ = some (u32v y2) := by rw [<- hy2]; exact blkW_cell HB2.out (by rw [hl2.out]; exact hd.out)
 have f2 := HB2.out.frozen c
 refine wp_region_last (S := (fun w' => w'.cell? ⟨g, c, none⟩ = some (u32v x2) /\ w'.cell? ⟨g, d, none⟩ = some (u32v y2))) 8 (by kernel_rfl) ⟨p2, q2⟩ (fun hHeld => ?_)
 refine' wkt (i := 0) (v := ?v0r2) rfl (Or.inl ⟨by rfl, ?hy0r2⟩) hHeld ?rest0r2
 case hy0r2 => intro w hSw; (try dsimp only at hSw); go_simp; all_goals with_reducible rfl
 try simp only [sA, gA]
 refine' wkt (i := 1) (v := ?v1r2) rfl (Or.inl ⟨by rfl, ?hy1r2⟩) hHeld ?rest1r2
 case hy1r2 => intro w hSw; (try dsimp only at hSw); go_simp; all_goals with_reducible rfl
 try simp only [sA, gA]
 refine' wkt (i := 2) (v := ?v2r2) rfl (Or.inl ⟨by rfl, ?hy2r2⟩) hHeld ?rest2r2
 case hy2r2 => intro w hSw; (try dsimp only at hSw); go_simp; all_goals with_reducible rfl
 try simp only [sA, gA]
 refine' wkt (i := 3) (v := ?v3r2) rfl (Or.inl ⟨by rfl, ?hy3r2⟩) hHeld ?rest3r2
 case hy3r2 => intro w hSw; (try dsimp only at hSw); go_simp; all_goals with_reducible rfl
 try simp only [sA, gA]
 refine' wkt (i := 4) (v := ?v4r2) rfl (Or.inl ⟨by rfl, ?hy4r2⟩) hHeld ?rest4r2
 case hy4r2 => intro w hSw; (try dsimp only at hSw); go_simp; all_goals with_reducible rfl
 try simp only [sA, gA]
 refine' wkt (i := 5) (v := ?v5r2) rfl (Or.inl ⟨by rfl, ?hy5r2⟩) hHeld ?rest5r2
 case hy5r2 => intro w hSw; (try dsimp only at hSw); go_simp; all_goals with_reducible rfl
 try simp only [sA, gA]
 refine' wkt (i := 6) (v := ?v6r2) rfl (Or.inl ⟨by rfl, ?hy6r2⟩) hHeld ?rest6r2
 case hy6r2 => intro w hSw; (try dsimp only at hSw); go_simp; all_goals with_reducible rfl
 try simp only [sA, gA]
 refine' wkt (i := 7) (v := ?v7r2) rfl (Or.inl ⟨by rfl, ?hy7r2⟩) hHeld ?rest7r2
 case hy7r2 => intro w hSw; (try dsimp only at hSw); go_simp; all_goals with_reducible rfl
 try simp only [sA, gA]
 refine wpAnyK_ready (rs := [8]) (by kernel_rfl) (by simp) ?_
 refine AllReadyK.last rfl (fun K hK => ?_)
 go_simp
 refine hK.out _ _ ?_
 clear hK K
 try simp only [sA, gA]
 refine wpAnyK_done (by kernel_rfl) ?_ _
 clear hHeld
 go_wp2_with fail
 refine world_is (P := fun W => Code.wp _ _ _ _ W) (fun W3 hW3 => ?_)
 have hB3 : Blk W3 g t ((S2.set c (wadd x2 y2)).map u32v).toArray := by rw [<- hW3]; exact blkW_set HB2.out c (wadd x2 y2)
 have hG3 : W0.grownBy W3 (some g) := by rw [<- hW3]; exact grown_tr HG2.out (grown_tr (grown_set' W2 g c (u32v (wadd x2 y2))) (grown_drew' _ _))
 clear hW3
 have hn2 : S2.set c (wadd x2 y2) = stAdd S2 c d := by rw [<- hx2, <- hy2]; rfl
 rw [hn2] at hB3
 have hl3 : Hid ((stAdd S2 c d).length = 16) := by unfold Hid; rw [stAdd_len]; exact hl2.out
 obtain ⟨S3, hS3⟩ : ∃ S, stAdd S2 c d = S := ⟨_, rfl⟩
 rw [hS3] at hB3 hl3
 have HB3 := Lib.hid hB3
 have HG3 := Lib.hid hG3
 have HS3 := Lib.hid hS3
 clear p2 q2 f2 hx2 hy2 hB3 hG3 hS3 hn2 HB2 HG2 hl2
 obtain ⟨x3, hx3⟩ : ∃ x, S3.getD b 0 = x := ⟨_, rfl⟩
 obtain ⟨y3, hy3⟩ : ∃ y, S3.getD c 0 = y := ⟨_, rfl⟩
 have p3 : W3.cell? ⟨g, b, none⟩ = some (u32v x3) := by rw [<- hx3]; exact blkW_cell HB3.out (by rw [hl3.out]; exact hb.out)
 have q3 : W3.cell? ⟨g, c, none⟩ = some (u32v y3) := by rw [<- hy3]; exact blkW_cell HB3.out (by rw [hl3.out]; exact hc.out)
 have f3 := HB3.out.frozen b
 refine wp_region_last (S := (fun w' => w'.cell? ⟨g, b, none⟩ = some (u32v x3) /\ w'.cell? ⟨g, c, none⟩ = some (u32v y3))) 10 (by kernel_rfl) ⟨p3, q3⟩ (fun hHeld => ?_)
 refine' wkt (i := 0) (v := ?v0r3) rfl (Or.inl ⟨by rfl, ?hy0r3⟩) hHeld ?rest0r3
 case hy0r3 => intro w hSw; (try dsimp only at hSw); go_simp; all_goals with_reducible rfl
 try simp only [sA, gA]
 refine' wkt (i := 1) (v := ?v1r3) rfl (Or.inl ⟨by rfl, ?hy1r3⟩) hHeld ?rest1r3
 case hy1r3 => intro w hSw; (try dsimp only at hSw); go_simp; all_goals with_reducible rfl
 try simp only [sA, gA]
 refine' wkt (i := 2) (v := ?v2r3) rfl (Or.inl ⟨by rfl, ?hy2r3⟩) hHeld ?rest2r3
 case hy2r3 => intro w hSw; (try dsimp only at hSw); go_simp; all_goals with_reducible rfl
 try simp only [sA, gA]
 refine' wkt (i := 3) (v := ?v3r3) rfl (Or.inl ⟨by rfl, ?hy3r3⟩) hHeld ?rest3r3
 case hy3r3 => intro w hSw; (try dsimp only at hSw); go_simp; all_goals with_reducible rfl
 try simp only [sA, gA]
 refine' wkt (i := 4) (v := ?v4r3) rfl (Or.inl ⟨by rfl, ?hy4r3⟩) hHeld ?rest4r3
 case hy4r3 => intro w hSw; (try dsimp only at hSw); go_simp; all_goals with_reducible rfl
 try simp only [sA, gA]
 refine' wkt (i := 5) (v := ?v5r3) rfl (Or.inl ⟨by rfl, ?hy5r3⟩) hHeld ?rest5r3
 case hy5r3 => intro w hSw; (try dsimp only at hSw); go_simp; all_goals with_reducible rfl
 try simp only [sA, gA]
 refine' wkt (i := 6) (v := ?v6r3) rfl (Or.inl ⟨by rfl, ?hy6r3⟩) hHeld ?rest6r3
 case hy6r3 => intro w hSw; (try dsimp only at hSw); go_simp; all_goals with_reducible rfl
 try simp only [sA, gA]
 refine' wkt (i := 7) (v := ?v7r3) rfl (Or.inl ⟨by rfl, ?hy7r3⟩) hHeld ?rest7r3
 case hy7r3 => intro w hSw; (try dsimp only at hSw); go_simp; all_goals with_reducible rfl
 try simp only [sA, gA]
 refine wpAnyK_ready (rs := [8]) (by kernel_rfl) (by simp) ?_
 refine AllReadyK.cons rfl (fun K hK => ?_) AllReadyK.nil
 go_simp
 go_at_call 171
 refine (rot_any _ (wxor x3 y3) 12 12 (by decide) (by decide) (by decide)).mono ?_
 rintro e w9 ⟨rfl, rfl⟩
 go_wp2_with fail
 refine hK.out _ _ ?_ (fun hHeld2 => ?_)
 ·exact ⟨p3, q3⟩
 clear hK K hHeld
 have hHeld := hHeld2
 clear hHeld2
 try simp only [sA, gA]
 refine' wkt (i := 9) (v := ?v9r3) rfl (Or.inl ⟨by rfl, ?hy9r3⟩) hHeld ?rest9r3
 case hy9r3 => intro w hSw; (try dsimp only at hSw); go_simp; all_goals with_reducible rfl
 try simp only [sA, gA]
 refine wpAnyK_ready (rs := [10]) (by kernel_rfl) (by simp) ?_
 refine AllReadyK.last rfl (fun K hK => ?_)
 go_simp
 refine hK.out _ _ ?_
 clear hK K
 try simp only [sA, gA]
 refine wpAnyK_done (by kernel_rfl) ?_ _
 clear hHeld
 go_wp2_with fail
 refine world_is (P := fun W => Code.wp _ _ _ _ W) (fun W4 hW4 => ?_)
 have hB4 : Blk W4 g t ((S3.set b (rotl (wxor x3 y3) 12)).map u32v).toArray := by rw [<- hW4]; exact blkW_set HB3.out b (rotl (wxor x3 y3) 12)
 have hG4 : W0.grownBy W4 (some g) := by rw [<- hW4]; exact grown_tr HG3.out (grown_tr (grown_set' W3 g b (u32v (rotl (wxor x3 y3) 12))) (grown_drew' _ _))
 clear hW4
 have hn3 : S3.set b (rotl (wxor x3 y3) 12) = stRot S3 b c 12 := by rw [<- hx3, <- hy3]; rfl
 rw [hn3] at hB4
 have hl4 : Hid ((stRot S3 b c 12).length = 16) := by unfold Hid; rw [stRot_len]; exact hl3.out
 obtain ⟨S4, hS4⟩ : ∃ S, stRot S3 b c 12 = S := ⟨_, rfl⟩
 rw [hS4] at hB4 hl4
 have HB4 := Lib.hid hB4
 have HG4 := Lib.hid hG4
 have HS4 := Lib.hid hS4
 clear p3 q3 f3 hx3 hy3 hB4 hG4 hS4 hn3 HB3 HG3 hl3
 obtain ⟨x4, hx4⟩ : ∃ x, S4.getD a 0 = x := ⟨_, rfl⟩
 obtain ⟨y4, hy4⟩ : ∃ y, S4.getD b 0 = y := ⟨_, rfl⟩
 have p4 : W4.cell? ⟨g, a, none⟩ = some (u32v x4) := by rw [<- hx4]; exact blkW_cell HB4.out (by rw [hl4.out]; exact ha.out)
 have q4 : W4.cell? ⟨g, b, none⟩ = some (u32v y4) := by rw [<- hy4]; exact blkW_cell HB4.out (by rw [hl4.out]; exact hb.out)
 have f4 := HB4.out.frozen a
 refine wp_region_last (S := (fun w' => w'.cell? ⟨g, a, none⟩ = some (u32v x4) /\ w'.cell? ⟨g, b, none⟩ = some (u32v y4))) 8 (by kernel_rfl) ⟨p4, q4⟩ (fun hHeld => ?_)
 refine' wkt (i := 0) (v := ?v0r4) rfl (Or.inl ⟨by rfl, ?hy0r4⟩) hHeld ?rest0r4
 case hy0r4 => intro w hSw; (try dsimp only at hSw); go_simp; all_goals with_reducible rfl
 try simp only [sA, gA]
 refine' wkt (i := 1) (v := ?v1r4) rfl (Or.inl ⟨by rfl, ?hy1r4⟩) hHeld ?rest1r4
 case hy1r4 => intro w hSw; (try dsimp only at hSw); go_simp; all_goals with_reducible rfl
 try simp only [sA, gA]
 refine' wkt (i := 2) (v := ?v2r4) rfl (Or.inl ⟨by rfl, ?hy2r4⟩) hHeld ?rest2r4
 case hy2r4 => intro w hSw; (try dsimp only at hSw); go_simp; all_goals with_reducible rfl
 try simp only [sA, gA]
 refine' wkt (i := 3) (v := ?v3r4) rfl (Or.inl ⟨by rfl, ?hy3r4⟩) hHeld ?rest3r4
 case hy3r4 => intro w hSw; (try dsimp only at hSw); go_simp; all_goals with_reducible rfl
 try simp only [sA, gA]
 refine' wkt (i := 4) (v := ?v4r4) rfl (Or.inl ⟨by rfl, ?hy4r4⟩) hHeld ?rest4r4
 case hy4r4 => intro w hSw; (try dsimp only at hSw); go_simp; all_goals with_reducible rfl
 try simp only [sA, gA]
 refine' wkt (i := 5) (v := ?v5r4) rfl (Or.inl ⟨by rfl, ?hy5r4⟩) hHeld ?rest5r4
 case hy5r4 => intro w hSw; (try dsimp only at hSw); go_simp; all_goals with_reducible rfl
 try simp only [sA, gA]
 refine' wkt (i := 6) (v := ?v6r4) rfl (Or.inl ⟨by rfl, ?hy6r4⟩) hHeld ?rest6r4
 case hy6r4 => intro w hSw; (try dsimp only at hSw); go_simp; all_goals with_reducible rfl
 try simp only [sA, gA]
 refine' wkt (i := 7) (v := ?v7r4) rfl (Or.inl ⟨by rfl, ?hy7r4⟩) hHeld ?rest7r4
 case hy7r4 => intro w hSw; (try dsimp only at hSw); go_simp; all_goals with_reducible rfl
 try simp only [sA, gA]
 refine wpAnyK_ready (rs := [8]) (by kernel_rfl) (by simp) ?_
 refine AllReadyK.last rfl (fun K hK => ?_)
 go_simp
 refine hK.out _ _ ?_
 clear hK K
 try simp only [sA, gA]
 refine wpAnyK_done (by kernel_rfl) ?_ _
 clear hHeld
 go_wp2_with fail
 refine world_is (P := fun W => Code.wp _ _ _ _ W) (fun W5 hW5 => ?_)
 have hB5 : Blk W5 g t ((S4.set a (wadd x4 y4)).map u32v).toArray := by rw [<- hW5]; exact blkW_set HB4.out a (wadd x4 y4)
 have hG5 : W0.grownBy W5 (some g) := by rw [<- hW5]; exact grown_tr HG4.out (grown_tr (grown_set' W4 g a (u32v (wadd x4 y4))) (grown_drew' _ _))
 clear hW5
 have hn4 : S4.set a (wadd x4 y4) = stAdd S4 a b := by rw [<- hx4, <- hy4]; rfl
 rw [hn4] at hB5
 have hl5 : Hid ((stAdd S4 a b).length = 16) := by unfold Hid; rw [stAdd_len]; exact hl4.out
 obtain ⟨S5, hS5⟩ : ∃ S, stAdd S4 a b = S := ⟨_, rfl⟩
 rw [hS5] at hB5 hl5
 have HB5 := Lib.hid hB5
 have HG5 := Lib.hid hG5
 have HS5 := Lib.hid hS5
 clear p4 q4 f4 hx4 hy4 hB5 hG5 hS5 hn4 HB4 HG4 hl4
 obtain ⟨x5, hx5⟩ : ∃ x, S5.getD d 0 = x := ⟨_, rfl⟩
 obtain ⟨y5, hy5⟩ : ∃ y, S5.getD a 0 = y := ⟨_, rfl⟩
 have p5 : W5.cell? ⟨g, d, none⟩ = some (u32v x5) := by rw [<- hx5]; exact blkW_cell HB5.out (by rw [hl5.out]; exact hd.out)
 have q5 : W5.cell? ⟨g, a, none⟩ = some (u32v y5) := by rw [<- hy5]; exact blkW_cell HB5.out (by rw [hl5.out]; exact ha.out)
 have f5 := HB5.out.frozen d
 refine wp_region_last (S := (fun w' => w'.cell? ⟨g, d, none⟩ = some (u32v x5) /\ w'.cell? ⟨g, a, none⟩ = some (u32v y5))) 10 (by kernel_rfl) ⟨p5, q5⟩ (fun hHeld => ?_)
 refine' wkt (i := 0) (v := ?v0r5) rfl (Or.inl ⟨by rfl, ?hy0r5⟩) hHeld ?rest0r5
 case hy0r5 => intro w hSw; (try dsimp only at hSw); go_simp; all_goals with_reducible rfl
 try simp only [sA, gA]
 refine' wkt (i := 1) (v := ?v1r5) rfl (Or.inl ⟨by rfl, ?hy1r5⟩) hHeld ?rest1r5
 case hy1r5 => intro w hSw; (try dsimp only at hSw); go_simp; all_goals with_reducible rfl
 try simp only [sA, gA]
 refine' wkt (i := 2) (v := ?v2r5) rfl (Or.inl ⟨by rfl, ?hy2r5⟩) hHeld ?rest2r5
 case hy2r5 => intro w hSw; (try dsimp only at hSw); go_simp; all_goals with_reducible rfl
 try simp only [sA, gA]
 refine' wkt (i := 3) (v := ?v3r5) rfl (Or.inl ⟨by rfl, ?hy3r5⟩) hHeld ?rest3r5
 case hy3r5 => intro w hSw; (try dsimp only at hSw); go_simp; all_goals with_reducible rfl
 try simp only [sA, gA]
 refine' wkt (i := 4) (v := ?v4r5) rfl (Or.inl ⟨by rfl, ?hy4r5⟩) hHeld ?rest4r5
 case hy4r5 => intro w hSw; (try dsimp only at hSw); go_simp; all_goals with_reducible rfl
 try simp only [sA, gA]
 refine' wkt (i := 5) (v := ?v5r5) rfl (Or.inl ⟨by rfl, ?hy5r5⟩) hHeld ?rest5r5
 case hy5r5 => intro w hSw; (try dsimp only at hSw); go_simp; all_goals with_reducible rfl
 try simp only [sA, gA]
 refine' wkt (i := 6) (v := ?v6r5) rfl (Or.inl ⟨by rfl, ?hy6r5⟩) hHeld ?rest6r5
 case hy6r5 => intro w hSw; (try dsimp only at hSw); go_simp; all_goals with_reducible rfl
 try simp only [sA, gA]
 refine' wkt (i := 7) (v := ?v7r5) rfl (Or.inl ⟨by rfl, ?hy7r5⟩) hHeld ?rest7r5
 case hy7r5 => intro w hSw; (try dsimp only at hSw); go_simp; all_goals with_reducible rfl
 try simp only [sA, gA]
 refine wpAnyK_ready (rs := [8]) (by kernel_rfl) (by simp) ?_
 refine AllReadyK.cons rfl (fun K hK => ?_) AllReadyK.nil
 go_simp
 go_at_call 171
 refine (rot_any _ (wxor x5 y5) 8 8 (by decide) (by decide) (by decide)).mono ?_
 rintro e w9 ⟨rfl, rfl⟩
 go_wp2_with fail
 refine hK.out _ _ ?_ (fun hHeld2 => ?_)
 ·exact ⟨p5, q5⟩
 clear hK K hHeld
 have hHeld := hHeld2
 clear hHeld2
 try simp only [sA, gA]
 refine' wkt (i := 9) (v := ?v9r5) rfl (Or.inl ⟨by rfl, ?hy9r5⟩) hHeld ?rest9r5
 case hy9r5 => intro w hSw; (try dsimp only at hSw); go_simp; all_goals with_reducible rfl
 try simp only [sA, gA]
 refine wpAnyK_ready (rs := [10]) (by kernel_rfl) (by simp) ?_
 refine AllReadyK.last rfl (fun K hK => ?_)
 go_simp
 refine hK.out _ _ ?_
 clear hK K
 try simp only [sA, gA]
 refine wpAnyK_done (by kernel_rfl) ?_ _
 clear hHeld
 go_wp2_with fail
 refine world_is (P := fun W => Code.wp _ _ _ _ W) (fun W6 hW6 => ?_)
 have hB6 : Blk W6 g t ((S5.set d (rotl (wxor x5 y5) 8)).map u32v).toArray := by rw [<- hW6]; exact blkW_set HB5.out d (rotl (wxor x5 y5) 8)
 have hG6 : W0.grownBy W6 (some g) := by rw [<- hW6]; exact grown_tr HG5.out (grown_tr (grown_set' W5 g d (u32v (rotl (wxor x5 y5) 8))) (grown_drew' _ _))
 clear hW6
 have hn5 : S5.set d (rotl (wxor x5 y5) 8) = stRot S5 d a 8 := by rw [<- hx5, <- hy5]; rfl
 rw [hn5] at hB6
 have hl6 : Hid ((stRot S5 d a 8).length = 16) := by unfold Hid; rw [stRot_len]; exact hl5.out
 obtain ⟨S6, hS6⟩ : ∃ S, stRot S5 d a 8 = S := ⟨_, rfl⟩
 rw [hS6] at hB6 hl6
 have HB6 := Lib.hid hB6
 have HG6 := Lib.hid hG6
 have HS6 := Lib.hid hS6
 clear p5 q5 f5 hx5 hy5 hB6 hG6 hS6 hn5 HB5 HG5 hl5
 obtain ⟨x6, hx6⟩ : ∃ x, S6.getD c 0 = x := ⟨_, rfl⟩
 obtain ⟨y6, hy6⟩ : ∃ y, S6.getD d 0 = y := ⟨_, rfl⟩
 have p6 : W6.cell? ⟨g, c, none⟩ = some (u32v x6) := by rw [<- hx6]; exact blkW_cell HB6.out (by rw [hl6.out]; exact hc.out)
 have q6 : W6.cell? ⟨g, d, none⟩ = some (u32v y6) := by rw [<- hy6]; exact blkW_cell HB6.out (by rw [hl6.out]; exact hd.out)
 have f6 := HB6.out.frozen c
 refine wp_region_last (S := (fun w' => w'.cell? ⟨g, c, none⟩ = some (u32v x6) /\ w'.cell? ⟨g, d, none⟩ = some (u32v y6))) 8 (by kernel_rfl) ⟨p6, q6⟩ (fun hHeld => ?_)
 refine' wkt (i := 0) (v := ?v0r6) rfl (Or.inl ⟨by rfl, ?hy0r6⟩) hHeld ?rest0r6
 case hy0r6 => intro w hSw; (try dsimp only at hSw); go_simp; all_goals with_reducible rfl
 try simp only [sA, gA]
 refine' wkt (i := 1) (v := ?v1r6) rfl (Or.inl ⟨by rfl, ?hy1r6⟩) hHeld ?rest1r6
 case hy1r6 => intro w hSw; (try dsimp only at hSw); go_simp; all_goals with_reducible rfl
 try simp only [sA, gA]
 refine' wkt (i := 2) (v := ?v2r6) rfl (Or.inl ⟨by rfl, ?hy2r6⟩) hHeld ?rest2r6
 case hy2r6 => intro w hSw; (try dsimp only at hSw); go_simp; all_goals with_reducible rfl
 try simp only [sA, gA]
 refine' wkt (i := 3) (v := ?v3r6) rfl (Or.inl ⟨by rfl, ?hy3r6⟩) hHeld ?rest3r6
 case hy3r6 => intro w hSw; (try dsimp only at hSw); go_simp; all_goals with_reducible rfl
 try simp only [sA, gA]
 refine' wkt (i := 4) (v := ?v4r6) rfl (Or.inl ⟨by rfl, ?hy4r6⟩) hHeld ?rest4r6
 case hy4r6 => intro w hSw; (try dsimp only at hSw); go_simp; all_goals with_reducible rfl
 try simp only [sA, gA]
 refine' wkt (i := 5) (v := ?v5r6) rfl (Or.inl ⟨by rfl, ?hy5r6⟩) hHeld ?rest5r6
 case hy5r6 => intro w hSw; (try dsimp only at hSw); go_simp; all_goals with_reducible rfl
 try simp only [sA, gA]
 refine' wkt (i := 6) (v := ?v6r6) rfl (Or.inl ⟨by rfl, ?hy6r6⟩) hHeld ?rest6r6
 case hy6r6 => intro w hSw; (try dsimp only at hSw); go_simp; all_goals with_reducible rfl
 try simp only [sA, gA]
 refine' wkt (i := 7) (v := ?v7r6) rfl (Or.inl ⟨by rfl, ?hy7r6⟩) hHeld ?rest7r6
 case hy7r6 => intro w hSw; (try dsimp only at hSw); go_simp; all_goals with_reducible rfl
 try simp only [sA, gA]
 refine wpAnyK_ready (rs := [8]) (by kernel_rfl) (by simp) ?_
 refine AllReadyK.last rfl (fun K hK => ?_)
 go_simp
 refine hK.out _ _ ?_
 clear hK K
 try simp only [sA, gA]
 refine wpAnyK_done (by kernel_rfl) ?_ _
 clear hHeld
 go_wp2_with fail
 refine world_is (P := fun W => Code.wp _ _ _ _ W) (fun W7 hW7 => ?_)
 have hB7 : Blk W7 g t ((S6.set c (wadd x6 y6)).map u32v).toArray := by rw [<- hW7]; exact blkW_set HB6.out c (wadd x6 y6)
 have hG7 : W0.grownBy W7 (some g) := by rw [<- hW7]; exact grown_tr HG6.out (grown_tr (grown_set' W6 g c (u32v (wadd x6 y6))) (grown_drew' _ _))
 clear hW7
 have hn6 : S6.set c (wadd x6 y6) = stAdd S6 c d := by rw [<- hx6, <- hy6]; rfl
 rw [hn6] at hB7
 have hl7 : Hid ((stAdd S6 c d).length = 16) := by unfold Hid; rw [stAdd_len]; exact hl6.out
 obtain ⟨S7, hS7⟩ : ∃ S, stAdd S6 c d = S := ⟨_, rfl⟩
 rw [hS7] at hB7 hl7
 have HB7 := Lib.hid hB7
 have HG7 := Lib.hid hG7
 have HS7 := Lib.hid hS7
 clear p6 q6 f6 hx6 hy6 hB7 hG7 hS7 hn6 HB6 HG6 hl6
 obtain ⟨x7, hx7⟩ : ∃ x, S7.getD b 0 = x := ⟨_, rfl⟩
 obtain ⟨y7, hy7⟩ : ∃ y, S7.getD c 0 = y := ⟨_, rfl⟩
 have p7 : W7.cell? ⟨g, b, none⟩ = some (u32v x7) := by rw [<- hx7]; exact blkW_cell HB7.out (by rw [hl7.out]; exact hb.out)
 have q7 : W7.cell? ⟨g, c, none⟩ = some (u32v y7) := by rw [<- hy7]; exact blkW_cell HB7.out (by rw [hl7.out]; exact hc.out)
 have f7 := HB7.out.frozen b
 refine wp_region_last (S := (fun w' => w'.cell? ⟨g, b, none⟩ = some (u32v x7) /\ w'.cell? ⟨g, c, none⟩ = some (u32v y7))) 10 (by kernel_rfl) ⟨p7, q7⟩ (fun hHeld => ?_)
 refine' wkt (i := 0) (v := ?v0r7) rfl (Or.inl ⟨by rfl, ?hy0r7⟩) hHeld ?rest0r7
 case hy0r7 => intro w hSw; (try dsimp only at hSw); go_simp; all_goals with_reducible rfl
 try simp only [sA, gA]
 refine' wkt (i := 1) (v := ?v1r7) rfl (Or.inl ⟨by rfl, ?hy1r7⟩) hHeld ?rest1r7
 case hy1r7 => intro w hSw; (try dsimp only at hSw); go_simp; all_goals with_reducible rfl
 try simp only [sA, gA]
 refine' wkt (i := 2) (v := ?v2r7) rfl (Or.inl ⟨by rfl, ?hy2r7⟩) hHeld ?rest2r7
 case hy2r7 => intro w hSw; (try dsimp only at hSw); go_simp; all_goals with_reducible rfl
 try simp only [sA, gA]
 refine' wkt (i := 3) (v := ?v3r7) rfl (Or.inl ⟨by rfl, ?hy3r7⟩) hHeld ?rest3r7
 case hy3r7 => intro w hSw; (try dsimp only at hSw); go_simp; all_goals with_reducible rfl
 try simp only [sA, gA]
 refine' wkt (i := 4) (v := ?v4r7) rfl (Or.inl ⟨by rfl, ?hy4r7⟩) hHeld ?rest4r7
 case hy4r7 => intro w hSw; (try dsimp only at hSw); go_simp; all_goals with_reducible rfl
 try simp only [sA, gA]
 refine' wkt (i := 5) (v := ?v5r7) rfl (Or.inl ⟨by rfl, ?hy5r7⟩) hHeld ?rest5r7
 case hy5r7 => intro w hSw; (try dsimp only at hSw); go_simp; all_goals with_reducible rfl
 try simp only [sA, gA]
 refine' wkt (i := 6) (v := ?v6r7) rfl (Or.inl ⟨by rfl, ?hy6r7⟩) hHeld ?rest6r7
 case hy6r7 => intro w hSw; (try dsimp only at hSw); go_simp; all_goals with_reducible rfl
 try simp only [sA, gA]
 refine' wkt (i := 7) (v := ?v7r7) rfl (Or.inl ⟨by rfl, ?hy7r7⟩) hHeld ?rest7r7
 case hy7r7 => intro w hSw; (try dsimp only at hSw); go_simp; all_goals with_reducible rfl
 try simp only [sA, gA]
 refine wpAnyK_ready (rs := [8]) (by kernel_rfl) (by simp) ?_
 refine AllReadyK.cons rfl (fun K hK => ?_) AllReadyK.nil
 go_simp
 go_at_call 171
 refine (rot_any _ (wxor x7 y7) 7 7 (by decide) (by decide) (by decide)).mono ?_
 rintro e w9 ⟨rfl, rfl⟩
 go_wp2_with fail
 refine hK.out _ _ ?_ (fun hHeld2 => ?_)
 ·exact ⟨p7, q7⟩
 clear hK K hHeld
 have hHeld := hHeld2
 clear hHeld2
 try simp only [sA, gA]
 refine' wkt (i := 9) (v := ?v9r7) rfl (Or.inl ⟨by rfl, ?hy9r7⟩) hHeld ?rest9r7
 case hy9r7 => intro w hSw; (try dsimp only at hSw); go_simp; all_goals with_reducible rfl
 try simp only [sA, gA]
 refine wpAnyK_ready (rs := [10]) (by kernel_rfl) (by simp) ?_
 refine AllReadyK.last rfl (fun K hK => ?_)
 go_simp
 refine hK.out _ _ ?_
 clear hK K
 try simp only [sA, gA]
 refine wpAnyK_done (by kernel_rfl) ?_ _
 clear hHeld
 go_wp2_with fail
 refine world_is (P := fun W => bodyPost _ _ _ _ _ W) (fun W8 hW8 => ?_)
 have hB8 : Blk W8 g t ((S7.set b (rotl (wxor x7 y7) 7)).map u32v).toArray := by rw [<- hW8]; exact blkW_set HB7.out b (rotl (wxor x7 y7) 7)
 have hG8 : W0.grownBy W8 (some g) := by rw [<- hW8]; exact grown_tr HG7.out (grown_tr (grown_set' W7 g b (u32v (rotl (wxor x7 y7) 7))) (grown_drew' _ _))
 clear hW8
 have hn7 : S7.set b (rotl (wxor x7 y7) 7) = stRot S7 b c 7 := by rw [<- hx7, <- hy7]; rfl
 rw [hn7] at hB8
 have hl8 : Hid ((stRot S7 b c 7).length = 16) := by unfold Hid; rw [stRot_len]; exact hl7.out
 obtain ⟨S8, hS8⟩ : ∃ S, stRot S7 b c 7 = S := ⟨_, rfl⟩
 rw [hS8] at hB8 hl8
 have HB8 := Lib.hid hB8
 have HG8 := Lib.hid hG8
 have HS8 := Lib.hid hS8
 clear p7 q7 f7 hx7 hy7 hB8 hG8 hS8 hn7 HB7 HG7 hl7
 go_end0
 refine ⟨rfl, ?_, HG8.out⟩
 have hq : qrt S0 a b c d = S8 := by
  unfold qrt
  rw [HS1.out, HS2.out, HS3.out, HS4.out, HS5.out, HS6.out, HS7.out, HS8.out]
 rw [hq]
 exact HB8.out
end Go.Proofs.YtpghocekofdpbaaGreatDoor
