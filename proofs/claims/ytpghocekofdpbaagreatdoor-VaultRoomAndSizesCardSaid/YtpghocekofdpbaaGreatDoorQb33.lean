import Derived.Test.YtpghocekofdpbaaGreatDoorQb24
import Derived.Test.YtpghocekofdpbaaGreatDoorQb25
import Derived.Test.YtpghocekofdpbaaGreatDoorQb32
import Derived.Test.YtpghocekofdpbaaGreatDoorQb03
import Derived.Test.YtpghocekofdpbaaGreatDoorQb26
import Derived.Test.YtpghocekofdpbaaGreatDoorQb00
import Derived.Test.YtpghocekofdpbaaGreatDoorQb28
namespace Go.Proofs.YtpghocekofdpbaaGreatDoor
theorem word4_eq (a b c d : UInt8) : word4 [a, b, c, d] = wor (wor (wor (wshl (w8 a) 24) (wshl (w8 b) 16)) (wshl (w8 c) 8)) (w8 d) := by
 unfold word4
 simp only [List.foldl_cons, List.foldl_nil]
 unfold wor wshl
 generalize w8 a = x
 generalize w8 b = y
 generalize w8 c = z
 generalize w8 d = u
 apply UInt32.toBitVec_inj.1
 simp only [UInt32.toBitVec_or, UInt32.toBitVec_shiftLeft]
 have e8 : ((UInt32.ofNat 8).toBitVec % 32).toNat = 8 := rfl
 have e16 : ((UInt32.ofNat 16).toBitVec % 32).toNat = 16 := rfl
 have e24 : ((UInt32.ofNat 24).toBitVec % 32).toNat = 24 := rfl
 have e0 : (0 : UInt32).toBitVec = 0#32 := rfl
 generalize x.toBitVec = p
 generalize y.toBitVec = q
 generalize z.toBitVec = r
 generalize u.toBitVec = s
 simp only [e0, BitVec.shiftLeft_eq', e8, e16, e24]
 apply BitVec.eq_of_getLsbD_eq
 intro i hi
 simp only [BitVec.getLsbD_or, BitVec.getLsbD_shiftLeft, BitVec.getLsbD_zero, hi, decide_true, Bool.true_and, Bool.and_false, Bool.false_or]
 by_cases h8 : i < 8
 ·have h16 : i < 16 := by omega
  have h24 : i < 24 := by omega
  simp [h8, h16, h24]
 ·by_cases h16 : i < 16
  ·have h24 : i < 24 := by omega
   have g : i - 8 < 8 := by omega
   have g32 : i - 8 < 32 := by omega
   simp [h8, h16, h24, g, g32]
  ·have g8 : ¬ i - 8 < 8 := by omega
   have g32 : i - 8 < 32 := by omega
   by_cases h24 : i < 24
   ·have g : i - 8 - 8 < 8 := by omega
    have f32 : i - 8 - 8 < 32 := by omega
    have m8 : i - 16 < 8 := by omega
    simp [h8, h16, h24, g8, g32, m8, Nat.sub_sub]
   ·have g : ¬ i - 8 - 8 < 8 := by omega
    have f32 : i - 8 - 8 < 32 := by omega
    have k32 : i - 8 - 8 - 8 < 32 := by omega
    have m8 : ¬ i - 16 < 8 := by omega
    have m32 : i - 16 < 32 := by omega
    simp [h8, h16, h24, g8, g32, m8, m32, Nat.sub_sub]
end Go.Proofs.YtpghocekofdpbaaGreatDoor
namespace Go.Proofs.YtpghocekofdpbaaGreatDoor
open Go.RowKit Go.Shelf
attribute [local go_sem] Oper.semAt_some w_xor w_or
theorem byte4 {b : List UInt8} (hl : b.length = 64) (t : Nat) (ht : t < 16) : ∃ x0 x1 x2 x3, b[4 * t]? = some x0 /\ b[4 * t + 1]? = some x1 /\ b[4 * t + 2]? = some x2 /\ b[4 * t + 3]? = some x3 /\ (b.drop (4 * t)).take 4 = [x0, x1, x2, x3] := by
 have g : ∀ k, k < 4 -> b[4 * t + k]? = some (b.getD (4 * t + k) 0) := fun k hk => by
  rw [List.getD_eq_getElem?_getD, List.getElem?_eq_getElem (by omega)]
  rfl
 refine ⟨_, _, _, _, g 0 (by decide), g 1 (by decide), g 2 (by decide), g 3 (by decide), ?_⟩
 apply List.ext_getElem?
 intro i
 rw [List.getElem?_take]
 by_cases hi : i < 4
 ·rw [if_pos hi, List.getElem?_drop, g i hi]
  match i, hi with
  | 0, _ => rfl
  | 1, _ => rfl
  | 2, _ => rfl
  | 3, _ => rfl
 ·rw [if_neg hi]
  match i, hi with
  | n + 4, _ => rfl
theorem shl_lit (a : UInt8) (s : Nat) (hs : s < 32) : ((w8 a).toNat : Int) * 2 ^ s % 4294967296 = ((wshl (w8 a) s).toNat : Int) := by
 have h := shl_eq (w8 a) s hs
 rw [Nat.min_eq_left (by omega)] at h
 exact h
set_option maxRecDepth 100000 in
set_option maxHeartbeats 1600000 in
theorem words_any (w : World) (bb bo c : Nat) (b : List UInt8) (hl : b.length = 64) (hb : BytesAt w bb bo b) :
  Calls Tryz.prog 113 #[.slice (some ⟨bb, bo, none⟩) 64 c] w fun e w' => e = .returned (.agg (schedV b).toArray) /\ Below w.heap.size w w' := by
 have hs1 : (w.alloc (.cells z64 166)).heap.size = w.heap.size + 1 := by simp
 have bk := Blk.new (w.alloc (.cells z64 166)) 166 z64
 rw [hs1] at bk
 have HR : Hid (Blk ((w.alloc (.cells z64 166)).alloc (.cells z64 166)) w.heap.size 166 z64) := (Blk.new w 166 z64).alloc _
 have HB : Hid (Below w.heap.size w ((w.alloc (.cells z64 166)).alloc (.cells z64 166))) := by
  have b1 := (Below.refl _ w).alloc (Nat.le_refl _) (.cells z64 166)
  exact b1.alloc b1.size _
 have HS : Hid (SchedAt ((w.alloc (.cells z64 166)).alloc (.cells z64 166)) (w.heap.size + 1) b 0 0) := ⟨_, bk, by rfl, fun j hj => by rw [z64_at j hj, if_neg (by omega)]; split <;> rfl⟩
 clear bk
 go_enter Tryz.func113, Tryz.ntmps113
 go_wp2_with fail
 have Hb := Lib.hid hb
 clear hb hs1
 go_loopw [4] (fun i wr => ∃ t : Nat, t <= 16 /\ i = .int .i64 t /\ Hid (SchedAt wr (w.heap.size + 1) b t 0) /\ Hid (∃ cs, Blk wr w.heap.size 166 cs /\ cs.size = 64) /\ Hid (Below w.heap.size w wr)) (fun i _ => 64 - (intOf i).toNat)
 case atStart => exact ⟨0, Nat.zero_le _, rfl, HS, ⟨_, HR.out, by rfl⟩, HB⟩
 case round =>
  clear HS HR HB
  obtain ⟨t, ht, rfl, hS, hR, hB⟩ := hrel
  by_cases h16 : t < 16
  ·have d16 : decide ((t : Int) < 16) = true := decide_eq_true (by omega)
   obtain ⟨x0, x1, x2, x3, q0, q1, q2, q3, q4⟩ := byte4 hl t h16
   have hbx := Hb.out.below hB.out
   have c0 := hbx.2 _ x0 q0
   have c1 := hbx.2 _ x1 q1
   have c2 := hbx.2 _ x2 q2
   have c3 := hbx.2 _ x3 q3
   have hw : Hid (sw b t = wor (wor (wor (wshl (w8 x0) 24) (wshl (w8 x1) 16)) (wshl (w8 x2) 8)) (w8 x3)) := by unfold Hid; rw [sw_low b t h16, q4, word4_eq]
   obtain ⟨yt, ft⟩ := schedAt_cell hS.out t (by omega)
   rw [if_neg (Nat.lt_irrefl t), if_pos rfl] at yt
   obtain ⟨p0, hp0⟩ : ∃ q, 4 * t = q := ⟨_, rfl⟩
   obtain ⟨p1, hp1⟩ : ∃ q, 4 * t + 1 = q := ⟨_, rfl⟩
   obtain ⟨p2, hp2⟩ : ∃ q, 4 * t + 2 = q := ⟨_, rfl⟩
   obtain ⟨p3, hp3⟩ : ∃ q, 4 * t + 3 = q := ⟨_, rfl⟩
   rw [hp0] at c0
   rw [hp1] at c1
   rw [hp2] at c2
   rw [hp3] at c3
   have e0 : IntKind.i64.wrap (4 * (t : Int)) = (p0 : Int) := by rw [show 4 * (t : Int) = (p0 : Int) by omega]; exact i64_is p0 (by omega)
   have e1 : IntKind.i64.wrap ((p0 : Int) + 1) = (p1 : Int) := by rw [show (p0 : Int) + 1 = (p1 : Int) by omega]; exact i64_is p1 (by omega)
   have e2 : IntKind.i64.wrap ((p0 : Int) + 2) = (p2 : Int) := by rw [show (p0 : Int) + 2 = (p2 : Int) by omega]; exact i64_is p2 (by omega)
   have e3 : IntKind.i64.wrap ((p0 : Int) + 3) = (p3 : Int) := by rw [show (p0 : Int) + 3 = (p3 : Int) by omega]; exact i64_is p3 (by omega)
   have l0 : ¬ 64 <= (p0 : Int) := by omega
   have l1 : ¬ 64 <= (p1 : Int) := by omega
   have l2 : ¬ 64 <= (p2 : Int) := by omega
   have l3 : ¬ 64 <= (p3 : Int) := by omega
   have m0 : p0 < 64 := by omega
   have m1 : p1 < 64 := by omega
   have m2 : p2 < 64 := by omega
   have m3 : p3 < 64 := by omega
   have mt : t < 64 := by omega
   clear hp0 hp1 hp2 hp3
   have bt : ¬ 64 <= (t : Int) := by omega
   have b0 := byte_word x0; have b1 := byte_word x1; have b2 := byte_word x2; have b3 := byte_word x3
   have b0' := byte_word' x0; have b1' := byte_word' x1; have b2' := byte_word' x2; have b3' := byte_word' x3
   have s0 : ((w8 x0).toNat : Int) * 16777216 % 4294967296 = ((wshl (w8 x0) 24).toNat : Int) := shl_lit x0 24 (by decide); have s1 : ((w8 x1).toNat : Int) * 65536 % 4294967296 = ((wshl (w8 x1) 16).toNat : Int) := shl_lit x1 16 (by decide); have s2 : ((w8 x2).toNat : Int) * 256 % 4294967296 = ((wshl (w8 x2) 8).toNat : Int) := shl_lit x2 8 (by decide)
   have h16H := Lib.hid h16
   clear q0 q1 q2 q3 q4 hbx h16
   go_wp2_with fail
   go_region
   clear b0 b1 b2 b3 b0' b1' b2' b3' s0 s1 s2 e0 e1 e2 e3 c0 c1 c2 c3 yt ft
   rw [<- hw.out]
   have hSn : Hid (SchedAt (wr.setCell ⟨w.heap.size + 1, t, none⟩ (u32v (sw b t))).drew (w.heap.size + 1) b (t + 1) 0) := schedAt_next (schedAt_set (c := sw b t) hS.out mt)
   have hRn : Hid (∃ cs, Blk (wr.setCell ⟨w.heap.size + 1, t, none⟩ (u32v (sw b t))).drew w.heap.size 166 cs /\ cs.size = 64) := by
    obtain ⟨cs, h1, h2⟩ := hR.out
    exact ⟨cs, (h1.grown (grown_set' wr (w.heap.size + 1) t _) (by simp)).drew, h2⟩
   have hBn : Hid (Below w.heap.size w (wr.setCell ⟨w.heap.size + 1, t, none⟩ (u32v (sw b t))).drew) := (hB.out.setCell (p := ⟨w.heap.size + 1, t, none⟩) (by show _ <= w.heap.size + 1; omega) _).drew
   go_wp2_with fail
   go_roundw
   case rel => exact ⟨t + 1, h16H.out, by go_num, hSn, hRn, hBn⟩
   case measure => have := h16H.out; simp [intOf]; omega
  ·have e16 : t = 16 := by omega
   have d16 : decide ((t : Int) < 16) = false := decide_eq_false (by omega)
   have hS16 : Hid (SchedAt wr (w.heap.size + 1) b 16 0) := by rw [<- e16]; exact hS
   clear hS e16
   go_wp2_with fail
   go_loopw [5] (fun i wx => ∃ t : Nat, 16 <= t /\ t <= 64 /\ i = .int .i64 t /\ Hid (SchedAt wx (w.heap.size + 1) b t 0) /\ Hid (∃ cs, Blk wx w.heap.size 166 cs /\ cs.size = 64) /\ Hid (Below w.heap.size w wx)) (fun i _ => 64 - (intOf i).toNat)
   case atStart => exact ⟨16, Nat.le_refl _, by decide, rfl, hS16, hR, hB⟩
   case round =>
   clear hS16 hR hB h16 ht d16
   obtain ⟨t, h16, ht, rfl, hS, hR, hB⟩ := hrel
   by_cases h64 : t < 64
   ·have d64 : decide (t < 64) = true := decide_eq_true h64
    have d64' : decide ((t : Int) < 64) = true := decide_eq_true (by omega)
    obtain ⟨p, hp⟩ : ∃ p, p + 16 = t := ⟨t - 16, by omega⟩
    have r15 : IntKind.i64.wrap ((t : Int) - 15) = ((p + 1 : Nat) : Int) := by rw [show (t : Int) - 15 = ((p + 1 : Nat) : Int) by omega]; exact i64_is _ (by omega)
    have r2 : IntKind.i64.wrap ((t : Int) - 2) = ((p + 14 : Nat) : Int) := by rw [show (t : Int) - 2 = ((p + 14 : Nat) : Int) by omega]; exact i64_is _ (by omega)
    have r16 : IntKind.i64.wrap ((t : Int) - 16) = (p : Int) := by rw [show (t : Int) - 16 = (p : Int) by omega]; exact i64_is _ (by omega)
    have r7 : IntKind.i64.wrap ((t : Int) - 7) = ((p + 9 : Nat) : Int) := by rw [show (t : Int) - 7 = ((p + 9 : Nat) : Int) by omega]; exact i64_is _ (by omega)
    have y15 := (schedAt_cell hS.out (p + 1) (by omega)).1
    have y2 := (schedAt_cell hS.out (p + 14) (by omega)).1
    have y16 := (schedAt_cell hS.out p (by omega)).1
    have y7 := (schedAt_cell hS.out (p + 9) (by omega)).1
    obtain ⟨yt, ft⟩ := schedAt_cell hS.out t (by omega)
    rw [if_pos (by omega)] at y15 y2 y16 y7
    rw [if_neg (Nat.lt_irrefl t), if_pos rfl] at yt
    have hsw := Lib.hid (sw_high b t (by omega) h64)
    rw [show t - 16 = p by omega, show t - 15 = p + 1 by omega, show t - 7 = p + 9 by omega, show t - 2 = p + 14 by omega] at hsw
    generalize sw b (p + 1) = x15 at y15 hsw
    generalize sw b (p + 14) = x2 at y2 hsw
    generalize sw b p = x16 at y16 hsw
    generalize sw b (p + 9) = x7 at y7 hsw
    obtain ⟨p15, hp15⟩ : ∃ q, p + 1 = q := ⟨_, rfl⟩
    obtain ⟨p2, hp2⟩ : ∃ q, p + 14 = q := ⟨_, rfl⟩
    obtain ⟨p7, hp7⟩ : ∃ q, p + 9 = q := ⟨_, rfl⟩
    rw [hp15] at r15 y15
    rw [hp2] at r2 y2
    rw [hp7] at r7 y7
    have b15 : ¬ 64 <= (p15 : Int) := by omega
    have b2 : ¬ 64 <= (p2 : Int) := by omega
    have b16 : ¬ 64 <= (p : Int) := by omega
    have b7 : ¬ 64 <= (p7 : Int) := by omega
    have n15 : p15 < 64 := by omega
    have n2 : p2 < 64 := by omega
    have n16 : p < 64 := by omega
    have n7 : p7 < 64 := by omega
    have h16H := Lib.hid h16
    clear hp hp15 hp2 hp7 h16
    have bt : ¬ 64 <= (t : Int) := by omega
    have s3 := shr_lit3 x15
    have s10 := shr_lit10 x2
    go_wp2_with fail
    refine wp_region_held_drew (S := (fun w' => w'.cell? ⟨w.heap.size + 1, p15, none⟩ = some (u32v x15))) (by kernel_rfl) y15 (fun hHeld => ?_)
    refine' tk 0 rfl hHeld ?_
    try simp only [sA, gA]
    refine' tk 1 rfl hHeld ?_
    try simp only [sA, gA]
    refine' tk 2 rfl hHeld ?_
    try simp only [sA, gA]
    refine' tk 3 rfl hHeld ?_
    try simp only [sA, gA]
    refine' tk 5 rfl hHeld ?_
    try simp only [sA, gA]
    refine' tk 6 rfl hHeld ?_
    try simp only [sA, gA]
    refine' tk 7 rfl hHeld ?_
    try simp only [sA, gA]
    refine' tk 8 rfl hHeld ?_
    try simp only [sA, gA]
    refine' tk 11 rfl hHeld ?_
    try simp only [sA, gA]
    refine' tk 12 rfl hHeld ?_
    try simp only [sA, gA]
    refine' tk 13 rfl hHeld ?_
    try simp only [sA, gA]
    refine' tk 14 rfl hHeld ?_
    try simp only [sA, gA]
    refine' tk 15 rfl hHeld ?_
    try simp only [sA, gA]
    refine td 4 rfl (fun K hK => ?_)
    go_simp
    go_at_call 114
    refine (rotr_any _ x15 7 25 (by decide) (by decide) rfl).mono ?_
    rintro e wz1 ⟨rfl, q1, rfl⟩
    go_wp2_with fail
    refine hK.out _ _ ?_ (fun hHeld2 => ?_)
    ·exact y15
    clear hK K hHeld
    have hHeld := hHeld2
    clear hHeld2
    try simp only [sA, gA]
    refine td 9 rfl (fun K hK => ?_)
    go_simp
    go_at_call 114
    refine (rotr_any _ x15 18 14 (by decide) (by decide) rfl).mono ?_
    rintro e wz2 ⟨rfl, q2, rfl⟩
    go_wp2_with fail
    refine hK.out _ _ ?_ (fun hHeld2 => ?_)
    ·exact y15
    clear hK K hHeld
    have hHeld := hHeld2
    clear hHeld2
    try simp only [sA, gA]
    refine' tk 10 rfl hHeld ?_
    try simp only [sA, gA]
    refine' tk 16 rfl hHeld ?_
    try simp only [sA, gA]
    refine' tk 17 rfl hHeld ?_
    try simp only [sA, gA]
    refine wpAnyH_done (by kernel_rfl) ?_ _
    clear hHeld
    go_upto_region 10 with fail
    refine world_is (P := fun W => Code.wp _ _ _ _ W) (fun wq hq => ?_)
    have hSq : Hid (SchedAt wq (w.heap.size + 1) b t 0) := by unfold Hid; rw [<- hq]; exact hS.out
    have hRq : Hid (∃ cs, Blk wq w.heap.size 166 cs /\ cs.size = 64) := by unfold Hid; rw [<- hq]; exact hR.out
    have hBq : Hid (Below w.heap.size w wq) := by unfold Hid; rw [<- hq]; exact below_drewN2 hB.out _
    have z2 : wq.cell? ⟨w.heap.size + 1, p2, none⟩ = some (u32v x2) := by rw [<- hq]; exact y2
    have z16 : wq.cell? ⟨w.heap.size + 1, p, none⟩ = some (u32v x16) := by rw [<- hq]; exact y16
    have z7 : wq.cell? ⟨w.heap.size + 1, p7, none⟩ = some (u32v x7) := by rw [<- hq]; exact y7
    have zt : wq.cell? ⟨w.heap.size + 1, t, none⟩ = some (u32v 0) := by rw [<- hq]; exact yt
    have zf : wq.frozen? ⟨w.heap.size + 1, t, none⟩ = false := by rw [<- hq]; exact ft
    clear hq y15 y2 y16 y7 yt ft hS hR hB s3
    have y2 := z2
    clear z2
    refine wp_region_held_drew (S := (fun w' => w'.cell? ⟨w.heap.size + 1, p2, none⟩ = some (u32v x2))) (by kernel_rfl) y2 (fun hHeld => ?_)
    refine' tk 0 rfl hHeld ?_
    try simp only [sA, gA]
    refine' tk 1 rfl hHeld ?_
    try simp only [sA, gA]
    refine' tk 2 rfl hHeld ?_
    try simp only [sA, gA]
    refine' tk 3 rfl hHeld ?_
    try simp only [sA, gA]
    refine' tk 5 rfl hHeld ?_
    try simp only [sA, gA]
    refine' tk 6 rfl hHeld ?_
    try simp only [sA, gA]
    refine' tk 7 rfl hHeld ?_
    try simp only [sA, gA]
    refine' tk 8 rfl hHeld ?_
    try simp only [sA, gA]
    refine' tk 11 rfl hHeld ?_
    try simp only [sA, gA]
    refine' tk 12 rfl hHeld ?_
    try simp only [sA, gA]
    refine' tk 13 rfl hHeld ?_
    try simp only [sA, gA]
    refine' tk 14 rfl hHeld ?_
    try simp only [sA, gA]
    refine' tk 15 rfl hHeld ?_
    try simp only [sA, gA]
    refine td 4 rfl (fun K hK => ?_)
    go_simp
    go_at_call 114
    refine (rotr_any _ x2 17 15 (by decide) (by decide) rfl).mono ?_
    rintro e wz1 ⟨rfl, q1, rfl⟩
    go_wp2_with fail
    refine hK.out _ _ ?_ (fun hHeld2 => ?_)
    ·exact y2
    clear hK K hHeld
    have hHeld := hHeld2
    clear hHeld2
    try simp only [sA, gA]
    refine td 9 rfl (fun K hK => ?_)
    go_simp
    go_at_call 114
    refine (rotr_any _ x2 19 13 (by decide) (by decide) rfl).mono ?_
    rintro e wz2 ⟨rfl, q2, rfl⟩
    go_wp2_with fail
    refine hK.out _ _ ?_ (fun hHeld2 => ?_)
    ·exact y2
    clear hK K hHeld
    have hHeld := hHeld2
    clear hHeld2
    try simp only [sA, gA]
    refine' tk 10 rfl hHeld ?_
    try simp only [sA, gA]
    refine' tk 16 rfl hHeld ?_
    try simp only [sA, gA]
    refine' tk 17 rfl hHeld ?_
    try simp only [sA, gA]
    refine wpAnyH_done (by kernel_rfl) ?_ _
    clear hHeld
    go_upto_region 11 with fail
    refine world_is (P := fun W => Code.wp _ _ _ _ W) (fun wk hk => ?_)
    have hS2 : Hid (SchedAt wk (w.heap.size + 1) b t 0) := by unfold Hid; rw [<- hk]; exact hSq.out
    have hR2 : Hid (∃ cs, Blk wk w.heap.size 166 cs /\ cs.size = 64) := by unfold Hid; rw [<- hk]; exact hRq.out
    have hB3 : Hid (Below w.heap.size w wk) := by unfold Hid; rw [<- hk]; exact below_drewN2 hBq.out _
    have y16 : wk.cell? ⟨w.heap.size + 1, p, none⟩ = some (u32v x16) := by rw [<- hk]; exact z16
    have y7 : wk.cell? ⟨w.heap.size + 1, p7, none⟩ = some (u32v x7) := by rw [<- hk]; exact z7
    have yt : wk.cell? ⟨w.heap.size + 1, t, none⟩ = some (u32v 0) := by rw [<- hk]; exact zt
    have ft : wk.frozen? ⟨w.heap.size + 1, t, none⟩ = false := by rw [<- hk]; exact zf
    clear hk y2 z16 z7 zt zf hSq hRq hBq s10
    have q1 : wxor (wxor (rotl x15 25) (rotl x15 14)) (wshr x15 3) = sg0 x15 := rfl
    have q2 : wxor (wxor (rotl x2 15) (rotl x2 13)) (wshr x2 10) = sg1 x2 := rfl
    rw [q1, q2]
    clear q1 q2
    generalize sg0 x15 = g0 at *
    generalize sg1 x2 = g1 at *
    have a1 := w_add x16 g0
    have a2 := w_add (wadd x16 g0) x7
    have a3 := w_add (wadd (wadd x16 g0) x7) g1
    have a1' := w_add' x16 g0
    have a2' := w_add' (wadd x16 g0) x7
    have a3' := w_add' (wadd (wadd x16 g0) x7) g1
    go_region
    clear a1 a2 a3 a1' a2' a3' y16 y7 yt ft
    have hSn : Hid (SchedAt (wk.setCell ⟨w.heap.size + 1, t, none⟩ (u32v (wadd (wadd (wadd x16 g0) x7) g1))).drew (w.heap.size + 1) b (t + 1) 0) := by
     have e := schedAt_set (c := wadd (wadd (wadd x16 g0) x7) g1) hS2.out h64
     rw [<- hsw.out] at e ⊢
     exact schedAt_next e
    have hRn : Hid (∃ cs, Blk (wk.setCell ⟨w.heap.size + 1, t, none⟩ (u32v (wadd (wadd (wadd x16 g0) x7) g1))).drew w.heap.size 166 cs /\ cs.size = 64) := by
     obtain ⟨cs, h1, h2⟩ := hR2.out
     exact ⟨cs, (h1.grown (grown_set' wk (w.heap.size + 1) t _) (by simp)).drew, h2⟩
    have hBn : Hid (Below w.heap.size w (wk.setCell ⟨w.heap.size + 1, t, none⟩ (u32v (wadd (wadd (wadd x16 g0) x7) g1))).drew) := (hB3.out.setCell (p := ⟨w.heap.size + 1, t, none⟩) (by show _ <= w.heap.size + 1; omega) _).drew
    go_wp2_with fail
    go_roundw
    case rel => exact ⟨t + 1, Nat.le_succ_of_le h16H.out, by omega, by go_num, hSn, hRn, hBn⟩
    case measure => simp [intOf]; omega
   ·obtain rfl : t = 64 := by omega
    have d64 : decide (((64 : Nat) : Int) < 64) = false := by decide
    have hld := Lib.hid (schedAt_cs hS.out)
    obtain ⟨cs, hb1, hb2⟩ := hR.out
    have hb3 := Lib.hid hb1
    have hb4 := Lib.hid hb2
    have hl64 := Lib.hid (schedV_len b)
    clear hR hS hb1 hb2
    go_wp2_with (first | (refine wpList_load_mid rfl 166 _ rfl (w.heap.size + 1) 0 rfl (schedV b) _ hld.out Tryz.underlying166 rfl (by rw [hl64.out]; exact infoA64) ?_) | (refine wpList_store_mid rfl 166 _ _ rfl w.heap.size 0 (schedV b).toArray rfl rfl (there_of_blk hb3.out (by rw [hb4.out, List.size_toArray, hl64.out]; omega)) (by rw [List.size_toArray, hl64.out]; exact infoA64) (oneCell_map _ _ (fun a => u32v_one _)) ?_))
    exact bodyPost_ret (results_c (P := Tryz.prog) rfl _ _ w.heap.size 166 (schedV b).toArray _ rfl (blk_setWhole hb3.out (schedV b) (by rw [hl64.out, hb4.out])) Tryz.underlying166 rfl (by rw [List.size_toArray, hl64.out]; exact infoA64)) rfl ⟨rfl, below_setCells (Nat.le_refl _) _ _ _ hB.out⟩
end Go.Proofs.YtpghocekofdpbaaGreatDoor
namespace Go.Proofs.YtpghocekofdpbaaGreatDoor
open Go.RowKit Go.Shelf
attribute [local go_sem] Oper.semAt_some
theorem own_empty8 (w : World) : BRow (w.alloc (.cells #[] 5)) w.heap.size (.slice (some ⟨w.heap.size, 0, none⟩) 0 0) [] :=
 ⟨rfl, .inr ⟨w.heap.size, 0, #[], rfl, Nat.le_refl _, heap_alloc_new w _, Nat.le_refl _, Nat.zero_le _, rfl, rfl⟩⟩
def padA (b : List UInt8) (j : Nat) : List UInt8 := b ++ padTo j
theorem padA_len (b : List UInt8) (j : Nat) : (padA b j).length = b.length + (j + 1) := by unfold padA; rw [List.length_append, padTo_len]
theorem padA_succ (b : List UInt8) (j : Nat) : padA b (j + 1) = padA b j ++ [0] := by unfold padA; rw [padTo_succ, List.append_assoc]
def padB (b : List UInt8) (i : Nat) : List UInt8 := padA b (zerosOf b.length) ++ (be64 (8 * b.length)).take i
theorem padB_len (b : List UInt8) (i : Nat) (h : i <= 8) : (padB b i).length = b.length + (zerosOf b.length + 1) + i := by unfold padB; rw [List.length_append, padA_len, List.length_take, be64_len, Nat.min_eq_left h]
theorem padB_succ (b : List UInt8) (i : Nat) (h : i < 8) : padB b (i + 1) = padB b i ++ [UInt8.ofNat (8 * b.length / 2 ^ (56 - 8 * i))] := by unfold padB; rw [be64_snoc _ _ h, List.append_assoc]
theorem padB_all (b : List UInt8) (h : b.length < 100000000000) : padB b 8 = b ++ padL b.length := by
 unfold padB padA padL padTo
 rw [List.take_of_length_le (Nat.le_of_eq (be64_len _)), Nat.mod_eq_of_lt (by omega), List.append_assoc]
 rfl
theorem row_any {w : World} {base : Nat} {v : Value} {l : List UInt8} {T : Nat} (h : BRow w base v l) (hT : l.length = T) : ∃ A c, v = .slice A T c := by
 obtain ⟨A, c, e⟩ := h.any
 exact ⟨A, c, by rw [e, hT]⟩
set_option maxRecDepth 100000 in
set_option maxHeartbeats 1600000 in
theorem padded_any (w : World) (bb bo c N : Nat) (b : List UInt8) (hN : b.length = N) (hb : BytesAt w bb bo b) (hlen : N < 10000000000) :
  Calls Tryz.prog 112 #[.slice (some ⟨bb, bo, none⟩) N c] w fun e w' => ∃ v', e = .returned v' /\ BRow w' w.heap.size v' (b ++ padL N) /\ Below w.heap.size w w' := by
 have hfin : Hid (padB b 8 = b ++ padL N) := by unfold Hid; rw [padB_all b (by omega), hN]
 have hE := own_empty8 w
 have hB0 : Hid (Below w.heap.size w (w.alloc (.cells #[] 5))) := (Below.refl _ w).alloc (Nat.le_refl _) _
 have hbe := hb.below ((Below.refl _ w).alloc (Nat.le_refl _) (.cells #[] 5))
 have hbl : Hid (([] : List UInt8).length + b.length < 100000000000) := by unfold Hid; rw [hN, List.length_nil]; omega
 have hbl1 : Hid (([] ++ b).length < 99999999999) := by unfold Hid; rw [List.nil_append, hN]; omega
 have hNH := Lib.hid hN
 have hsl : Value.slice (some ⟨bb, bo, none⟩) N c = .slice (some ⟨bb, bo, none⟩) b.length c := by rw [hN]
 have hlenH := Lib.hid hlen
 have hEH := Lib.hid hE
 have hbeH := Lib.hid hbe
 have hslH := Lib.hid hsl
 clear hE hbe hb hN hsl
 have q0 : IntKind.u64.wrap (N : Int) = (N : Int) := u64_is N (by omega)
 obtain ⟨M, hM⟩ : ∃ M, 8 * N = M := ⟨_, rfl⟩
 have q1 : IntKind.u64.wrap (8 * (N : Int)) = (M : Int) := by rw [show 8 * (N : Int) = (M : Int) by omega]; exact u64_is M (by omega)
 have hMH := Lib.hid hM
 clear hM hlen
 go_enter Tryz.func112, Tryz.ntmps112
 go_upto_region 3 with (first
  | (at_builtin; refine wp_push rfl _ _ rfl w.heap.size v1 ([] ++ b) rfl hP1.row 1 128 rfl rfl hbl1.out (hP1.bel _ _ (Nat.le_refl _) (by rw [World.size_alloc]; exact Nat.le_succ _) hB0.out).size ?_; intro v2 w2 hP2)
  | (at_builtin; refine wp_cat rfl _ _ rfl w.heap.size (.slice (some ⟨w.heap.size, 0, none⟩) 0 0) [] rfl hEH.out bb bo c b hslH.out hbeH.out hbl.out (by rw [World.size_alloc]; exact Nat.le_succ _) ?_; intro v1 w1 hP1)
  | fail)
 try simp only [Act.put, zq]
 have hB1 := hP1.bel _ _ (Nat.le_refl _) (by rw [World.size_alloc]; exact Nat.le_succ _) hB0.out
 have hB2 := Lib.hid (hP2.bel _ _ (Nat.le_refl _) hB1.size hB1)
 have hR2 : Hid (BRow w2 w.heap.size v2 (padA b 0)) := hP2.row
 obtain ⟨A, c2, rfl⟩ := row_any hR2.out (T := N + 1) (by rw [padA_len, hNH.out])
 clear hP1 hP2 hB1 hB0 hEH hbeH hbl hbl1 hslH
 go_loopw [3] (fun v wr => ∃ (j T : Nat) (A : Option Addr) (c : Nat), v = .slice A T c /\ Hid (T = N + (j + 1)) /\ Hid (j <= zerosOf N) /\ Hid (BRow wr w.heap.size v (padA b j)) /\ Hid (Below w.heap.size w wr)) (fun v _ => N + 70 - rowLen v)
 case atStart => exact ⟨0, N + 1, _, _, rfl, rfl, Nat.zero_le _, hR2, hB2⟩
 case round =>
  clear hR2 hB2
  obtain ⟨j, T, A, c, rfl, hT, hj, hR, hB⟩ := hrel
  have hz : j <= 63 := Nat.le_trans hj.out (by unfold zerosOf; omega)
  obtain ⟨r, hr⟩ : ∃ r, T % 64 = r := ⟨_, rfl⟩
  have q3 : (T : Int) % 64 = (r : Int) := by omega
  have q3' : Int.tmod (T : Int) 64 = (r : Int) := by rw [Int.tmod_eq_emod_of_nonneg (by omega)]; exact q3
  by_cases hlt : j < zerosOf N
  ·have q4 : ¬ r = 56 := by
    have h1 := zerosOf_first N j hlt
    have h2 := hT.out
    omega
   have q5 : ((r : Int) != 56) = true := by rw [bne_iff_ne]; omega
   have hltH := Lib.hid hlt
   have hln : Hid ((padA b j).length < 99999999999) := by unfold Hid; rw [padA_len, hNH.out]; have := hlenH.out; omega
   clear hr hlt
   go_wp2_with (at_builtin; refine wp_push rfl _ _ rfl w.heap.size _ (padA b j) rfl hR.out 1 0 rfl rfl hln.out hB.out.size ?_; intro v' w' hP; rw [<- padA_succ] at hP; obtain ⟨A2, c2, rfl⟩ := row_any hP.row (T := N + (j + 1 + 1)) (by rw [padA_len, hNH.out]))
   have hB2 := hP.bel _ _ (Nat.le_refl _) hB.out.size hB.out
   refine ⟨⟨j + 1, N + (j + 1 + 1), A2, c2, rfl, rfl, hltH.out, hP.row, hB2⟩, ?_⟩
   show N + 70 - (N + (j + 1 + 1)) < N + 70 - T
   have := hT.out
   omega
  ·have hjz : Hid (j = zerosOf N) := Nat.le_antisymm hj.out (Nat.le_of_not_lt hlt)
   have q4 : r = 56 := by
    have h1 := zerosOf_ends N
    have h2 := hT.out
    rw [hjz.out] at h2
    omega
   have q5 : ((r : Int) != 56) = false := by rw [q4]; rfl
   clear hr hlt q4
   go_wp2_with fail
   have hR1 : Hid (BRow wr w.heap.size (.slice A T c) (padB b 0)) := by
    unfold padB
    rw [List.take_zero, List.append_nil, hNH.out, <- hjz.out]
    exact hR
   have hB1 := hB
   have hTz : Hid (T = N + (zerosOf N + 1)) := by unfold Hid; rw [hT.out, hjz.out]
   clear hR hB q3 q3' q5 hj hz hjz hT q0 q1
   go_loopw [3, 5] (fun p q wr => ∃ (i T : Nat) (A : Option Addr) (c : Nat), p = .slice A T c /\ q = .int .i64 i /\ Hid (T = N + (zerosOf N + 1) + i) /\ Hid (i <= 8) /\ Hid (BRow wr w.heap.size p (padB b i)) /\ Hid (Below w.heap.size w wr)) (fun _ q _ => 8 - (intOf q).toNat)
   case atStart => exact ⟨0, T, A, c, rfl, rfl, hTz.out, Nat.zero_le _, hR1, hB1⟩
   case round =>
    clear hR1 hB1 hTz
    obtain ⟨i, T, A, c, rfl, rfl, hT, hi, hR, hB⟩ := hrel
    by_cases hlt : i < 8
    ·have d2 : decide ((i : Int) < 8) = true := decide_eq_true (by omega)
     obtain ⟨e, he⟩ : ∃ e, 8 * i = e := ⟨_, rfl⟩
     obtain ⟨s, hs⟩ : ∃ s, 56 - e = s := ⟨_, rfl⟩
     have q1 : wrap64 (8 * (i : Int)) = (e : Int) := by rw [show 8 * (i : Int) = (e : Int) by omega]; exact w64_is e (by omega)
     have q2 : wrap64 (56 - (e : Int)) = (s : Int) := by rw [show 56 - (e : Int) = (s : Int) by omega]; exact w64_is s (by omega)
     have s0 : (0 : Int) <= (s : Int) := by omega
     have s1 : ¬ (s : Int) < 0 := by omega
     have s64 : min s 64 = s := Nat.min_eq_left (by omega)
     have hsn := padB_succ b i hlt
     rw [hNH.out, hMH.out, he, hs] at hsn
     have hbv := byte_val M s
     obtain ⟨bx, hbx⟩ : ∃ bx, UInt8.ofNat (M / 2 ^ s) = bx := ⟨_, rfl⟩
     rw [hbx] at hsn hbv
     have hsnH := Lib.hid hsn
     have hbvH := Lib.hid hbv
     have hltH := Lib.hid hlt
     have hln : Hid ((padB b i).length < 99999999999) := by
      unfold Hid
      rw [padB_len b i (by omega), hNH.out]
      have h1 := hlenH.out
      have h2 : zerosOf N <= 63 := by unfold zerosOf; omega
      omega
     have hln2 : Hid ((padB b (i + 1)).length = N + (zerosOf N + 1) + (i + 1)) := by unfold Hid; rw [padB_len b (i + 1) (by omega), hNH.out]
     clear hsn hbv hbx hlt he hs
     go_wp2_with (at_builtin; refine wp_push rfl _ _ rfl w.heap.size _ (padB b i) rfl hR.out 1 bx hbvH.out rfl hln.out hB.out.size ?_; intro v' w' hP; rw [<- hsnH.out] at hP; obtain ⟨A2, c2, rfl⟩ := row_any hP.row hln2.out)
     have hB2 := hP.bel _ _ (Nat.le_refl _) hB.out.size hB.out
     have hwi : wrap64 ((i : Int) + 1) = ((i + 1 : Nat) : Int) := w64_is (i + 1) (by have := hltH.out; omega)
     rw [hwi]
     refine ⟨⟨i + 1, _, A2, c2, rfl, rfl, rfl, hltH.out, hP.row, hB2⟩, ?_⟩
     have := hltH.out
     simp [intOf]
     omega
    ·obtain rfl : i = 8 := by have := hi.out; omega
     have d2 : decide (((8 : Nat) : Int) < 8) = false := by decide
     have hR8 := hR.out
     rw [hfin.out] at hR8
     have hR9 := Lib.hid hR8
     clear hR8 hR
     go_wp2_with fail
     go_ret
     exact ⟨_, rfl, hR9.out, hB.out⟩
end Go.Proofs.YtpghocekofdpbaaGreatDoor
namespace Go.Proofs.YtpghocekofdpbaaGreatDoor
open Go.RowKit Go.Shelf
theorem w_not' (x : UInt32) : bits .xor .u32 (x.toNat : Int) 4294967295 = ((wnot x).toNat : Int) := by
 have h := w_xor x 4294967295
 have e : wxor x 4294967295 = wxor 4294967295 x := by
  unfold wxor
  apply UInt32.toBitVec_inj.1
  rw [UInt32.toBitVec_xor, UInt32.toBitVec_xor]
  exact BitVec.xor_comm _ _
 rw [e, xor_ones] at h
 exact h
attribute [local go_sem] Oper.semAt_some w_xor w_and w_add w_add' w_not'
structure RSum (w wr : World) (g0 g3 mb : Nat) (P : List UInt8) (s : S8) : Prop where
 res : ∃ cs, Blk wr g0 109 cs /\ cs.size = 32
 st : Blk wr g3 113 (s8V s)
 msg : BytesAt wr mb 0 P
 bel : Below w.heap.size w wr
section
variable {w wr wy : World} {g0 g3 mb : Nat} {P : List UInt8} {s : S8}
theorem RSum.below (h : RSum w wr g0 g3 mb P s) (hB : Below wr.heap.size wr wy) : RSum w wy g0 g3 mb P s :=
 ⟨by obtain ⟨cs, h1, h2⟩ := h.res; exact ⟨cs, h1.below hB h1.lt, h2⟩, h.st.below hB h.st.lt, h.msg.below hB, h.bel.trans (hB.mono h.bel.size)⟩
theorem RSum.drewN (h : RSum w wr g0 g3 mb P s) (n : Nat) : RSum w (wr.drewN n) g0 g3 mb P s := h.below (below_drewN2 (Below.refl _ _) n)
theorem RSum.grown {g : Nat} (h : RSum w wr g0 g3 mb P s) (hg : wr.grownBy wy (some g)) (h0 : g0 ≠ g) (h3 : g3 ≠ g) (hm : mb ≠ g) (hb : Below w.heap.size w wy) : RSum w wy g0 g3 mb P s :=
 ⟨by obtain ⟨cs, h1, h2⟩ := h.res; exact ⟨cs, h1.grown hg (by simpa using h0), h2⟩, h.st.grown hg (by simpa using h3), ⟨Nat.lt_of_lt_of_le h.msg.1 hg.size, fun i x hx => by
  have h1 := h.msg.2 i x hx
  have h2 := hg.block mb h.msg.1 (by simpa using hm)
  unfold World.cell? at h1 ⊢
  rw [h2]
  exact h1⟩, hb⟩
end
end Go.Proofs.YtpghocekofdpbaaGreatDoor
