import Derived.Test.YtpghocekofdpbaaGreatDoorQb03
import Derived.Test.YtpghocekofdpbaaGreatDoorQb33
import Derived.Test.YtpghocekofdpbaaGreatDoorQb29
import Derived.Test.YtpghocekofdpbaaGreatDoorQb31
import Derived.Deep.Cut
namespace Go.Proofs.YtpghocekofdpbaaGreatDoor
open Go.RowKit Go.Shelf
attribute [local go_sem] Oper.semAt_some w_xor w_and w_add w_add' w_not'
theorem s64m (t : Nat) (h : t < 64) : 64 - (t + 1) < 64 - t := by omega
theorem s8V_one (s : S8) : (s8V s).all (·.oneCell') = true := by simp [s8V, Value.oneCell']
def SumB (wr : World) (g : Nat) (s v : S8) (i : Nat) : Prop := ∃ cs : Array Value, Blk wr g 113 cs /\ cs.size = 8 /\ ∀ j, j < 8 -> cs[j]? = some (u32v (if j < i then wadd (s.get j) (v.get j) else s.get j))
theorem sumB_start {w : World} {g : Nat} {s : S8} (v : S8) (h : Blk w g 113 (s8V s)) : SumB w g s v 0 := ⟨_, h, rfl, fun j hj => by rw [if_neg (Nat.not_lt_zero _)]; exact s8V_at s j hj⟩
theorem sumB_next {w : World} {g : Nat} {s v : S8} {i : Nat} (h : SumB w g s v i) (hi : i < 8) : SumB (w.setCell ⟨g, i, none⟩ (u32v (wadd (s.get i) (v.get i)))).drew g s v (i + 1) := by
 obtain ⟨cs, h1, h2, h3⟩ := h
 refine ⟨_, (h1.set_ i _).drew, by simp [h2], fun j hj => ?_⟩
 rw [Array.getElem?_setIfInBounds]
 by_cases e : i = j
 ·subst e
  rw [if_pos rfl, if_pos (by omega), if_pos (by omega)]
 ·rw [if_neg e, h3 j hj]
  by_cases e3 : j < i
  ·rw [if_pos e3, if_pos (by omega)]
  ·rw [if_neg e3, if_neg (by omega)]
theorem sumB_done {w : World} {g : Nat} {s v : S8} (h : SumB w g s v 8) : Blk w g 113 (s8V (sadd s v)) := by
 obtain ⟨cs, h1, h2, h3⟩ := h
 have e : cs = s8V (sadd s v) := by
  apply Array.ext_getElem?
  intro j
  by_cases hj : j < 8
  ·rw [h3 j hj, if_pos hj, s8V_at _ j hj, sadd_get _ _ j hj]
  ·rw [Array.getElem?_eq_none (by omega), Array.getElem?_eq_none (by show 8 <= j; omega)]
 rw [e] at h1
 exact h1
theorem blk_of_64 {P : List UInt8} {k : Nat} (h : 64 * (k + 1) <= P.length) : ((P.drop (64 * k)).take 64).length = 64 := by rw [List.length_take, List.length_drop]; omega
theorem bytes_sub {w : World} {mb : Nat} {P : List UInt8} (h : BytesAt w mb 0 P) (u : Nat) : BytesAt w mb u ((P.drop u).take 64) := by
 refine ⟨h.1, fun i x hx => ?_⟩
 rw [List.getElem?_take] at hx
 split at hx
 ·rw [List.getElem?_drop] at hx
  have := h.2 _ x hx
  rw [Nat.zero_add] at this
  exact this
 ·cases hx
theorem bytes_grown {w w' : World} {mb bo g : Nat} {P : List UInt8} (h : BytesAt w mb bo P) (hg : w.grownBy w' (some g)) (hm : mb ≠ g) : BytesAt w' mb bo P :=
 ⟨Nat.lt_of_lt_of_le h.1 hg.size, fun i x hx => by
  have h1 := h.2 i x hx
  have h2 := hg.block mb h.1 (by simpa using hm)
  unfold World.cell? at h1 ⊢
  rw [h2]
  exact h1⟩
set_option maxRecDepth 100000 in
set_option maxHeartbeats 8000000 in
theorem rsum_any (w : World) (bb bo c N : Nat) (b : List UInt8) (hN : b.length = N) (hb : BytesAt w bb bo b) (hlen : N < 10000000000) (hK : KAt w 0) :
  Calls Tryz.prog 81 #[.slice (some ⟨bb, bo, none⟩) N c] w fun e w' => e = .returned (.agg ((sumL b).map byteV).toArray) /\ Below w.heap.size w w' := by
 have HPAD : Hid (∀ wx, Below w.heap.size w wx -> Calls Tryz.prog 112 #[.slice (some ⟨bb, bo, none⟩) N c] wx fun e w' => ∃ v', e = .returned v' /\ BRow w' wx.heap.size v' (b ++ padL N) /\ Below wx.heap.size wx w') := fun wx hB => padded_any wx bb bo c N b hN (hb.below hB) hlen
 have hmod := padded_len b
 have hPl : (b ++ padL N).length <= N + 80 := by rw [List.length_append, padL_len, hN]; unfold zerosOf; omega
 have hPl0 : 0 < (b ++ padL N).length := by rw [List.length_append, padL_len]; omega
 have hfin : Hid (sumL b = digest (sblocks iv ((b ++ padL N).length / 64) (b ++ padL N))) := by unfold Hid sumL sumS; rw [hN]
 rw [hN] at hmod
 generalize b ++ padL N = P at *
 obtain ⟨nb, hnb⟩ : ∃ nb, P.length / 64 = nb := ⟨_, rfl⟩
 rw [hnb] at hfin
 have hT : Hid (P.length = 64 * nb) := by unfold Hid; omega
 have hTs : Hid (P.length < 20000000000) := by unfold Hid; omega
 have hnb0 : Hid (0 < nb) := by unfold Hid; omega
 have HK := Lib.hid hK
 clear hmod hPl hPl0 hnb hb hN hK hlen
 go_enter Tryz.func81, Tryz.ntmps81
 go_upto_region 2 with fail
 refine world_is (P := fun W => Code.wp _ _ _ _ W) (fun W1 hW1 => ?_)
 have HR1 : Hid (Blk W1 w.heap.size 109 z32) := by unfold Hid; rw [<- hW1]; exact (Blk.new w 109 z32).alloc _
 have HS1 : Hid (Blk W1 (w.heap.size + 1) 113 (s8V iv)) := by unfold Hid; rw [<- hW1]; exact blk_new2 w (.cells z32 109) 113 (s8V iv)
 have HB1 : Hid (Below w.heap.size w W1) := by unfold Hid; rw [<- hW1]; exact ((Below.refl _ w).alloc (Nat.le_refl _) _).alloc (by rw [World.size_alloc]; exact Nat.le_succ _) _
 clear hW1
 obtain ⟨g3, hg3⟩ : ∃ g, w.heap.size + 1 = g := ⟨_, rfl⟩
 rw [hg3] at HS1 ⊢
 go_upto_region 3 with (first | (go_at_call 112; refine (HPAD.out _ HB1.out).mono ?_; rintro e W2 ⟨v', rfl, hR, hB⟩; have HR2 := Lib.hid (HR1.out.below hB HR1.out.lt); have HS2 := Lib.hid (HS1.out.below hB HS1.out.lt); have HB2 := Lib.hid (HB1.out.trans (hB.mono HB1.out.size)); have HM2 := Lib.hid hR; clear hR hB) | fail)
 obtain ⟨mb, cap, e, hmb1, hmb2⟩ := HM2.out.slice (by intro e; have h1 := hT.out; have h2 := hnb0.out; rw [e, List.length_nil] at h1; omega)
 subst e
 obtain ⟨TT, hTT⟩ : ∃ T, P.length = T := ⟨_, rfl⟩
 have hcap : Hid (P.length <= cap) := by
  rcases HM2.out.2 with ⟨h1, _⟩ | ⟨g, cp, cur, h1, _, _, h2, _⟩
  ·cases h1
  ·cases h1; exact h2
 have HG2 : Hid (RSum w W2 w.heap.size g3 mb P (sblocks iv 0 P)) := ⟨⟨_, HR2.out, rfl⟩, HS2.out, HM2.out.bytesAt, HB2.out⟩
 have hne : Hid (w.heap.size < g3 /\ g3 < W1.heap.size /\ W1.heap.size <= mb) := ⟨by omega, HS1.out.lt, hmb1⟩
 have hTH := Lib.hid hTT
 rw [hTT] at hcap hT hTs ⊢
 clear HR2 HS2 HM2 HB2 HR1 HS1 HB1 hmb1 hmb2 hg3 hTT
 go_wp2_with fail
 go_loopw [5] (fun q wr => ∃ k u : Nat, q = .int .i64 u /\ Hid (u = 64 * k /\ k <= nb) /\ Hid (RSum w wr w.heap.size g3 mb P (sblocks iv k P))) (fun q _ => TT + 64 - (intOf q).toNat)
 case atStart => exact ⟨0, 0, rfl, ⟨rfl, Nat.zero_le _⟩, HG2⟩
 case round =>
  clear HG2
  obtain ⟨k, u, rfl, hu, hG⟩ := hrel
  by_cases hkl : k < nb
  ·have d1 : decide (u < TT) = true := decide_eq_true (by have := hu.out.1; have := hT.out; omega)
   have d1' : decide ((u : Int) < (TT : Int)) = true := decide_eq_true (by have := hu.out.1; have := hT.out; omega)
   obtain ⟨u2, hu2⟩ : ∃ u2, u + 64 = u2 := ⟨_, rfl⟩
   have w2 : wrap64 ((u : Int) + 64) = (u2 : Int) := by rw [show (u : Int) + 64 = (u2 : Int) by omega]; exact w64_is u2 (by have := hu.out.1; have := hT.out; have := hTs.out; omega)
   have hsl : ∀ wx, (Instr.slice 66 (.slice (some ⟨mb, 0, none⟩) TT cap) (some (.int .i64 (u : Int))) (some (.int .i64 (u2 : Int))) none).run Tryz.prog wx = .ok (.slice (some ⟨mb, u, none⟩) 64 (cap - u)) wx := fun wx => by
    have h := bslice mb 0 cap TT u u2 (by omega) (by have := hu.out.1; have := hT.out; omega) hcap.out wx
    rw [Nat.zero_add, show u2 - u = 64 by omega] at h
    exact h
   obtain ⟨B, hBk⟩ : ∃ B, (P.drop u).take 64 = B := ⟨_, rfl⟩
   have hBl : B.length = 64 := by rw [<- hBk, hu.out.1]; exact blk_of_64 (by rw [hTH.out, hT.out]; omega)
   have hnext : Hid (sblocks iv (k + 1) P = scomp (sblocks iv k P) B) := by unfold Hid; rw [sblocks_one, <- hu.out.1, hBk]
   have HWD : Hid (∀ wx, RSum w wx w.heap.size g3 mb P (sblocks iv k P) -> Calls Tryz.prog 113 #[.slice (some ⟨mb, u, none⟩) 64 (cap - u)] wx fun e w' => e = .returned (.agg (schedV B).toArray) /\ Below wx.heap.size wx w') := fun wx h => words_any wx mb u (cap - u) B hBl (by rw [<- hBk]; exact bytes_sub h.msg u)
   generalize sblocks iv k P = s at *
   have hkH := Lib.hid hkl
   have hl64 := Lib.hid (schedV_len B)
   have hsz64 : Hid ((schedV B).toArray.size = 64) := by unfold Hid; rw [List.size_toArray]; exact hl64.out
   have hu2H := Lib.hid hu2
   have w2H := Lib.hid w2
   clear hkl hBk hBl hu2
   go_upto_region 7 with (first
    | (refine wpList_store_mid rfl 166 _ _ rfl w3.heap.size 0 (schedV B).toArray rfl rfl ?hA ?hB ?hC ?_; (case hA => rw [hsz64.out]; exact there_of_blk (o := 0) (n := 64) (Blk.new w3 166 z64) (by decide)); (case hB => rw [hsz64.out]; exact infoA64); (case hC => exact oneCell_map _ _ (fun a => u32v_one _)); simp only [Act.put]; refine world_is (P := fun W => wpList _ _ _ _ _ W) (X := (w3.alloc (.cells z64 166)).setCells w3.heap.size 0 (schedV B)) (fun W4 hW4 => ?_))
    | (go_at_call 113; refine (HWD.out _ hG.out).mono ?_; rintro e w3 ⟨rfl, hB⟩; have hG3 := Lib.hid (hG.out.below hB); clear hB)
    | fail)
   have HW4 : Hid (Blk W4 w3.heap.size 166 (schedV B).toArray) := by unfold Hid; rw [<- hW4]; exact blk_setWhole (Blk.new w3 166 z64) (schedV B) (by rw [hl64.out]; rfl)
   have hB34 : Below w3.heap.size w3 W4 := by rw [<- hW4]; exact below_setCells (Nat.le_refl _) _ _ _ ((Below.refl _ w3).alloc (Nat.le_refl _) _)
   have hG4 := Lib.hid (hG3.out.below hB34)
   have hgw : Hid (w.heap.size < w3.heap.size /\ g3 < w3.heap.size /\ mb < w3.heap.size) := ⟨Nat.lt_of_lt_of_le (by obtain ⟨cs, h1, _⟩ := hG3.out.res; exact h1.lt) (Nat.le_refl _), hG3.out.st.lt, hG3.out.msg.1⟩
   clear hW4 hB34 hG hG3 HWD hsl w2 d1 d1' hsz64
   obtain ⟨gw, egw⟩ : ∃ g, w3.heap.size = g := ⟨_, rfl⟩
   rw [egw] at HW4 hgw ⊢
   clear egw
   have s0 : W4.cell? ⟨g3, 0, none⟩ = some (u32v s.a) := hG4.out.st.cell 0; have s1 : W4.cell? ⟨g3, 1, none⟩ = some (u32v s.b) := hG4.out.st.cell 1; have s2 : W4.cell? ⟨g3, 2, none⟩ = some (u32v s.c) := hG4.out.st.cell 2; have s3 : W4.cell? ⟨g3, 3, none⟩ = some (u32v s.d) := hG4.out.st.cell 3; have s4 : W4.cell? ⟨g3, 4, none⟩ = some (u32v s.e) := hG4.out.st.cell 4; have s5 : W4.cell? ⟨g3, 5, none⟩ = some (u32v s.f) := hG4.out.st.cell 5; have s6 : W4.cell? ⟨g3, 6, none⟩ = some (u32v s.g) := hG4.out.st.cell 6; have s7 : W4.cell? ⟨g3, 7, none⟩ = some (u32v s.h) := hG4.out.st.cell 7
   go_upto_region 8 with fail
   refine world_is (P := fun W => Code.wp _ _ _ _ W) (fun W5 hW5 => ?_)
   have HV5 : Hid (Blk W5 W4.heap.size 113 (s8V (srounds s B 0))) := by unfold Hid; rw [<- hW5]; exact Blk.new W4 _ _
   have HW5 : Hid (Blk W5 gw 166 (schedV B).toArray) := by unfold Hid; rw [<- hW5]; exact HW4.out.alloc _
   have hG5 : Hid (RSum w W5 w.heap.size g3 mb P s) := by unfold Hid; rw [<- hW5]; exact hG4.out.below ((Below.refl _ W4).alloc (Nat.le_refl _) _)
   have hgv : Hid (w.heap.size < W4.heap.size /\ g3 < W4.heap.size /\ mb < W4.heap.size /\ gw < W4.heap.size /\ gw ≠ W4.heap.size) := ⟨by have := hgw.out.1; have := HW4.out.lt; omega, hG4.out.st.lt, hG4.out.msg.1, HW4.out.lt, Nat.ne_of_lt HW4.out.lt⟩
   clear hW5 s0 s1 s2 s3 s4 s5 s6 s7 HW4 hG4
   obtain ⟨gv, egv⟩ : ∃ g, W4.heap.size = g := ⟨_, rfl⟩
   rw [egv] at HV5 hgv ⊢
   clear egv
   go_wp2_with fail
   go_loopw [8] (fun q wx => ∃ t : Nat, t <= 64 /\ q = .int .i64 t /\ Hid (RSum w wx w.heap.size g3 mb P s) /\ Hid (Blk wx gw 166 (schedV B).toArray) /\ Hid (Blk wx gv 113 (s8V (srounds s B t)))) (fun q _ => 64 - (intOf q).toNat)
   case atStart => exact ⟨0, Nat.zero_le _, rfl, hG5, HW5, HV5⟩
   case round =>
    clear hG5 HW5 HV5
    obtain ⟨t, ht, rfl, hG, hW, hV⟩ := hrel
    by_cases h64 : t < 64
    ·have d64 : decide (t < 64) = true := decide_eq_true h64
     have d64' : decide ((t : Int) < 64) = true := decide_eq_true (by omega)
     have t2 : ¬ 64 <= (t : Int) := by omega
     have hstep : Hid (srounds s B (t + 1) = sround (srounds s B t) (kAt t) (sw B t)) := rfl
     have hKx := HK.out.below hG.out.bel
     have ck : wr.cell? ⟨0, t, none⟩ = some (u32v (kAt t)) := by have h := hKx.2 t _ (kV_at t h64); rw [Nat.zero_add] at h; exact h
     have cw : wr.cell? ⟨gw, t, none⟩ = some (u32v (sw B t)) := by rw [hW.out.cell t, List.getElem?_toArray]; exact schedV_at B t h64
     generalize srounds s B t = v at *
     obtain ⟨v2, hv2e⟩ : ∃ v2, srounds s B (t + 1) = v2 := ⟨_, rfl⟩
     rw [hv2e] at hstep
     have hv2e := Lib.hid hv2e
     generalize kAt t = kt at *
     generalize sw B t = wt at *
     have c0 : wr.cell? ⟨gv, 0, none⟩ = some (u32v v.a) := hV.out.cell 0; have c1 : wr.cell? ⟨gv, 1, none⟩ = some (u32v v.b) := hV.out.cell 1; have c2 : wr.cell? ⟨gv, 2, none⟩ = some (u32v v.c) := hV.out.cell 2; have c3 : wr.cell? ⟨gv, 3, none⟩ = some (u32v v.d) := hV.out.cell 3; have c4 : wr.cell? ⟨gv, 4, none⟩ = some (u32v v.e) := hV.out.cell 4; have c5 : wr.cell? ⟨gv, 5, none⟩ = some (u32v v.f) := hV.out.cell 5; have c6 : wr.cell? ⟨gv, 6, none⟩ = some (u32v v.g) := hV.out.cell 6; have c7 : wr.cell? ⟨gv, 7, none⟩ = some (u32v v.h) := hV.out.cell 7
     have h64H := Lib.hid h64
     clear hKx h64 ht
     go_wp2_with fail
     refine wp_region_held_drew (S := (fun w' => w'.cell? ⟨gv, 4, none⟩ = some (u32v v.e) /\ w'.cell? ⟨gv, 5, none⟩ = some (u32v v.f) /\ w'.cell? ⟨gv, 6, none⟩ = some (u32v v.g) /\ w'.cell? ⟨gv, 7, none⟩ = some (u32v v.h) /\ w'.cell? ⟨0, t, none⟩ = some (u32v kt) /\ w'.cell? ⟨gw, t, none⟩ = some (u32v wt))) (by kernel_rfl) ⟨c4, c5, c6, c7, ck, cw⟩ (fun hHeld => ?_)
     refine' tk 0 rfl hHeld ?_
     try simp only [sA, gA]
     refine' tk 1 rfl hHeld ?_
     try simp only [sA, gA]
     refine' tk 2 rfl hHeld ?_
     try simp only [sA, gA]
     refine' tk 3 rfl hHeld ?_
     try simp only [sA, gA]
     refine' tk 5 rfl hHeld ?_
     try simp only [sA, gA]
     refine' tk 6 rfl hHeld ?_
     try simp only [sA, gA]
     refine' tk 9 rfl hHeld ?_
     try simp only [sA, gA]
     refine' tk 10 rfl hHeld ?_
     try simp only [sA, gA]
     refine' tk 14 rfl hHeld ?_
     try simp only [sA, gA]
     refine' tk 15 rfl hHeld ?_
     try simp only [sA, gA]
     refine' tk 16 rfl hHeld ?_
     try simp only [sA, gA]
     refine' tk 17 rfl hHeld ?_
     try simp only [sA, gA]
     refine' tk 18 rfl hHeld ?_
     try simp only [sA, gA]
     refine' tk 19 rfl hHeld ?_
     try simp only [sA, gA]
     refine' tk 20 rfl hHeld ?_
     try simp only [sA, gA]
     refine' tk 21 rfl hHeld ?_
     try simp only [sA, gA]
     refine' tk 22 rfl hHeld ?_
     try simp only [sA, gA]
     refine' tk 23 rfl hHeld ?_
     try simp only [sA, gA]
     refine' tk 24 rfl hHeld ?_
     try simp only [sA, gA]
     refine' tk 25 rfl hHeld ?_
     try simp only [sA, gA]
     refine' tk 27 rfl hHeld ?_
     try simp only [sA, gA]
     refine' tk 28 rfl hHeld ?_
     try simp only [sA, gA]
     refine' tk 29 rfl hHeld ?_
     try simp only [sA, gA]
     refine' tk 31 rfl hHeld ?_
     try simp only [sA, gA]
     refine' tk 32 rfl hHeld ?_
     try simp only [sA, gA]
     refine' tk 33 rfl hHeld ?_
     try simp only [sA, gA]
     refine td 4 rfl (fun K hK => ?_)
     go_simp
     go_at_call 114
     refine (rotr_any _ v.e 6 26 (by decide) (by decide) rfl).mono ?_
     rintro e wz1 ⟨rfl, q1, rfl⟩
     go_wp2_with fail
     refine hK.out _ _ ?_ (fun hHeld2 => ?_)
     ·exact ⟨c4, c5, c6, c7, ck, cw⟩
     clear hK K hHeld
     have hHeld := hHeld2
     clear hHeld2
     try simp only [sA, gA]
     refine td 7 rfl (fun K hK => ?_)
     go_simp
     go_at_call 114
     refine (rotr_any _ v.e 11 21 (by decide) (by decide) rfl).mono ?_
     rintro e wz2 ⟨rfl, q2, rfl⟩
     go_wp2_with fail
     refine hK.out _ _ ?_ (fun hHeld2 => ?_)
     ·exact ⟨c4, c5, c6, c7, ck, cw⟩
     clear hK K hHeld
     have hHeld := hHeld2
     clear hHeld2
     try simp only [sA, gA]
     refine' tk 8 rfl hHeld ?_
     try simp only [sA, gA]
     refine td 11 rfl (fun K hK => ?_)
     go_simp
     go_at_call 114
     refine (rotr_any _ v.e 25 7 (by decide) (by decide) rfl).mono ?_
     rintro e wz3 ⟨rfl, q3, rfl⟩
     go_wp2_with fail
     refine hK.out _ _ ?_ (fun hHeld2 => ?_)
     ·exact ⟨c4, c5, c6, c7, ck, cw⟩
     clear hK K hHeld
     have hHeld := hHeld2
     clear hHeld2
     try simp only [sA, gA]
     refine' tk 12 rfl hHeld ?_
     try simp only [sA, gA]
     refine' tk 13 rfl hHeld ?_
     try simp only [sA, gA]
     refine' tk 26 rfl hHeld ?_
     try simp only [sA, gA]
     refine' tk 30 rfl hHeld ?_
     try simp only [sA, gA]
     refine' tk 34 rfl hHeld ?_
     try simp only [sA, gA]
     refine' tk 35 rfl hHeld ?_
     try simp only [sA, gA]
     refine wpAnyH_done (by kernel_rfl) ?_ _
     clear hHeld
     have qx : wadd (wadd (wadd (wadd v.h (wxor (wxor (rotl v.e 26) (rotl v.e 21)) (rotl v.e 7))) (wxor (wand v.e v.f) (wand (wnot v.e) v.g))) kt) wt = rx v kt wt := rfl
     go_upto_region 12 with fail
     rw [qx]
     clear qx ck cw c4 c5 c6 c7 c0 c1 c2 c3
     refine world_is (P := fun W => Code.wp _ _ _ _ W) (fun wq hq => ?_)
     have hGq : Hid (RSum w wq w.heap.size g3 mb P s) := by unfold Hid; rw [<- hq]; exact hG.out.drewN _
     have hWq : Hid (Blk wq gw 166 (schedV B).toArray) := by unfold Hid; rw [<- hq]; exact hW.out
     have hVq : Hid (Blk wq gv 113 (s8V v)) := by unfold Hid; rw [<- hq]; exact hV.out
     clear hq hG hW hV
     have c0 : wq.cell? ⟨gv, 0, none⟩ = some (u32v v.a) := hVq.out.cell 0; have c1 : wq.cell? ⟨gv, 1, none⟩ = some (u32v v.b) := hVq.out.cell 1; have c2 : wq.cell? ⟨gv, 2, none⟩ = some (u32v v.c) := hVq.out.cell 2
     generalize hX : rx v kt wt = X at *
     refine wp_region_held_drew (S := (fun w' => w'.cell? ⟨gv, 0, none⟩ = some (u32v v.a) /\ w'.cell? ⟨gv, 1, none⟩ = some (u32v v.b) /\ w'.cell? ⟨gv, 2, none⟩ = some (u32v v.c))) (by kernel_rfl) ⟨c0, c1, c2⟩ (fun hHeld => ?_)
     refine' tk 0 rfl hHeld ?_
     try simp only [sA, gA]
     refine' tk 1 rfl hHeld ?_
     try simp only [sA, gA]
     refine' tk 3 rfl hHeld ?_
     try simp only [sA, gA]
     refine' tk 4 rfl hHeld ?_
     try simp only [sA, gA]
     refine' tk 7 rfl hHeld ?_
     try simp only [sA, gA]
     refine' tk 8 rfl hHeld ?_
     try simp only [sA, gA]
     refine' tk 11 rfl hHeld ?_
     try simp only [sA, gA]
     refine' tk 12 rfl hHeld ?_
     try simp only [sA, gA]
     refine' tk 13 rfl hHeld ?_
     try simp only [sA, gA]
     refine' tk 14 rfl hHeld ?_
     try simp only [sA, gA]
     refine' tk 15 rfl hHeld ?_
     try simp only [sA, gA]
     refine' tk 16 rfl hHeld ?_
     try simp only [sA, gA]
     refine' tk 17 rfl hHeld ?_
     try simp only [sA, gA]
     refine' tk 18 rfl hHeld ?_
     try simp only [sA, gA]
     refine' tk 19 rfl hHeld ?_
     try simp only [sA, gA]
     refine' tk 20 rfl hHeld ?_
     try simp only [sA, gA]
     refine' tk 21 rfl hHeld ?_
     try simp only [sA, gA]
     refine' tk 22 rfl hHeld ?_
     try simp only [sA, gA]
     refine' tk 23 rfl hHeld ?_
     try simp only [sA, gA]
     refine' tk 24 rfl hHeld ?_
     try simp only [sA, gA]
     refine' tk 25 rfl hHeld ?_
     try simp only [sA, gA]
     refine' tk 26 rfl hHeld ?_
     try simp only [sA, gA]
     refine' tk 27 rfl hHeld ?_
     try simp only [sA, gA]
     refine td 2 rfl (fun K hK => ?_)
     go_simp
     go_at_call 114
     refine (rotr_any _ v.a 2 30 (by decide) (by decide) rfl).mono ?_
     rintro e wz1 ⟨rfl, q1, rfl⟩
     go_wp2_with fail
     refine hK.out _ _ ?_ (fun hHeld2 => ?_)
     ·exact ⟨c0, c1, c2⟩
     clear hK K hHeld
     have hHeld := hHeld2
     clear hHeld2
     try simp only [sA, gA]
     refine td 5 rfl (fun K hK => ?_)
     go_simp
     go_at_call 114
     refine (rotr_any _ v.a 13 19 (by decide) (by decide) rfl).mono ?_
     rintro e wz2 ⟨rfl, q2, rfl⟩
     go_wp2_with fail
     refine hK.out _ _ ?_ (fun hHeld2 => ?_)
     ·exact ⟨c0, c1, c2⟩
     clear hK K hHeld
     have hHeld := hHeld2
     clear hHeld2
     try simp only [sA, gA]
     refine' tk 6 rfl hHeld ?_
     try simp only [sA, gA]
     refine td 9 rfl (fun K hK => ?_)
     go_simp
     go_at_call 114
     refine (rotr_any _ v.a 22 10 (by decide) (by decide) rfl).mono ?_
     rintro e wz3 ⟨rfl, q3, rfl⟩
     go_wp2_with fail
     refine hK.out _ _ ?_ (fun hHeld2 => ?_)
     ·exact ⟨c0, c1, c2⟩
     clear hK K hHeld
     have hHeld := hHeld2
     clear hHeld2
     try simp only [sA, gA]
     refine' tk 10 rfl hHeld ?_
     try simp only [sA, gA]
     refine' tk 28 rfl hHeld ?_
     try simp only [sA, gA]
     refine' tk 29 rfl hHeld ?_
     try simp only [sA, gA]
     refine wpAnyH_done (by kernel_rfl) ?_ _
     clear hHeld
     have qy : wadd (wxor (wxor (rotl v.a 30) (rotl v.a 19)) (rotl v.a 10)) (wxor (wxor (wand v.a v.b) (wand v.a v.c)) (wand v.b v.c)) = ry v := rfl
     go_upto_region 13 with fail
     rw [qy]
     clear qy c0 c1 c2
     refine world_is (P := fun W => Code.wp _ _ _ _ W) (fun wk hk => ?_)
     have hGk : Hid (RSum w wk w.heap.size g3 mb P s) := by unfold Hid; rw [<- hk]; exact hGq.out.drewN _
     have hWk : Hid (Blk wk gw 166 (schedV B).toArray) := by unfold Hid; rw [<- hk]; exact hWq.out
     have hVk : Hid (Blk wk gv 113 (s8V v)) := by unfold Hid; rw [<- hk]; exact hVq.out
     clear hk hGq hWq hVq
     have c0 : wk.cell? ⟨gv, 0, none⟩ = some (u32v v.a) := hVk.out.cell 0; have c1 : wk.cell? ⟨gv, 1, none⟩ = some (u32v v.b) := hVk.out.cell 1; have c2 : wk.cell? ⟨gv, 2, none⟩ = some (u32v v.c) := hVk.out.cell 2; have c3 : wk.cell? ⟨gv, 3, none⟩ = some (u32v v.d) := hVk.out.cell 3; have c4 : wk.cell? ⟨gv, 4, none⟩ = some (u32v v.e) := hVk.out.cell 4; have c5 : wk.cell? ⟨gv, 5, none⟩ = some (u32v v.f) := hVk.out.cell 5; have c6 : wk.cell? ⟨gv, 6, none⟩ = some (u32v v.g) := hVk.out.cell 6
     generalize hY : ry v = Y at *
     have a1 := w_add X Y
     have a2 := w_add v.d X
     have a1' := w_add' X Y
     have a2' := w_add' v.d X
     have hone := Lib.hid (s8V_one ⟨wadd X Y, v.a, v.b, v.c, wadd v.d X, v.e, v.f, v.g⟩)
     have hv2 : Hid (v2 = ⟨wadd X Y, v.a, v.b, v.c, wadd v.d X, v.e, v.f, v.g⟩) := by unfold Hid; rw [hstep.out]; unfold sround; rw [hX, hY]
     clear hX hY hstep
     go_wp2_with (first
      | (refine wpList_store_mid rfl 113 _ _ rfl gv 0 #[u32v (wadd X Y), u32v v.a, u32v v.b, u32v v.c, u32v (wadd v.d X), u32v v.e, u32v v.f, u32v v.g] rfl rfl (there_of_blk (o := 0) hVk.out (Nat.le_refl _)) infoA8 hone.out ?_; simp only [Act.put]; refine world_is (P := fun W => wpList _ _ _ _ _ W) (X := wk.setCells gv 0 [u32v (wadd X Y), u32v v.a, u32v v.b, u32v v.c, u32v (wadd v.d X), u32v v.e, u32v v.f, u32v v.g]) (fun wn hn => ?_); have hVn : Hid (Blk wn gv 113 (s8V v2)) := (by unfold Hid; rw [<- hn, hv2.out]; exact blk_setWhole hVk.out [u32v (wadd X Y), u32v v.a, u32v v.b, u32v v.c, u32v (wadd v.d X), u32v v.e, u32v v.f, u32v v.g] rfl); have hgn : wk.grownBy wn (some gv) := (by rw [<- hn]; exact setCells_grown gv _ 0 wk); have hWn := Lib.hid (hWk.out.grown hgn (by simpa using hgv.out.2.2.2.2)); have hGn := Lib.hid (hGk.out.grown hgn (Nat.ne_of_lt hgv.out.1) (Nat.ne_of_lt hgv.out.2.1) (Nat.ne_of_lt hgv.out.2.2.1) (by rw [<- hn]; exact below_setCells (Nat.le_of_lt hgv.out.1) _ 0 _ hGk.out.bel)); clear hn hgn)
      | fail)
     have hwt : wrap64 ((t : Int) + 1) = ((t + 1 : Nat) : Int) := w64_is (t + 1) (by have := h64H.out; omega)
     have hVn2 : Hid (Blk wn gv 113 (s8V (srounds s B (t + 1)))) := by unfold Hid; rw [hv2e.out]; exact hVn.out
     clear hVn hv2 hv2e
     go_roundw
     case rel => exact ⟨t + 1, h64H.out, by first | (rw [hwt]; done) | go_num, hGn, hWn, hVn2⟩
     case measure =>
      clear hGn hWn hVn2 hone
      have hm : 64 - (t + 1) < 64 - t := s64m t h64H.out
      try rw [hwt]
      exact hm
    ·have d64 : decide (t < 64) = false := decide_eq_false h64
     have d64' : decide ((t : Int) < 64) = false := decide_eq_false (by omega)
     have e64 : t = 64 := by omega
     have hV64 : Hid (Blk wr gv 113 (s8V (srounds s B 64))) := by rw [<- e64]; exact hV
     have hcomp : Hid (scomp s B = sadd s (srounds s B 64)) := rfl
     rw [hcomp.out] at hnext
     clear hV hW e64 hcomp
     generalize srounds s B 64 = v at *
     have hG0 : Hid (RSum w wr w.heap.size g3 mb P s) := hG
     have hS0 : Hid (SumB wr g3 s v 0) := sumB_start v hG.out.st
     have hR0 := Lib.hid hG.out.res
     have hM0 := Lib.hid hG.out.msg
     have hB0 := Lib.hid hG.out.bel
     clear hG hG0
     go_upto_region 15 with fail
     go_loopw [11] (fun q wx => ∃ i : Nat, i <= 8 /\ q = .int .i64 i /\ Hid (SumB wx g3 s v i) /\ Hid (Blk wx gv 113 (s8V v)) /\ Hid (∃ cs, Blk wx w.heap.size 109 cs /\ cs.size = 32) /\ Hid (BytesAt wx mb 0 P) /\ Hid (Below w.heap.size w wx)) (fun q _ => 8 - (intOf q).toNat)
     case atStart => exact ⟨0, Nat.zero_le _, rfl, hS0, hV64, hR0, hM0, hB0⟩
     case round =>
      clear hS0 hV64 hR0 hM0 hB0
      obtain ⟨i, hi, rfl, hS, hV, hR, hM, hB⟩ := hrel
      by_cases h8 : i < 8
      ·have d8 : decide ((i : Int) < 8) = true := decide_eq_true (by omega)
       have t2 : ¬ 8 <= (i : Int) := by omega
       obtain ⟨cs, q1, q2, q3⟩ := hS.out
       have c1 : wr.cell? ⟨g3, i, none⟩ = some (u32v (s.get i)) := by rw [q1.cell i, q3 i h8, if_neg (Nat.lt_irrefl i)]
       have f1 := q1.frozen i
       have c2 : wr.cell? ⟨gv, i, none⟩ = some (u32v (v.get i)) := by rw [hV.out.cell i]; exact s8V_at v i h8
       have h8H := Lib.hid h8
       have a1 := w_add (s.get i) (v.get i)
       have a1' := w_add' (s.get i) (v.get i)
       have hSn := Lib.hid (sumB_next hS.out h8)
       clear q1 q2 q3 hi
       generalize s.get i = x at *
       generalize v.get i = y at *
       go_wp2_with fail
       go_region
       have hgn : wr.grownBy (wr.setCell ⟨g3, i, none⟩ (u32v (wadd x y))).drew (some g3) := (let h := grown_set' wr g3 i (u32v (wadd x y)); ⟨h.os, h.tape, h.output, h.size, h.block⟩)
       have hVn := Lib.hid (hV.out.grown hgn (by simpa using Nat.ne_of_gt hgv.out.2.1))
       have hRn : Hid (∃ cs, Blk (wr.setCell ⟨g3, i, none⟩ (u32v (wadd x y))).drew w.heap.size 109 cs /\ cs.size = 32) := by obtain ⟨cs, h1, h2⟩ := hR.out; exact ⟨cs, h1.grown hgn (by simpa using Nat.ne_of_lt hne.out.1), h2⟩
       have hBn : Hid (Below w.heap.size w (wr.setCell ⟨g3, i, none⟩ (u32v (wadd x y))).drew) := (hB.out.setCell (p := ⟨g3, i, none⟩) (Nat.le_of_lt hne.out.1) _).drew
       have hMn : Hid (BytesAt (wr.setCell ⟨g3, i, none⟩ (u32v (wadd x y))).drew mb 0 P) := bytes_grown hM.out hgn (by have := hne.out; omega)
       clear hgn a1 a1' c1 c2 f1 hS hV hR hM hB
       go_wp2_with fail
       have hwi : wrap64 ((i : Int) + 1) = ((i + 1 : Nat) : Int) := w64_is (i + 1) (by have := h8H.out; omega)
       go_roundw
       case rel => exact ⟨i + 1, h8H.out, by first | (rw [hwi]; done) | go_num, hSn, hVn, hRn, hMn, hBn⟩
       case measure =>
        have := h8H.out
        simp [intOf]
        omega
      ·have d8 : decide ((i : Int) < 8) = false := decide_eq_false (by omega)
       have e8 : i = 8 := by omega
       have hG2 : Hid (RSum w wr w.heap.size g3 mb P (sadd s v)) := ⟨hR.out, sumB_done (by have h := hS.out; rw [e8] at h; exact h), hM.out, hB.out⟩
       clear hS hV hR hM hB e8 h8 hi
       go_wp2_with fail
       have hG3 : Hid (RSum w wr w.heap.size g3 mb P (sblocks iv (k + 1) P)) := by unfold Hid; rw [hnext.out]; exact hG2.out
       have hu3 : Hid (u2 = 64 * (k + 1) /\ k + 1 <= nb) := ⟨by have h1 := hu.out.1; have h2 := hu2H.out; omega, hkH.out⟩
       have hwu := w2H.out
       clear hG2 hnext
       go_roundw
       case rel => exact ⟨k + 1, u2, by rw [hwu], hu3, hG3⟩
       case measure =>
        clear hG3
        have hm : TT + 64 - u2 < TT + 64 - u := by have h1 := hu.out.1; have h2 := hT.out; have h3 := hkH.out; have h4 := hu2H.out; omega
        rw [hwu]
        exact hm
  ·have hk : k = nb := by have := hu.out.2; omega
   have d1 : decide (u < TT) = false := decide_eq_false (by have := hu.out.1; have := hT.out; omega)
   have d1' : decide ((u : Int) < (TT : Int)) = false := decide_eq_false (by have := hu.out.1; have := hT.out; omega)
   have hG2 : Hid (RSum w wr w.heap.size g3 mb P (sblocks iv nb P)) := by rw [<- hk]; exact hG
   clear hG hu hk hkl
   generalize sblocks iv nb P = s at *
   go_upto_region 19 with fail
   refine world_is (P := fun W => Code.wp _ _ _ _ W) (fun W5 hW5 => ?_)
   have hO5 : Hid (OutAt W5 wr.heap.size 109 (digest s) 32 0) := by unfold Hid; rw [<- hW5]; exact Blk.new wr _ _
   have hS5 : Hid (Blk W5 g3 113 (s8V s)) := by unfold Hid; rw [<- hW5]; exact hG2.out.st.alloc _
   have hR5 : Hid (∃ cs, Blk W5 w.heap.size 109 cs /\ cs.size = 32) := by unfold Hid; rw [<- hW5]; obtain ⟨cs, h1, h2⟩ := hG2.out.res; exact ⟨cs, h1.alloc _, h2⟩
   have hB5 : Hid (Below w.heap.size w W5) := by unfold Hid; rw [<- hW5]; exact hG2.out.bel.alloc hG2.out.bel.size _
   have hob1 : Hid (w.heap.size < wr.heap.size /\ g3 < wr.heap.size) := ⟨by obtain ⟨cs, h1, _⟩ := hG2.out.res; exact h1.lt, hG2.out.st.lt⟩
   have hdl := Lib.hid (digest_len s)
   clear hW5 hG2 d1 d1'
   obtain ⟨ob, hob⟩ : ∃ ob, wr.heap.size = ob := ⟨_, rfl⟩
   rw [hob] at hO5 hob1 ⊢
   clear hob
   go_wp2_with fail
   go_loopw [13] (fun q wr => ∃ t : Nat, q = .int .i64 t /\ Hid (t <= 32) /\ Hid (OutAt wr ob 109 (digest s) 32 t) /\ Hid (Blk wr g3 113 (s8V s)) /\ Hid (∃ cs, Blk wr w.heap.size 109 cs /\ cs.size = 32) /\ Hid (Below w.heap.size w wr)) (fun q _ => 32 - (intOf q).toNat)
   case atStart => exact ⟨0, rfl, Nat.zero_le _, hO5, hS5, hR5, hB5⟩
   case round =>
    clear hO5 hS5 hR5 hB5
    obtain ⟨t, rfl, ht, hO, hst, hr, hB⟩ := hrel
    by_cases hlt : t < 32
    ·have d1 : decide (t < 32) = true := decide_eq_true hlt
     have d2 : decide ((t : Int) < 32) = true := decide_eq_true (by omega)
     obtain ⟨a, ha⟩ : ∃ a, t / 4 = a := ⟨_, rfl⟩
     obtain ⟨b4, hb4⟩ : ∃ b, t % 4 = b := ⟨_, rfl⟩
     have z1 : (t : Int) / 4 = (a : Int) := by omega
     have z2 : (t : Int) % 4 = (b4 : Int) := by omega
     have z3 : a < 8 := by omega
     have z4 : b4 < 4 := by omega
     have z5 : (a : Int) < 8 := by omega
     have z6 : (b4 : Int) < 4 := by omega
     have cw : wr.cell? ⟨g3, a, none⟩ = some (u32v (s.get a)) := by rw [hst.out.cell a]; exact s8V_at s a z3
     have hfz := Blk.frozen hO.out t
     obtain ⟨oc, hoc⟩ : ∃ oc, wr.cell? ⟨ob, t, none⟩ = some oc := by
      have := Blk.cell hO.out t
      rw [this]
      exact ⟨_, Array.getElem?_eq_getElem (by rw [outAt_size hdl.out ht]; exact hlt)⟩
     have hx := digest_at s t hlt
     rw [ha, hb4] at hx
     have hv := byte_val (s.get a).toNat (24 - 8 * b4)
     have hxH := Lib.hid hx
     have hvH := Lib.hid hv
     have hltH := Lib.hid hlt
     clear hx hv ha hb4
     go_wp2_with fail
     refine ⟨⟨t + 1, by go_num, hltH.out, ?_, ?_, ?_, ?_⟩, ?_⟩
     ·unfold Hid
      rw [hvH.out]
      exact OutAt.set_ hO.out hdl.out hltH.out _ hxH.out
     ·exact Blk.grown hst.out (grown_set' _ _ _ _) (by simpa using Nat.ne_of_lt hob1.out.2)
     ·obtain ⟨cs, h1, h2⟩ := hr.out
      exact ⟨cs, Blk.grown h1 (grown_set' _ _ _ _) (by simpa using Nat.ne_of_lt hob1.out.1), h2⟩
     ·exact Below.setCell (p := ⟨ob, t, none⟩) hB.out (Nat.le_of_lt hob1.out.1) _
     ·have := hltH.out
      simp [intOf]
      omega
    ·have d1 : decide (t < 32) = false := decide_eq_false hlt
     have d2 : decide ((t : Int) < 32) = false := decide_eq_false (by omega)
     have e32 : t = 32 := Nat.le_antisymm ht (Nat.le_of_not_lt hlt)
     have hO2 : Hid (Blk wr ob 109 ((digest s).map byteV).toArray) := by
      have h := hO.out
      rw [e32] at h
      exact OutAt.done h hdl.out
     have hlD : Hid (((digest s).map byteV).length = 32) := by unfold Hid; rw [List.length_map]; exact hdl.out
     have hoD : Hid (∀ v ∈ (digest s).map byteV, v.oneCell' = true) := byteV_one _
     have hfin2 : Hid ((sumL b).map byteV = (digest s).map byteV) := by unfold Hid; rw [hfin.out]
     generalize (digest s).map byteV = DG at *
     have hrgO := range_of_blk hO2.out
     obtain ⟨cs, hr1, hr2⟩ := hr.out
     have hr1H := Lib.hid hr1
     have hr2H := Lib.hid hr2
     clear hO e32 hlt ht hst hr hr1 hr2
     go_wp2_with (first | (refine wpList_load_mid rfl 109 _ rfl ob 0 rfl DG _ hrgO Tryz.underlying109 rfl ?hI1 ?_) | (refine wpList_store_mid rfl 109 _ _ rfl w.heap.size 0 DG.toArray rfl rfl ?hI2 ?hI3 ?hI4 ?_) | fail)
     case hI1 => rw [hlD.out]; exact infoA32b1
     case hI2 => rw [hlD.out]; exact there_of_blk (o := 0) hr1H.out (by rw [hr2H.out]; exact Nat.le_refl _)
     case hI3 => rw [hlD.out]; exact infoA32b1
     case hI4 => exact hoD.out
     have hL := blk_setWhole hr1H.out DG (by rw [hlD.out, hr2H.out])
     have hBL := below_setCells (g := w.heap.size) (Nat.le_refl _) DG 0 _ hB.out
     rw [hfin2.out]
     exact bodyPost_ret (results_c (P := Tryz.prog) rfl _ _ w.heap.size 109 DG.toArray _ rfl hL Tryz.underlying109 rfl (by rw [List.size_toArray, hlD.out]; exact infoA32b)) rfl ⟨rfl, hBL⟩
end Go.Proofs.YtpghocekofdpbaaGreatDoor
namespace Go.Proofs.YtpghocekofdpbaaGreatDoor
open Go.RowKit Go.Shelf
attribute [local go_sem] Oper.semAt_some b_xor_fin
set_option maxRecDepth 100000 in
set_option maxHeartbeats 1600000 in
theorem rbytes32_any (w : World) (D : List UInt8) (hD : D.length = 32) :
  Calls Tryz.prog 80 #[.agg (D.map byteV).toArray] w fun e w' => e = .returned (.string (txt D)) /\ Below w.heap.size w w' := by
 have hDl : Hid ((D.map byteV).length = 32) := by unfold Hid; rw [List.length_map, hD]
 have hDH := Lib.hid hD
 clear hD
 go_enter Tryz.func80, Tryz.ntmps80
 go_upto_region 1 with fail
 refine world_is (P := fun W => Code.wp _ _ _ _ W) (fun W1 hW1 => ?_)
 have HD1 : Hid (Blk W1 w.heap.size 109 (D.map byteV).toArray) := by unfold Hid; rw [<- hW1]; exact Blk.new w _ _
 have HB1 : Hid (Below w.heap.size w W1) := by unfold Hid; rw [<- hW1]; exact (Below.refl _ w).alloc (Nat.le_refl _) _
 have hbase : Hid (w.heap.size < W1.heap.size) := HD1.out.lt
 have HR1 : Hid (BRow W1 W1.heap.size (.slice none 0 0) (D.take 0)) := brow_nil W1 _
 clear hW1
 go_wp2_with fail
 go_loopw [3, 4] (fun v q wr => ∃ i : Nat, q = .int .i64 i /\ Hid (i <= 32) /\ Hid (BRow wr W1.heap.size v (D.take i)) /\ Hid (Blk wr w.heap.size 109 (D.map byteV).toArray) /\ Hid (Below w.heap.size w wr) /\ Hid (W1.heap.size <= wr.heap.size)) (fun _ q _ => 32 - (intOf q).toNat)
 case atStart => exact ⟨0, rfl, Nat.zero_le _, HR1, HD1, HB1, Nat.le_refl _⟩
 case round =>
  rename_i v0 _ _
  clear HR1 HD1 HB1
  obtain ⟨i, rfl, hi, hR, hd, hB, hz⟩ := hrel
  by_cases hlt : i < 32
  ·have d1 : decide (i < 32) = true := decide_eq_true hlt
   have d2 : decide ((i : Int) < 32) = true := decide_eq_true (by omega)
   have t2 : ¬ 32 <= (i : Int) := by omega
   obtain ⟨x, hx⟩ : ∃ x, D[i]? = some x := ⟨_, List.getElem?_eq_getElem (by rw [hDH.out]; exact hlt)⟩
   have cx : wr.cell? ⟨w.heap.size, i, none⟩ = some (byteV x) := by rw [hd.out.cell i, List.getElem?_toArray, List.getElem?_map, hx]; rfl
   have hsn : Hid (D.take (i + 1) = D.take i ++ [x]) := by unfold Hid; rw [List.take_add_one, hx]; rfl
   have hltH := Lib.hid hlt
   have hln : Hid ((D.take i).length < 99999999999) := by unfold Hid; rw [List.length_take]; omega
   clear hx hlt
   unfold byteV at cx
   go_wp2_with (at_builtin; refine wp_push rfl _ _ rfl W1.heap.size _ (D.take i) rfl hR.out 1 x rfl rfl hln.out hz.out ?_; intro v' w' hP; rw [<- hsn.out] at hP)
   have hd2 := Lib.hid (hd.out.grown hP.grown (fun e => by have h1 := hbase.out; have h2 := (hR.out.lt _ e.symm).1; omega))
   have hB2 := Lib.hid (hP.bel _ _ (Nat.le_of_lt hbase.out) hz.out hB.out)
   have hz2 := Lib.hid (Nat.le_trans hz.out hP.grown.size)
   have hR2 := Lib.hid hP.row
   have hwi : wrap64 ((i : Int) + 1) = ((i + 1 : Nat) : Int) := w64_is (i + 1) (by have := hltH.out; omega)
   refine ⟨⟨i + 1, by first | (rw [hwi]; done) | go_num, hltH.out, hR2, hd2, hB2, hz2⟩, ?_⟩
   have hm : 32 - (i + 1) < 32 - i := by have := hltH.out; omega
   try rw [hwi]
   exact hm
  ·have d1 : decide (i < 32) = false := decide_eq_false hlt
   have d2 : decide ((i : Int) < 32) = false := decide_eq_false (by omega)
   have hR2 : Hid (BRow wr W1.heap.size u3 D) := by
    have h := hR.out
    rw [List.take_of_length_le (by rw [hDH.out]; omega)] at h
    exact h
   have hcv := conv_row hR2.out
   clear hR hlt
   go_wp2_with fail
   go_ret
   exact ⟨rfl, hB.out⟩
end Go.Proofs.YtpghocekofdpbaaGreatDoor
namespace Go.Proofs.YtpghocekofdpbaaGreatDoor
open Go.RowKit Go.Shelf
attribute [local go_sem] Oper.semAt_some b_xor_fin
theorem padK_step (K : List UInt8) (c : UInt8) (hK : K.length <= 64) (i : Nat) (hi : i < 64) :
  (∃ x, K[i]? = some x /\ i < K.length /\ (padK K c).take (i + 1) = (padK K c).take i ++ [bxor x c]) \/ (K.length <= i /\ (padK K c).take (i + 1) = (padK K c).take i ++ [bxor 0 c]) := by
 by_cases h : i < K.length
 ·refine .inl ⟨K[i], List.getElem?_eq_getElem h, h, ?_⟩
  rw [List.take_add_one]
  unfold padK key64
  rw [List.getElem?_map, List.getElem?_append_left h, List.getElem?_eq_getElem h]
  rfl
 ·refine .inr ⟨by omega, ?_⟩
  rw [List.take_add_one]
  unfold padK key64
  rw [List.getElem?_map, List.getElem?_append_right (by omega), List.getElem?_replicate, if_pos (by omega)]
  rfl
set_option maxRecDepth 100000 in
set_option maxHeartbeats 1600000 in
theorem rpadKey_any (w : World) (key : ByteArray) (c : UInt8) (hk : key.size < 1000000000) (hK : KAt w 0) :
  Calls Tryz.prog 79 #[.string key, .int .u8 (c.toNat : Int)] w fun e w' => ∃ v', e = .returned v' /\ BRow w' w.heap.size v' (padK (keyOf (bl key)) c) /\ Below w.heap.size w w' := by
 have HK := Lib.hid hK
 clear hK
 have hbase := Lib.hid (Nat.le_refl w.heap.size)
 go_enter Tryz.func79, Tryz.ntmps79
 go_upto_if 12 with fail
 go_cut [5] from 9 (fun v wx => ∃ kk : ByteArray, v = .string kk /\ Hid (bl kk = keyOf (bl key)) /\ Hid (Below w.heap.size w wx))
 case first =>
  by_cases h64 : key.size <= 64
  ·have d1 : decide ((64 : Int) < (key.size : Int)) = false := decide_eq_false (by omega)
   have t1 : (key.size : Int) <= 64 := by omega
   have hkk : Hid (bl key = keyOf (bl key)) := by unfold Hid keyOf; rw [if_pos (by rw [bl_len]; exact h64)]
   clear hk h64
   go_wp2_with fail
   go_meet
   exact ⟨key, rfl, hkk, Below.refl _ w⟩
  ·have d1 : decide ((64 : Int) < (key.size : Int)) = true := decide_eq_true (by omega)
   have t1 : ¬ (key.size : Int) <= 64 := by omega
   obtain ⟨cc, w1, hcv, hba, hbel, hsz⟩ := conv_text w key
   have hlb : (bl key).length = key.size := bl_len key
   have hkk : Hid (bl (txt (sumL (bl key))) = keyOf (bl key)) := by unfold Hid keyOf; rw [if_neg (by rw [bl_len]; exact h64), bl_txt]
   have HSUM := Lib.hid (rsum_any w1 w.heap.size 0 cc key.size (bl key) hlb hba (by omega) (HK.out.below hbel))
   have hl32 : Hid ((sumL (bl key)).length = 32) := sumL_len _
   have hbelH := Lib.hid hbel
   generalize sumL (bl key) = D at *
   clear hba hbel hsz hlb h64 hk
   go_wp2_with (first
    | (go_at_call 80; refine (rbytes32_any _ D hl32.out).mono ?_; rintro e w3 ⟨rfl, hB⟩; have HB3 := Lib.hid (HB2.out.trans (hB.mono HB2.out.size)); clear hB)
    | (go_at_call 81; refine HSUM.out.mono ?_; rintro e w2 ⟨rfl, hB⟩; have HB2 := Lib.hid (hbelH.out.trans (hB.mono hbelH.out.size)); clear hB)
    | fail)
   go_meet
   exact ⟨txt D, rfl, hkk, HB3.out⟩
 case rest =>
 obtain ⟨kk, rfl, hkk, hB0⟩ := hcut
 have hkl : (keyOf (bl key)).length <= 64 := keyOf_len _
 have hks : kk.size = (keyOf (bl key)).length := by rw [<- hkk.out, bl_len]
 obtain ⟨K, hK0⟩ : ∃ K, keyOf (bl key) = K := ⟨_, rfl⟩
 rw [hK0] at hkk hkl hks
 have hst := Lib.hid (padK_step K c hkl)
 have hpl := Lib.hid (padK_len K c hkl)
 have hksH := Lib.hid hks
 have HR1 : Hid (BRow wc w.heap.size (.slice none 0 0) ((padK K c).take 0)) := brow_nil wc _
 have hz0 := Lib.hid hB0.out.size
 clear hkl hks HK
 have hK0H := Lib.hid hK0
 clear hK0
 obtain ⟨L, hL0⟩ : ∃ L, padK K c = L := ⟨_, rfl⟩
 rw [hL0] at HR1 hst hpl
 have hL0H := Lib.hid hL0
 clear hL0
 go_wp2_with fail
 go_loopw [6, 7] (fun v q wr => ∃ i : Nat, q = .int .i64 i /\ Hid (i <= 64) /\ Hid (BRow wr w.heap.size v (L.take i)) /\ Hid (Below w.heap.size w wr)) (fun _ q _ => 64 - (intOf q).toNat)
 case atStart => exact ⟨0, rfl, Nat.zero_le _, HR1, hB0⟩
 case round =>
  clear HR1 hB0 hz0
  obtain ⟨i, rfl, hi, hR, hB⟩ := hrel
  by_cases hlt : i < 64
  ·have d1 : decide (i < 64) = true := decide_eq_true hlt
   have d2 : decide ((i : Int) < 64) = true := decide_eq_true (by omega)
   have hltH := Lib.hid hlt
   have hln : Hid ((L.take i).length < 99999999999) := by unfold Hid; rw [List.length_take]; omega
   have hwi : wrap64 ((i : Int) + 1) = ((i + 1 : Nat) : Int) := w64_is (i + 1) (by omega)
   have hm : Hid (64 - (i + 1) < 64 - i) := by unfold Hid; omega
   rcases hst.out i hlt with ⟨x, hx, hxl, hsn⟩ | ⟨hge, hsn⟩
   ·have t3 : decide (i < kk.size) = true := decide_eq_true (by rw [hksH.out]; omega)
    have d3 : decide ((i : Int) < (kk.size : Int)) = true := decide_eq_true (by rw [hksH.out]; omega)
    have hix := fun wx => text_index wx kk i x (by rw [hkk.out]; exact hx)
    have hxf := b_xor_fin x c
    have hsnH := Lib.hid hsn
    clear hx hxl hsn hlt
    go_wp2_with (at_builtin; refine wp_push rfl _ _ rfl w.heap.size _ (L.take i) rfl hR.out 1 (bxor x c) rfl rfl hln.out hB.out.size ?_; intro v' w' hP; rw [<- hsnH.out] at hP)
    have hB2 := Lib.hid (hP.bel _ _ (Nat.le_refl _) hB.out.size hB.out)
    have hR2 := Lib.hid hP.row
    refine ⟨⟨i + 1, by first | (rw [hwi]; done) | go_num, hltH.out, hR2, hB2⟩, ?_⟩
    try rw [hwi]
    exact hm.out
   ·have t3 : decide (i < kk.size) = false := decide_eq_false (by rw [hksH.out]; omega)
    have d3 : decide ((i : Int) < (kk.size : Int)) = false := decide_eq_false (by rw [hksH.out]; omega)
    have hxf : bits .xor .u8 0 (c.toNat : Int) = ((bxor 0 c).toNat : Int) := b_xor_fin 0 c
    have hsnH := Lib.hid hsn
    clear hge hsn hlt
    go_wp2_with (at_builtin; refine wp_push rfl _ _ rfl w.heap.size _ (L.take i) rfl hR.out 1 (bxor 0 c) rfl rfl hln.out hB.out.size ?_; intro v' w' hP; rw [<- hsnH.out] at hP)
    have hB2 := Lib.hid (hP.bel _ _ (Nat.le_refl _) hB.out.size hB.out)
    have hR2 := Lib.hid hP.row
    refine ⟨⟨i + 1, by first | (rw [hwi]; done) | go_num, hltH.out, hR2, hB2⟩, ?_⟩
    try rw [hwi]
    exact hm.out
  ·have d1 : decide (i < 64) = false := decide_eq_false hlt
   have d2 : decide ((i : Int) < 64) = false := decide_eq_false (by omega)
   have hR2 : Hid (BRow wr w.heap.size u6 L) := by
    have h := hR.out
    rw [List.take_of_length_le (by rw [hpl.out]; omega)] at h
    exact h
   clear hR hlt
   go_wp2_with fail
   go_ret
   exact ⟨_, rfl, by rw [hK0H.out, hL0H.out]; exact hR2.out, hB.out⟩
end Go.Proofs.YtpghocekofdpbaaGreatDoor
