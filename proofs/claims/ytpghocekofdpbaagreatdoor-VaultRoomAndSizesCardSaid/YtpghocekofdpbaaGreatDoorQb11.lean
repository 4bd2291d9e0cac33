import Derived.Test.YtpghocekofdpbaaGreatDoorQb10
namespace Go.Proofs.YtpghocekofdpbaaGreatDoor
open Go.RowKit Go.Shelf
attribute [local go_sem] Oper.semAt_some
section
variable {w : World} {d b g sb sc fb fc : Nat} {D : Dev}
set_option maxRecDepth 100000 in
set_option maxHeartbeats 1600000 in
theorem dImage_any (h : IsDev w d b g sb sc fb fc D) (hN : D.M.length <= 1048576) :
  Calls Tryz.prog 17 #[.pointer (some ⟨d, 0, none⟩)] w fun e w' => ∃ v, e = .returned v /\ NewTexts w w' v (D.M.map Sec.now) := by
 obtain ⟨c0, c1, c2, c3, c4, c5, c6⟩ := h.cells
 have HR := Lib.hid (Image_any h.mem hN)
 clear h
 go_enter Tryz.func17, Tryz.ntmps17
 go_wp2_with (first | (go_at_call 52; refine HR.out.mono ?_; rintro e w1 ⟨v, rfl, hT⟩; have HT := Lib.hid hT; clear hT))
 go_ret
 exact ⟨_, rfl, HT.out⟩
set_option maxRecDepth 100000 in
set_option maxHeartbeats 1600000 in
theorem dRestore_any (h : IsDev w d b g sb sc fb fc D) (v : Value) (I : List ByteArray) (hv : Texts w v I) (hN : I.length <= 1048576) :
  Calls Tryz.prog 21 #[.pointer (some ⟨d, 0, none⟩), v] w fun e w' => e = .returned (.int .i64 (if loadErr I D.M then 1 else 0)) /\ IsDev w' d b g sb sc fb fc { D with M := if loadErr I D.M then D.M else loadM I D.M } /\ DFr w w' d g sb fb := by
 obtain ⟨c0, c1, c2, c3, c4, c5, c6⟩ := h.cells
 have HR := Lib.hid (Load_any h.mem v I hv hN)
 have H := Lib.hid h
 generalize (if loadErr I D.M then D.M else loadM I D.M) = M2 at HR ⊢
 generalize (if loadErr I D.M then 1 else 0 : Int) = E at HR ⊢
 clear h hv
 go_enter Tryz.func21, Tryz.ntmps21
 go_wp2_with (first | (go_at_call 56; refine HR.out.mono ?_; rintro e w1 ⟨rfl, hM, hg⟩))
 go_ret
 exact ⟨rfl, H.out.turn hM hg, DFr.ofGrown hg (.inr (.inl rfl))⟩
set_option maxRecDepth 100000 in
set_option maxHeartbeats 1600000 in
theorem dMount_any (h : IsDev w d b g sb sc fb fc D) (hf : Fine D.M) (hN : D.M.length <= 1048576) (v : Value) (P : List Int) (pb po : Nat) (hv : RestAt v P.length 0 pb po) (hpg : pb ≠ g)
  (hc : ∀ i x, P[i]? = some x -> w.cell? ⟨pb, po + i, none⟩ = some (.int .i64 x)) :
  Calls Tryz.prog 27 #[.pointer (some ⟨d, 0, none⟩), v] w fun e w' => e = .returned (.tuple #[]) /\ IsDev w' d b g sb sc fb fc { D with M := doneM (pick P) D.M (idxs Sec.dirty D.M), down := false, left := -1 } /\ DFr w w' d g sb fb := by
 obtain ⟨c0, c1, c2, c3, c4, c5, c6⟩ := h.cells
 have HR := Lib.hid (Cut_any h.mem hf hN v P pb po hv hpg hc)
 have H := Lib.hid h
 generalize doneM (pick P) D.M (idxs Sec.dirty D.M) = M2 at HR ⊢
 clear h hv hc hf
 go_enter Tryz.func27, Tryz.ntmps27
 go_wp2_with (first | (go_at_call 62; refine HR.out.mono ?_; rintro e w1 ⟨rfl, hM, hg⟩; have h1 := H.out.turn hM hg; have y5 := h1.blk.cell 5; have y6 := h1.blk.cell 6; have z5 := h1.blk.frozen 5; have z6 := h1.blk.frozen 6; have H1 := Lib.hid h1; clear h1))
 go_end0
 have hg2 := grown_trans (grown_set w1 d 5 (.bool false)) (grown_set (w1.setCell ⟨d, 5, none⟩ (.bool false)) d 6 (.int .i64 (-1)))
 exact ⟨by simp, H1.out.scal hg2 rfl rfl rfl ((H1.out.blk.set_ 5 (.bool false)).set_ 6 (.int .i64 (-1))), (DFr.ofGrown hg (.inr (.inl rfl))).trans (DFr.ofGrown hg2 (.inl rfl))⟩
end
end Go.Proofs.YtpghocekofdpbaaGreatDoor
namespace Go.Proofs.YtpghocekofdpbaaGreatDoor
open Go.RowKit Go.Shelf
attribute [local go_sem] Oper.semAt_some
section
variable {w w' w2 : World} {d b g sb sc fb fc : Nat} {D : Dev}
set_option maxRecDepth 100000 in
set_option maxHeartbeats 4000000 in
theorem step_okb {Q : World -> Prop} (h : IsDev w d b g sb sc fb fc D) (hd : D.down = false) (hl : D.left ≠ 0) (hr : -1 <= D.left /\ D.left <= 9223372036854775807) (fi : Nat) (x : Value) (eg : ∀ args w, (callFunc fi args).run Tryz.prog w = .ok (.enter fi args) w)
  (HC : ∀ w2, IsDev w2 d b g sb sc fb fc { D with left := leftNext D.left } -> w.grownBy w2 (some d) -> Calls Tryz.prog fi #[x] w2 fun e w' => e = .returned (.tuple #[]) /\ Q w') :
  Calls Tryz.prog 116 #[.pointer (some ⟨d, 0, none⟩), .int .i64 0, .func (.func fi) #[x] #[]] w fun e w' => e = .returned (.int .i64 0) /\ Q w' := by
 have hf := h.blk.frozen
 obtain ⟨c0, c1, c2, c3, c4, c5, c6⟩ := h.cells
 rw [hd] at c5
 have hb : (D.left == 0) = false := beq_f hl
 have hw64 : wrap64 (D.left - 1) = D.left - 1 := by unfold wrap64; omega
 have H := Lib.hid h
 have Hc := Lib.hid HC
 clear hd hl h hr HC
 go_enter Tryz.func116, Tryz.ntmps116
 go_wp2_with fail
 have hg := grown_set w d 6 (.int .i64 (leftNext D.left))
 have hD : IsDev (w.setCell ⟨d, 6, none⟩ (.int .i64 (leftNext D.left))) d b g sb sc fb fc { D with left := leftNext D.left } := H.out.scal hg rfl rfl rfl (by
  have := H.out.blk.set_ 6 (.int .i64 (leftNext D.left))
  exact this)
 refine (Hc.out _ hD hg).mono ?_
 rintro e w' ⟨rfl, hQ⟩
 have HQ := Lib.hid hQ
 clear hQ
 go_wp2_with fail
 go_ret
 exact ⟨rfl, HQ.out⟩
theorem step_anyb (h : IsDev w d b g sb sc fb fc D) (hr : -1 <= D.left /\ D.left <= 9223372036854775807) (check : Int) (fi : Nat) (x : Value) (eg : ∀ args w, (callFunc fi args).run Tryz.prog w = .ok (.enter fi args) w) (f : Dev -> Dev)
  (HC : check = 0 -> ∀ w2, IsDev w2 d b g sb sc fb fc { D with left := leftNext D.left } -> w.grownBy w2 (some d) -> Calls Tryz.prog fi #[x] w2 fun e w' => e = .returned (.tuple #[]) /\ IsDev w' d b g sb sc fb fc (f { D with left := leftNext D.left }) /\ DFr w2 w' d g sb fb) :
  Calls Tryz.prog 116 #[.pointer (some ⟨d, 0, none⟩), .int .i64 check, .func (.func fi) #[x] #[]] w fun e w' => e = .returned (.int .i64 (D.dstep check f).1) /\ IsDev w' d b g sb sc fb fc (D.dstep check f).2 /\ DFr w w' d g sb fb := by
 unfold Dev.dstep
 by_cases hd : D.down = true
 ·rw [if_pos hd]
  refine (step_down h hd check _).mono ?_
  rintro e w' ⟨rfl, rfl⟩
  exact ⟨rfl, h, DFr.refl _⟩
 ·rw [if_neg hd]
  have hd' : D.down = false := by simpa using hd
  by_cases hc : check ≠ 0
  ·rw [if_pos hc]
   refine (step_chk h hd' check hc _).mono ?_
   rintro e w' ⟨rfl, rfl⟩
   exact ⟨rfl, h, DFr.refl _⟩
  ·rw [if_neg hc]
   have hc' : check = 0 := by simpa using hc
   subst hc'
   by_cases hl : D.left = 0
   ·rw [if_pos hl]
    refine (step_fail h hd' hl _).mono ?_
    rintro e w' ⟨rfl, h1, h2⟩
    exact ⟨rfl, h1, DFr.ofGrown h2 (.inl rfl)⟩
   ·rw [if_neg hl]
    refine (step_okb (Q := fun w' => IsDev w' d b g sb sc fb fc (f { D with left := leftNext D.left }) /\ DFr w w' d g sb fb) h hd' hl hr fi x eg (fun w2 h1 h2 => (HC rfl w2 h1 h2).mono ?_)).mono ?_
    ·rintro e w' ⟨rfl, h3, h4⟩
     exact ⟨rfl, h3, (DFr.ofGrown h2 (.inl rfl)).trans h4⟩
    ·rintro e w' ⟨rfl, h3, h4⟩
     exact ⟨rfl, h3, h4⟩
theorem eg_flush (args : Array Value) (w : World) : (callFunc 157 args).run Tryz.prog w = .ok (.enter 157 args) w := by simp [go_sem]
theorem flush_step (h : IsDev w d b g sb sc fb fc D) (hr : -1 <= D.left /\ D.left <= 9223372036854775807) (hf : Fine D.M) (hN : D.M.length <= 1048576) :
  Calls Tryz.prog 116 #[.pointer (some ⟨d, 0, none⟩), .int .i64 0, .func (.func 157) #[.pointer (some ⟨b, 0, none⟩)] #[]] w fun e w' => e = .returned (.int .i64 (D.dstep 0 fun D => { D with M := doneM (fun _ => 64) D.M (idxs Sec.dirty D.M) }).1) /\
   IsDev w' d b g sb sc fb fc (D.dstep 0 fun D => { D with M := doneM (fun _ => 64) D.M (idxs Sec.dirty D.M) }).2 /\ DFr w w' d g sb fb := by
 refine step_anyb h hr _ _ _ eg_flush _ (fun hc w2 h2 hg => ?_)
 refine (Flush_any h2.mem hf hN).mono ?_
 rintro e w' ⟨rfl, h3, h4⟩
 exact ⟨rfl, h2.turn h3 h4, DFr.ofGrown h4 (.inr (.inl rfl))⟩
set_option maxRecDepth 100000 in
set_option maxHeartbeats 1600000 in
theorem dFlush_any (h : IsDev w d b g sb sc fb fc D) (hr : -1 <= D.left /\ D.left <= 9223372036854775807) (hf : Fine D.M) (hN : D.M.length <= 1048576) :
  Calls Tryz.prog 126 #[.pointer (some ⟨d, 0, none⟩)] w fun e w' => e = .returned (.int .i64 (D.dstep 0 fun D => { D with M := doneM (fun _ => 64) D.M (idxs Sec.dirty D.M) }).1) /\
   IsDev w' d b g sb sc fb fc (D.dstep 0 fun D => { D with M := doneM (fun _ => 64) D.M (idxs Sec.dirty D.M) }).2 /\ DFr w w' d g sb fb := by
 obtain ⟨c0, c1, c2, c3, c4, c5, c6⟩ := h.cells
 have HS := Lib.hid (flush_step h hr hf hN)
 generalize (D.dstep 0 fun D => { D with M := doneM (fun _ => 64) D.M (idxs Sec.dirty D.M) }) = R at HS ⊢
 obtain ⟨r, E⟩ := R
 dsimp only at HS ⊢
 clear h hr hf
 go_enter Tryz.func126, Tryz.ntmps126
 go_wp2_with (first | (go_at_call 116; refine HS.out.mono ?_; rintro e w' ⟨rfl, hE, hF⟩))
 go_ret
 exact ⟨rfl, hE, hF⟩
end
end Go.Proofs.YtpghocekofdpbaaGreatDoor
namespace Go.Proofs.YtpghocekofdpbaaGreatDoor
open Go.RowKit Go.Shelf
attribute [local go_sem] Oper.semAt_some
section
variable {w : World} {d b g sb sc fb fc : Nat} {D : Dev}
theorem below_drewN {B : Nat} {a w : World} (h : Below B a w) (q : Nat) : Below B a (w.drewN q) := ⟨h.os, h.tape, h.output, h.size, h.block⟩
end
end Go.Proofs.YtpghocekofdpbaaGreatDoor
namespace Go.Proofs.YtpghocekofdpbaaGreatDoor
open Go.RowKit Go.Shelf
attribute [local go_sem] Oper.semAt_some
theorem rep32 (w : World) : Calls Tryz.prog 95 #[.string ⟨#[0]⟩, .int .i64 32] w fun e w' => e = .returned (.string zero32) /\ Below w.heap.size w w' := by
 refine (Tryz.strings_Repeat ⟨#[0]⟩ 32 w (by omega) (by show 1 * 32 <= 140737488355328; omega)).mono ?_
 rintro e w' ⟨rfl, hB⟩
 refine ⟨?_, hB⟩
 have h : (⟨(Lib.repeatL (⟨#[0]⟩ : ByteArray).data.toList 32).toArray⟩ : ByteArray) = zero32 := by kernel_rfl
 rw [h]
set_option maxRecDepth 100000 in
set_option maxHeartbeats 1600000 in
theorem empty_any (w : World) : Calls Tryz.prog 91 #[] w fun e w' => e = .returned (.string zero32) /\ Below w.heap.size w w' := by
 go_enter Tryz.func91, Tryz.ntmps91
 go_wp2_with (first | (go_at_call 95; refine (rep32 _).mono ?_; rintro e w1 ⟨rfl, hB1⟩))
 go_ret
 exact ⟨rfl, hB1⟩
def emptied (l : List ByteArray) (k : Nat) : List ByteArray := List.replicate k zero32 ++ l.drop k
theorem emptied_len (l : List ByteArray) (k : Nat) (h : k <= l.length) : (emptied l k).length = l.length := by simp [emptied]; omega
theorem emptied_set (l : List ByteArray) (k : Nat) (h : k < l.length) : (emptied l k).set k zero32 = emptied l (k + 1) := by
 unfold emptied
 rw [List.set_append_right _ _ (by simp), List.length_replicate, Nat.sub_self, List.drop_eq_getElem_cons h, List.set_cons_zero, List.replicate_succ', List.append_assoc]
 rfl
section
variable {w : World} {d b g sb sc fb fc : Nat} {D : Dev}
set_option maxRecDepth 100000 in
set_option maxHeartbeats 1600000 in
theorem dBattery_any (h : IsDev w d b g sb sc fb fc D) (hN : D.slots.length <= 1048576) :
  Calls Tryz.prog 54 #[.pointer (some ⟨d, 0, none⟩)] w fun e w' => e = .returned (.tuple #[]) /\ IsDev w' d b g sb sc fb fc { D with slots := List.replicate D.slots.length zero32 } /\ DFr w w' d g sb fb := by
 obtain ⟨c0, c1, c2, c3, c4, c5, c6⟩ := h.cells
 have H := Lib.hid h
 obtain ⟨N, hNN⟩ : ∃ N, D.slots.length = N := ⟨_, rfl⟩
 rw [hNN] at c0 hN
 have HN := Lib.hid hNN
 clear h hNN
 go_enter Tryz.func54, Tryz.ntmps54
 go_wp2_with fail
 go_loopw [9] (fun i wr => ∃ k : Nat, k <= N /\ i = .int .i64 k /\ IsDev wr d b g sb sc fb fc { D with slots := emptied D.slots k } /\ DFr w wr d g sb fb) (fun i _ => N - (intOf i).toNat)
 case atStart => exact ⟨0, Nat.zero_le _, rfl, H.out, DFr.refl _⟩
 case round =>
  obtain ⟨k, hk, rfl, hD, hF⟩ := hrel
  by_cases hkN : k < N
  ·have hd : decide (k < N) = true := decide_eq_true hkN
   have hkl : k < D.slots.length := by have := HN.out; omega
   have hel : (emptied D.slots k).length = N := (emptied_len _ _ (by omega)).trans HN.out
   have HD := Lib.hid hD
   have HF := Lib.hid hF
   have hk0 : (0 : Int) <= (k : Int) := by omega
   have hk1 : (k : Int) < (N : Int) := by omega
   have hwk : wrap64 ((k : Int) + 1) = (k : Int) + 1 := by unfold wrap64; omega
   have y0 := hD.blk.cell 0
   dsimp only at y0
   rw [hel] at y0
   have hstep : Hid (∀ w1, Below wr.heap.size wr.drew w1 -> w1.cell? ⟨d, 0, none⟩ = some (.slice (some ⟨sb, 0, none⟩) N sc) /\ (∃ o, w1.cell? ⟨sb, k, none⟩ = some o) /\ w1.frozen? ⟨sb, k, none⟩ = false /\ (w1.setCell ⟨sb, k, none⟩ (.string zero32)).cell? ⟨d, 0, none⟩ = some (.slice (some ⟨sb, 0, none⟩) N sc) /\
     IsDev (w1.setCell ⟨sb, k, none⟩ (.string zero32)) d b g sb sc fb fc { D with slots := emptied D.slots (k + 1) } /\ DFr w (w1.setCell ⟨sb, k, none⟩ (.string zero32)) d g sb fb) := by
    intro w1 hB
    have hb : Below wr.heap.size wr w1 := (Below.refl _ wr).drew.trans hB
    have h1 := HD.out.below hb
    obtain ⟨s1, s2⟩ := h1.slotSet k zero32
    dsimp only at s1
    rw [emptied_set _ _ hkl] at s1
    have z0 := h1.blk.cell 0
    have z1 := s1.blk.cell 0
    dsimp only at z0 z1
    rw [hel] at z0
    rw [emptied_len _ _ (by omega), HN.out] at z1
    have zc : w1.cell? ⟨sb, k, none⟩ = some (.string ((emptied D.slots k).getD k ⟨#[]⟩)) := by
     have e1 := h1.srow.cellAt k (by dsimp only; rw [hel]; omega)
     have e2 : (emptied D.slots k)[k]? = some ((emptied D.slots k).getD k ⟨#[]⟩) := by
      rw [List.getD_eq_getElem?_getD, List.getElem?_eq_getElem (by omega)]
      rfl
     rw [e1]
     dsimp only
     unfold strCells
     rw [List.getElem?_map, e2]
     rfl
    exact ⟨z0, ⟨_, zc⟩, h1.srow.frozenAt k, z1, s1, DFr.trans (w' := wr) HF.out (DFr.trans (w' := w1) (DFr.ofBelow hb) (DFr.ofGrown s2 (.inr (.inr (.inl rfl)))))⟩
   have Hel := Lib.hid hel
   clear hD hF hel hkl
   go_wp2_with fail
   go_region_held3 (fun w' => w'.cell? ⟨d, 0, none⟩ = some (.slice (some ⟨sb, 0, none⟩) N sc)) (go_keep)
    (first | (go_at_call 91; refine (empty_any _).mono ?_; rintro e w1 ⟨rfl, hB1⟩; obtain ⟨a0, ⟨o1, a1⟩, a2, a3, hI, hFr⟩ := hstep.out _ hB1))
   go_wp2_with fail
   go_roundw
   case rel => exact ⟨k + 1, by omega, by go_num, hI, hFr⟩
   case measure => simp [intOf]; omega
  ·have hd : decide (k < N) = false := decide_eq_false hkN
   have hkN2 : k = N := by omega
   go_wp2_with fail
   go_end0
   refine ⟨by simp, ?_, hF⟩
   have e : emptied D.slots k = List.replicate D.slots.length zero32 := by
    unfold emptied
    rw [hkN2, <- HN.out, List.drop_length, List.append_nil]
   rw [e] at hD
   exact hD
end
end Go.Proofs.YtpghocekofdpbaaGreatDoor
namespace Go.Proofs.YtpghocekofdpbaaGreatDoor
open Go.RowKit Go.Shelf
attribute [local go_sem] Oper.semAt_some
theorem infoBool : (Tryz.prog.info? 4).map (fun i => (i.zero, i.size, i.bytes)) = some (some (.bool false), 1, 1) := by kernel_rfl
end Go.Proofs.YtpghocekofdpbaaGreatDoor
namespace Go.Proofs.YtpghocekofdpbaaGreatDoor
open Go.RowKit Go.Shelf
attribute [local go_sem] Oper.semAt_some
theorem infoByte : (Tryz.prog.info? 5).map (fun i => (i.zero, i.size, i.bytes)) = some (some (.int .u8 0), 1, 1) := by kernel_rfl
end Go.Proofs.YtpghocekofdpbaaGreatDoor
namespace Go.Proofs.YtpghocekofdpbaaGreatDoor
open Go.RowKit Go.Shelf
attribute [local go_sem] Oper.semAt_some
end Go.Proofs.YtpghocekofdpbaaGreatDoor
