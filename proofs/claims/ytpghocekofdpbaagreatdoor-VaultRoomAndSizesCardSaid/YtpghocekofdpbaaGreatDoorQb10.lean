import Derived.Test.YtpghocekofdpbaaGreatDoorQb00
import Derived.Test.YtpghocekofdpbaaGreatDoorQb03
import Derived.Test.YtpghocekofdpbaaGreatDoorQb09
import Derived.Laws.OwnMore
import Derived.StillTailTactics
namespace Go.Proofs.YtpghocekofdpbaaGreatDoor
open Go.RowKit Go.Shelf
attribute [local go_sem] Oper.semAt_some
section
variable {w : World} {d b g sb sc fb fc : Nat} {D : Dev}
set_option maxRecDepth 100000 in
set_option maxHeartbeats 4000000 in
theorem dWrite_neg (h : IsDev w d b g sb sc fb fc D) (_hr : -1 <= D.left /\ D.left <= 9223372036854775807) (i : Int) (t : ByteArray) (hi : i < 0) (R : Int) (E : Dev) (HE : ∀ w2 bd bi bt, IsDev w2 d b g sb sc fb fc D -> Blk w2 bd 33 #[.pointer (some ⟨d, 0, none⟩)] -> Blk w2 bi 3 #[.int .i64 i] -> Blk w2 bt 9 #[.string t] ->
   Calls Tryz.prog 116 #[.pointer (some ⟨d, 0, none⟩), .int .i64 1, .func (.func 155) #[] #[.pointer (some ⟨bd, 0, none⟩), .pointer (some ⟨bi, 0, none⟩), .pointer (some ⟨bt, 0, none⟩)]] w2 fun e w' => e = .returned (.int .i64 R) /\ IsDev w' d b g sb sc fb fc E /\ DFr w2 w' d g sb fb) :
  Calls Tryz.prog 125 #[.pointer (some ⟨d, 0, none⟩), .int .i64 i, .string t] w fun e w' => e = .returned (.int .i64 R) /\ IsDev w' d b g sb sc fb fc E /\ DFr w w' d g sb fb := by
 have hs1 : ((w.alloc (.cells #[.pointer (some ⟨d, 0, none⟩)] 33)).alloc (.cells #[.int .i64 i] 3)).heap.size = w.heap.size + 1 + 1 := by simp
 have hs0 : (w.alloc (.cells #[.pointer (some ⟨d, 0, none⟩)] 33)).heap.size = w.heap.size + 1 := by simp
 have q1 : Blk (((w.alloc (.cells #[.pointer (some ⟨d, 0, none⟩)] 33)).alloc (.cells #[.int .i64 i] 3)).alloc (.cells #[.string t] 9)) w.heap.size 33 #[.pointer (some ⟨d, 0, none⟩)] := ((Blk.new w _ _).alloc _).alloc _
 have q2 : Blk (((w.alloc (.cells #[.pointer (some ⟨d, 0, none⟩)] 33)).alloc (.cells #[.int .i64 i] 3)).alloc (.cells #[.string t] 9)) (w.heap.size + 1) 3 #[.int .i64 i] := by rw [<- hs0]; exact (Blk.new _ _ _).alloc _
 have q3 : Blk (((w.alloc (.cells #[.pointer (some ⟨d, 0, none⟩)] 33)).alloc (.cells #[.int .i64 i] 3)).alloc (.cells #[.string t] 9)) (w.heap.size + 1 + 1) 9 #[.string t] := by rw [<- hs1]; exact Blk.new _ _ _
 have hB : Below w.heap.size w (((w.alloc (.cells #[.pointer (some ⟨d, 0, none⟩)] 33)).alloc (.cells #[.int .i64 i] 3)).alloc (.cells #[.string t] 9)) := (((Below.refl _ w).alloc (Nat.le_refl _) _).alloc (by omega) _).alloc (by omega) _
 have ls := (h.srow.lt sb rfl).2
 have lf := (h.frow.lt fb rfl).2
 have ld := h.blk.lt
 have lg := h.mem.lt.2
 have HH := Lib.hid HE
 have H := Lib.hid h
 clear HE h hs1 hs0
 go_enter Tryz.func125, Tryz.ntmps125
 go_wp2_with fail
 generalize (((w.alloc (.cells #[.pointer (some ⟨d, 0, none⟩)] 33)).alloc (.cells #[.int .i64 i] 3)).alloc (.cells #[.string t] 9)) = W at q1 q2 q3 hB ⊢
 have hD : IsDev W.drew d b g sb sc fb fc D := H.out.below (hB.drew)
 have hBB := Lib.hid hB.drew
 have hst := Lib.hid (HH.out W.drew _ _ _ hD q1.drew q2.drew q3.drew)
 have hKK : Hid (∀ w', DFr W.drew w' d g sb fb -> Blk w' w.heap.size 33 #[.pointer (some ⟨d, 0, none⟩)] /\ Blk w' (w.heap.size + 1) 3 #[.int .i64 i] /\ Blk w' (w.heap.size + 1 + 1) 9 #[.string t]) := fun w' hF =>
  ⟨(hF.rest _ q1.lt (by omega) (by omega) (by omega) (by omega)).trans q1, (hF.rest _ q2.lt (by omega) (by omega) (by omega) (by omega)).trans q2, (hF.rest _ q3.lt (by omega) (by omega) (by omega) (by omega)).trans q3⟩
 have x1 := q1.cell 0
 have x2 := q2.cell 0
 have x3 := q3.cell 0
 have x4 := hD.blk.cell 4
 have HL := Lib.hid (len_any hD.mem)
 clear q1 q2 q3 hB hD ls lf ld lg _hr
 have d1 : decide (0 <= i) = false := decide_eq_false (by omega)
 clear hi
 refine wp_region_held_drew (S := (fun w' => w'.cell? ⟨w.heap.size, 0, none⟩ = some (.pointer (some ⟨d, 0, none⟩)) /\ w'.cell? ⟨w.heap.size + 1, 0, none⟩ = some (.int .i64 i) /\ w'.cell? ⟨w.heap.size + 1 + 1, 0, none⟩ = some (.string t) /\ w'.cell? ⟨d, 4, none⟩ = some (.pointer (some ⟨b, 0, none⟩)))) (by kernel_rfl) ⟨x1, x2, x3, x4⟩ (fun hHeld => ?_)
 refine' tk 0 rfl hHeld ?_
 try simp only [Act.put, zq]
 refine' tk 1 rfl hHeld ?_
 try simp only [Act.put]
 refine' tk 2 rfl hHeld ?_
 try simp only [Act.put]
 refine' tk 3 rfl hHeld ?_
 try simp only [Act.put]
 refine tu 4 rfl hHeld ?_
 try simp only [Act.put]
 refine tu 5 rfl hHeld ?_
 try simp only [Act.put]
 refine tu 6 rfl hHeld ?_
 try simp only [Act.put]
 refine tu 7 rfl hHeld ?_
 try simp only [Act.put]
 refine tu 8 rfl hHeld ?_
 try simp only [Act.put]
 refine tu 9 rfl hHeld ?_
 try simp only [Act.put]
 refine tu 10 rfl hHeld ?_
 try simp only [Act.put]
 refine' tk 11 rfl hHeld ?_
 try simp only [Act.put]
 refine' tk 12 rfl hHeld ?_
 try simp only [Act.put]
 refine tu 13 rfl hHeld ?_
 try simp only [Act.put]
 refine tu 14 rfl hHeld ?_
 try simp only [Act.put]
 refine tu 15 rfl hHeld ?_
 try simp only [Act.put]
 refine' tk 16 rfl hHeld ?_
 try simp only [Act.put]
 refine' tk 18 rfl hHeld ?_
 try simp only [Act.put]
 refine td 17 rfl (fun K hK => ?_)
 go_simp
 go_at_call 117; refine (valid_any _ false).mono ?_; rintro e w1 ⟨rfl, rfl⟩
 go_wp2_with fail
 refine hK.out _ _ ?_ (fun hHeld => ?_)
 ·exact hHeld
 clear hK K
 try simp only [Act.put, zq]
 refine td 19 rfl (fun K hK => ?_)
 go_simp
 go_at_call 116; refine hst.out.mono ?_; rintro e w' ⟨rfl, hE, hF⟩; obtain ⟨j1, j2, j3⟩ := hKK.out _ hF; have y1 := j1.cell 0; have y2 := j2.cell 0; have y3 := j3.cell 0; have y4 := hE.blk.cell 4
 go_wp2_with fail
 refine hK.out _ _ ?_ (fun hHeld => ?_)
 ·exact ⟨y1, y2, y3, y4⟩
 clear hK K
 try simp only [Act.put, zq]
 refine td 20 rfl (fun K hK => ?_)
 go_simp
 refine hK.out _ _ ?_ (fun hHeld => ?_)
 ·exact hHeld
 clear hK K
 try simp only [Act.put, zq]
 refine wpAnyH_done (by kernel_rfl) ?_ _
 go_wp2_with fail
 go_ret
 exact ⟨rfl, hE, (DFr.ofBelow hBB.out).trans hF⟩
set_option maxRecDepth 100000 in
set_option maxHeartbeats 4000000 in
theorem dWrite_beyond (h : IsDev w d b g sb sc fb fc D) (_hr : -1 <= D.left /\ D.left <= 9223372036854775807) (i : Int) (t : ByteArray) (hi : 0 <= i /\ (D.M.length : Int) <= i) (R : Int) (E : Dev) (HE : ∀ w2 bd bi bt, IsDev w2 d b g sb sc fb fc D -> Blk w2 bd 33 #[.pointer (some ⟨d, 0, none⟩)] -> Blk w2 bi 3 #[.int .i64 i] -> Blk w2 bt 9 #[.string t] ->
   Calls Tryz.prog 116 #[.pointer (some ⟨d, 0, none⟩), .int .i64 1, .func (.func 155) #[] #[.pointer (some ⟨bd, 0, none⟩), .pointer (some ⟨bi, 0, none⟩), .pointer (some ⟨bt, 0, none⟩)]] w2 fun e w' => e = .returned (.int .i64 R) /\ IsDev w' d b g sb sc fb fc E /\ DFr w2 w' d g sb fb) :
  Calls Tryz.prog 125 #[.pointer (some ⟨d, 0, none⟩), .int .i64 i, .string t] w fun e w' => e = .returned (.int .i64 R) /\ IsDev w' d b g sb sc fb fc E /\ DFr w w' d g sb fb := by
 have hs1 : ((w.alloc (.cells #[.pointer (some ⟨d, 0, none⟩)] 33)).alloc (.cells #[.int .i64 i] 3)).heap.size = w.heap.size + 1 + 1 := by simp
 have hs0 : (w.alloc (.cells #[.pointer (some ⟨d, 0, none⟩)] 33)).heap.size = w.heap.size + 1 := by simp
 have q1 : Blk (((w.alloc (.cells #[.pointer (some ⟨d, 0, none⟩)] 33)).alloc (.cells #[.int .i64 i] 3)).alloc (.cells #[.string t] 9)) w.heap.size 33 #[.pointer (some ⟨d, 0, none⟩)] := ((Blk.new w _ _).alloc _).alloc _
 have q2 : Blk (((w.alloc (.cells #[.pointer (some ⟨d, 0, none⟩)] 33)).alloc (.cells #[.int .i64 i] 3)).alloc (.cells #[.string t] 9)) (w.heap.size + 1) 3 #[.int .i64 i] := by rw [<- hs0]; exact (Blk.new _ _ _).alloc _
 have q3 : Blk (((w.alloc (.cells #[.pointer (some ⟨d, 0, none⟩)] 33)).alloc (.cells #[.int .i64 i] 3)).alloc (.cells #[.string t] 9)) (w.heap.size + 1 + 1) 9 #[.string t] := by rw [<- hs1]; exact Blk.new _ _ _
 have hB : Below w.heap.size w (((w.alloc (.cells #[.pointer (some ⟨d, 0, none⟩)] 33)).alloc (.cells #[.int .i64 i] 3)).alloc (.cells #[.string t] 9)) := (((Below.refl _ w).alloc (Nat.le_refl _) _).alloc (by omega) _).alloc (by omega) _
 have ls := (h.srow.lt sb rfl).2
 have lf := (h.frow.lt fb rfl).2
 have ld := h.blk.lt
 have lg := h.mem.lt.2
 have HH := Lib.hid HE
 have H := Lib.hid h
 clear HE h hs1 hs0
 go_enter Tryz.func125, Tryz.ntmps125
 go_wp2_with fail
 generalize (((w.alloc (.cells #[.pointer (some ⟨d, 0, none⟩)] 33)).alloc (.cells #[.int .i64 i] 3)).alloc (.cells #[.string t] 9)) = W at q1 q2 q3 hB ⊢
 have hD : IsDev W.drew d b g sb sc fb fc D := H.out.below (hB.drew)
 have hBB := Lib.hid hB.drew
 have hst := Lib.hid (HH.out W.drew _ _ _ hD q1.drew q2.drew q3.drew)
 have hKK : Hid (∀ w', DFr W.drew w' d g sb fb -> Blk w' w.heap.size 33 #[.pointer (some ⟨d, 0, none⟩)] /\ Blk w' (w.heap.size + 1) 3 #[.int .i64 i] /\ Blk w' (w.heap.size + 1 + 1) 9 #[.string t]) := fun w' hF =>
  ⟨(hF.rest _ q1.lt (by omega) (by omega) (by omega) (by omega)).trans q1, (hF.rest _ q2.lt (by omega) (by omega) (by omega) (by omega)).trans q2, (hF.rest _ q3.lt (by omega) (by omega) (by omega) (by omega)).trans q3⟩
 have x1 := q1.cell 0
 have x2 := q2.cell 0
 have x3 := q3.cell 0
 have x4 := hD.blk.cell 4
 have HL := Lib.hid (len_any hD.mem)
 clear q1 q2 q3 hB hD ls lf ld lg _hr
 have d1 : decide (0 <= i) = true := decide_eq_true hi.1
 have d2 : decide (i < (D.M.length : Int)) = false := decide_eq_false (by omega)
 clear hi
 refine wp_region_held_drew (S := (fun w' => w'.cell? ⟨w.heap.size, 0, none⟩ = some (.pointer (some ⟨d, 0, none⟩)) /\ w'.cell? ⟨w.heap.size + 1, 0, none⟩ = some (.int .i64 i) /\ w'.cell? ⟨w.heap.size + 1 + 1, 0, none⟩ = some (.string t) /\ w'.cell? ⟨d, 4, none⟩ = some (.pointer (some ⟨b, 0, none⟩)))) (by kernel_rfl) ⟨x1, x2, x3, x4⟩ (fun hHeld => ?_)
 refine' tk 0 rfl hHeld ?_
 try simp only [Act.put, zq]
 refine' tk 1 rfl hHeld ?_
 try simp only [Act.put]
 refine' tk 2 rfl hHeld ?_
 try simp only [Act.put]
 refine' tk 3 rfl hHeld ?_
 try simp only [Act.put]
 refine' tk 4 rfl hHeld ?_
 try simp only [Act.put]
 refine' tk 5 rfl hHeld ?_
 try simp only [Act.put]
 refine' tk 6 rfl hHeld ?_
 try simp only [Act.put]
 refine' tk 7 rfl hHeld ?_
 try simp only [Act.put]
 refine' tk 8 rfl hHeld ?_
 try simp only [Act.put]
 refine' tk 18 rfl hHeld ?_
 try simp only [Act.put]
 refine td 9 rfl (fun K hK => ?_)
 go_simp
 go_at_call 145; refine HL.out.mono ?_; rintro e w1 ⟨rfl, rfl⟩
 go_wp2_with fail
 refine hK.out _ _ ?_ (fun hHeld => ?_)
 ·exact hHeld
 clear hK K
 try simp only [Act.put, zq]
 refine' tk 10 rfl hHeld ?_
 try simp only [Act.put, zq]
 refine' tk 11 rfl hHeld ?_
 try simp only [Act.put]
 refine' tk 12 rfl hHeld ?_
 try simp only [Act.put]
 refine tu 13 rfl hHeld ?_
 try simp only [Act.put]
 refine tu 14 rfl hHeld ?_
 try simp only [Act.put]
 refine tu 15 rfl hHeld ?_
 try simp only [Act.put]
 refine' tk 16 rfl hHeld ?_
 try simp only [Act.put]
 refine td 17 rfl (fun K hK => ?_)
 go_simp
 go_at_call 117; refine (valid_any _ false).mono ?_; rintro e w1 ⟨rfl, rfl⟩
 go_wp2_with fail
 refine hK.out _ _ ?_ (fun hHeld => ?_)
 ·exact hHeld
 clear hK K
 try simp only [Act.put, zq]
 refine td 19 rfl (fun K hK => ?_)
 go_simp
 go_at_call 116; refine hst.out.mono ?_; rintro e w' ⟨rfl, hE, hF⟩; obtain ⟨j1, j2, j3⟩ := hKK.out _ hF; have y1 := j1.cell 0; have y2 := j2.cell 0; have y3 := j3.cell 0; have y4 := hE.blk.cell 4
 go_wp2_with fail
 refine hK.out _ _ ?_ (fun hHeld => ?_)
 ·exact ⟨y1, y2, y3, y4⟩
 clear hK K
 try simp only [Act.put, zq]
 refine td 20 rfl (fun K hK => ?_)
 go_simp
 refine hK.out _ _ ?_ (fun hHeld => ?_)
 ·exact hHeld
 clear hK K
 try simp only [Act.put, zq]
 refine wpAnyH_done (by kernel_rfl) ?_ _
 go_wp2_with fail
 go_ret
 exact ⟨rfl, hE, (DFr.ofBelow hBB.out).trans hF⟩
theorem dWrite_any (h : IsDev w d b g sb sc fb fc D) (hr : -1 <= D.left /\ D.left <= 9223372036854775807) (i : Int) (t : ByteArray) :
  Calls Tryz.prog 125 #[.pointer (some ⟨d, 0, none⟩), .int .i64 i, .string t] w fun e w' => e = .returned (.int .i64 (D.dstep (chk (isAt D.M i /\ t.size = 64)) fun D => { D with M := upd (fun s => s.write t) D.M i }).1) /\
   IsDev w' d b g sb sc fb fc (D.dstep (chk (isAt D.M i /\ t.size = 64)) fun D => { D with M := upd (fun s => s.write t) D.M i }).2 /\ DFr w w' d g sb fb := by
 by_cases hi : isAt D.M i
 ·by_cases ht : t.size = 64
  ·refine dWrite_in h hr i t hi ht _ _ fun w2 bd bi bt h2 k1 k2 k3 => ?_
   have := write_step h2 hr bd bi bt i t k1 k2 k3
   rw [chk_pos (⟨hi, ht⟩ : isAt D.M i /\ t.size = 64)] at this ⊢
   exact this
  ·refine dWrite_size h hr i t hi ht _ _ fun w2 bd bi bt h2 k1 k2 k3 => ?_
   have := write_step h2 hr bd bi bt i t k1 k2 k3
   rw [chk_neg (show ¬ (isAt D.M i /\ t.size = 64) from fun h => ht h.2)] at this ⊢
   exact this
 ·rcases not_isAt hi with h0 | h0
  ·refine dWrite_neg h hr i t h0 _ _ fun w2 bd bi bt h2 k1 k2 k3 => ?_
   have := write_step h2 hr bd bi bt i t k1 k2 k3
   rw [chk_neg (show ¬ (isAt D.M i /\ t.size = 64) from fun h => hi h.1)] at this ⊢
   exact this
  ·by_cases h1 : i < 0
   ·refine dWrite_neg h hr i t h1 _ _ fun w2 bd bi bt h2 k1 k2 k3 => ?_
    have := write_step h2 hr bd bi bt i t k1 k2 k3
    rw [chk_neg (show ¬ (isAt D.M i /\ t.size = 64) from fun h => hi h.1)] at this ⊢
    exact this
   ·refine dWrite_beyond h hr i t ⟨by omega, h0⟩ _ _ fun w2 bd bi bt h2 k1 k2 k3 => ?_
    have := write_step h2 hr bd bi bt i t k1 k2 k3
    rw [chk_neg (show ¬ (isAt D.M i /\ t.size = 64) from fun h => hi h.1)] at this ⊢
    exact this
end
end Go.Proofs.YtpghocekofdpbaaGreatDoor
namespace Go.Proofs.YtpghocekofdpbaaGreatDoor
open Go.RowKit Go.Shelf
attribute [local go_sem] Oper.semAt_some
section
variable {w : World} {d b g sb sc fb fc : Nat} {D : Dev}
theorem row_blk {e : TypeId} {xs : List Value} {n c r : Nat} {base size : Nat} (h : w.ownsRow base e size (.slice (some ⟨r, 0, none⟩) n c) n xs) : ∃ cur, Blk w r e cur := by
 rcases h.2 with ⟨h0, _⟩ | ⟨g', cap, cur, h0, _, hg, _⟩
 ·cases h0
 ·cases h0
  exact ⟨cur, hg⟩
theorem strCells_set (l : List ByteArray) (i : Nat) (t : ByteArray) : strCells (l.set i t) = (strCells l).set i (.string t) := by simp [strCells, List.map_set]
theorem IsDev.slotSet (h : IsDev w d b g sb sc fb fc D) (i : Nat) (t : ByteArray) : IsDev (w.setCell ⟨sb, i, none⟩ (.string t)) d b g sb sc fb fc { D with slots := D.slots.set i t } /\ w.grownBy (w.setCell ⟨sb, i, none⟩ (.string t)) (some sb) := by
 obtain ⟨cap, cur, hbb, hgb, _⟩ := h.mem.body
 obtain ⟨fcur, hfb⟩ := row_blk h.frow
 obtain ⟨k1, k2⟩ := h.srow.stored i (.string t)
 refine ⟨⟨?_, h.mem.grown k2 (fun e => own_blk_ne h.srow hbb (by decide) (by rw [e]; rfl)) (fun e => own_blk_ne h.srow hgb (by decide) (by rw [e]; rfl)), ?_, ?_⟩, k2⟩
 ·have := h.blk.grown k2 (fun e => own_blk_ne h.srow h.blk (by decide) (by rw [e]; rfl))
  simpa using this
 ·dsimp only
  rw [List.length_set, strCells_set]
  exact k1
 ·exact h.frow.kept k2 (.inr (fun e => own_blk_ne h.srow hfb (by decide) (by have e' : some fb = some sb := e; rw [e']; rfl)))
theorem grown_drew_sb (w : World) (r : Option Nat) : w.grownBy w.drew r := grown_drewN w 1 r
set_option maxRecDepth 100000 in
set_option maxHeartbeats 4000000 in
theorem store1_any (h : IsDev w d b g sb sc fb fc D) (bd bi bt : Nat) (i : Nat) (hi : i < D.slots.length) (t : ByteArray) (k1 : Blk w bd 33 #[.pointer (some ⟨d, 0, none⟩)]) (k2 : Blk w bi 3 #[.int .i64 i]) (k3 : Blk w bt 9 #[.string t]) :
  Calls Tryz.prog 118 #[.pointer (some ⟨bt, 0, none⟩), .pointer (some ⟨bd, 0, none⟩), .pointer (some ⟨bi, 0, none⟩)] w fun e w' => e = .returned (.tuple #[]) /\
   IsDev w' d b g sb sc fb fc { D with slots := D.slots.set i t } /\ w.grownBy w' (some sb) := by
 have hD := h.below (Below.refl _ w).drew
 have hset := hD.slotSet i t
 have c0 := hD.blk.cell 0
 have h1 := k1.drew.cell 0
 have h2 := k2.drew.cell 0
 have h3 := k3.drew.cell 0
 obtain ⟨o, ho⟩ : ∃ o, D.slots[i]? = some o := ⟨_, List.getElem?_eq_getElem hi⟩
 have hc : w.drew.cell? ⟨sb, i, none⟩ = some (.string o) := by
  rw [hD.srow.cellAt i (by omega)]
  unfold strCells
  rw [List.getElem?_map, ho]
  rfl
 have hf := hD.srow.frozenAt i
 have hi0 : (0 : Int) <= (i : Int) := by omega
 have hi1 : (i : Int) < D.slots.length := by omega
 have HS := Lib.hid hset
 clear hset hD h k1 k2 k3 ho
 go_enter Tryz.func118, Tryz.ntmps118
 go_wp2_with fail
 refine wp_region_still_tail 8 (by kernel_rfl) (by kernel_rfl) ?_
 change wpStill _ _ w.drew (fun a' => wpList _ _ _ _ a' w.drew) _ _
 have HG := Lib.hid (grown_drew_sb w (some sb))
 generalize w.drew = W2 at c0 h1 h2 h3 hc hf HS HG ⊢
 simp only [List.take_succ_cons, List.take_zero, List.drop_succ_cons, List.drop_zero]
 repeat still_step
 refine wpStill_nil ?_
 change wpList _ _ _ _ _ W2
 go_wp2_with fail
 go_end0
 exact ⟨by simp, HS.out.1, grown_trans HG.out HS.out.2⟩
end
end Go.Proofs.YtpghocekofdpbaaGreatDoor
namespace Go.Proofs.YtpghocekofdpbaaGreatDoor
open Go.RowKit Go.Shelf
attribute [local go_sem] Oper.semAt_some
section
variable {w : World} {d b g sb sc fb fc : Nat} {D : Dev}
set_option maxRecDepth 100000 in
set_option maxHeartbeats 1600000 in
theorem dStore_in (h : IsDev w d b g sb sc fb fc D) (i : Int) (t : ByteArray) (hi : inS D.slots i) (ht : t.size = 32) (R : Int) (E : Dev) (hlen : E.slots.length = D.slots.length) (HE : ∀ w2 bd bi bt, IsDev w2 d b g sb sc fb fc D -> Blk w2 bd 33 #[.pointer (some ⟨d, 0, none⟩)] -> Blk w2 bi 3 #[.int .i64 i] -> Blk w2 bt 9 #[.string t] ->
   Calls Tryz.prog 116 #[.pointer (some ⟨d, 0, none⟩), .int .i64 0, .func (.func 118) #[] #[.pointer (some ⟨bt, 0, none⟩), .pointer (some ⟨bd, 0, none⟩), .pointer (some ⟨bi, 0, none⟩)]] w2 fun e w' => e = .returned (.int .i64 R) /\ IsDev w' d b g sb sc fb fc E /\ DFr w2 w' d g sb fb) :
  Calls Tryz.prog 83 #[.pointer (some ⟨d, 0, none⟩), .int .i64 i, .string t] w fun e w' => e = .returned (.int .i64 R) /\ IsDev w' d b g sb sc fb fc E /\ DFr w w' d g sb fb := by
 have hs1 : ((w.alloc (.cells #[.pointer (some ⟨d, 0, none⟩)] 33)).alloc (.cells #[.int .i64 i] 3)).heap.size = w.heap.size + 1 + 1 := by simp
 have hs0 : (w.alloc (.cells #[.pointer (some ⟨d, 0, none⟩)] 33)).heap.size = w.heap.size + 1 := by simp
 have q1 : Blk (((w.alloc (.cells #[.pointer (some ⟨d, 0, none⟩)] 33)).alloc (.cells #[.int .i64 i] 3)).alloc (.cells #[.string t] 9)) w.heap.size 33 #[.pointer (some ⟨d, 0, none⟩)] := ((Blk.new w _ _).alloc _).alloc _
 have q2 : Blk (((w.alloc (.cells #[.pointer (some ⟨d, 0, none⟩)] 33)).alloc (.cells #[.int .i64 i] 3)).alloc (.cells #[.string t] 9)) (w.heap.size + 1) 3 #[.int .i64 i] := by rw [<- hs0]; exact (Blk.new _ _ _).alloc _
 have q3 : Blk (((w.alloc (.cells #[.pointer (some ⟨d, 0, none⟩)] 33)).alloc (.cells #[.int .i64 i] 3)).alloc (.cells #[.string t] 9)) (w.heap.size + 1 + 1) 9 #[.string t] := by rw [<- hs1]; exact Blk.new _ _ _
 have hB : Below w.heap.size w (((w.alloc (.cells #[.pointer (some ⟨d, 0, none⟩)] 33)).alloc (.cells #[.int .i64 i] 3)).alloc (.cells #[.string t] 9)) := (((Below.refl _ w).alloc (Nat.le_refl _) _).alloc (by omega) _).alloc (by omega) _
 have ls := (h.srow.lt sb rfl).2
 have lf := (h.frow.lt fb rfl).2
 have ld := h.blk.lt
 have lg := h.mem.lt.2
 have HH := Lib.hid HE
 have H := Lib.hid h
 clear HE h hs1 hs0
 go_enter Tryz.func83, Tryz.ntmps83
 go_wp2_with fail
 generalize (((w.alloc (.cells #[.pointer (some ⟨d, 0, none⟩)] 33)).alloc (.cells #[.int .i64 i] 3)).alloc (.cells #[.string t] 9)) = W at q1 q2 q3 hB ⊢
 have hD : IsDev W.drew d b g sb sc fb fc D := H.out.below (hB.drew)
 have hBB := Lib.hid hB.drew
 have hst := Lib.hid (HH.out W.drew _ _ _ hD q1.drew q2.drew q3.drew)
 have hKK : Hid (∀ w', DFr W.drew w' d g sb fb -> Blk w' w.heap.size 33 #[.pointer (some ⟨d, 0, none⟩)] /\ Blk w' (w.heap.size + 1) 3 #[.int .i64 i] /\ Blk w' (w.heap.size + 1 + 1) 9 #[.string t]) := fun w' hF =>
  ⟨(hF.rest _ q1.lt (by omega) (by omega) (by omega) (by omega)).trans q1, (hF.rest _ q2.lt (by omega) (by omega) (by omega) (by omega)).trans q2, (hF.rest _ q3.lt (by omega) (by omega) (by omega) (by omega)).trans q3⟩
 have x1 := q1.cell 0
 have x2 := q2.cell 0
 have x3 := q3.cell 0
 have x4 := hD.blk.cell 0
 clear q1 q2 q3 hB hD ls lf ld lg
 have d1 : decide (0 <= i) = true := decide_eq_true hi.1
 have d2 : decide (i < (D.slots.length : Int)) = true := decide_eq_true hi.2
 have d3 : ((t.size : Int) == 32) = true := by rw [ht]; rfl
 clear hi ht
 refine wp_region_held_drew (S := (fun w' => w'.cell? ⟨w.heap.size, 0, none⟩ = some (.pointer (some ⟨d, 0, none⟩)) /\ w'.cell? ⟨w.heap.size + 1, 0, none⟩ = some (.int .i64 i) /\ w'.cell? ⟨w.heap.size + 1 + 1, 0, none⟩ = some (.string t) /\ w'.cell? ⟨d, 0, none⟩ = some (.slice (some ⟨sb, 0, none⟩) D.slots.length sc))) (by kernel_rfl) ⟨x1, x2, x3, x4⟩ (fun hHeld => ?_)
 refine' tk 0 rfl hHeld ?_
 try simp only [Act.put, zq]
 refine' tk 1 rfl hHeld ?_
 try simp only [Act.put]
 refine' tk 2 rfl hHeld ?_
 try simp only [Act.put]
 refine' tk 3 rfl hHeld ?_
 try simp only [Act.put]
 refine' tk 4 rfl hHeld ?_
 try simp only [Act.put]
 refine' tk 5 rfl hHeld ?_
 try simp only [Act.put]
 refine' tk 6 rfl hHeld ?_
 try simp only [Act.put]
 refine' tk 7 rfl hHeld ?_
 try simp only [Act.put]
 refine' tk 8 rfl hHeld ?_
 try simp only [Act.put]
 refine' tk 9 rfl hHeld ?_
 try simp only [Act.put]
 refine' tk 10 rfl hHeld ?_
 try simp only [Act.put]
 refine' tk 11 rfl hHeld ?_
 try simp only [Act.put]
 refine' tk 12 rfl hHeld ?_
 try simp only [Act.put]
 refine' tk 13 rfl hHeld ?_
 try simp only [Act.put]
 refine' tk 14 rfl hHeld ?_
 try simp only [Act.put]
 refine' tk 15 rfl hHeld ?_
 try simp only [Act.put]
 refine' tk 16 rfl hHeld ?_
 try simp only [Act.put]
 refine' tk 17 rfl hHeld ?_
 try simp only [Act.put]
 refine' tk 19 rfl hHeld ?_
 try simp only [Act.put]
 refine td 18 rfl (fun K hK => ?_)
 go_simp
 go_at_call 117; refine (valid_any _ true).mono ?_; rintro e w1 ⟨rfl, rfl⟩
 go_wp2_with fail
 refine hK.out _ _ ?_ (fun hHeld => ?_)
 ·exact hHeld
 clear hK K
 try simp only [Act.put, zq]
 refine td 20 rfl (fun K hK => ?_)
 go_simp
 go_at_call 116; refine hst.out.mono ?_; rintro e w' ⟨rfl, hE, hF⟩; obtain ⟨j1, j2, j3⟩ := hKK.out _ hF; have y1 := j1.cell 0; have y2 := j2.cell 0; have y3 := j3.cell 0; have y4 := hE.blk.cell 0; rw [hlen] at y4
 go_wp2_with fail
 refine hK.out _ _ ?_ (fun hHeld => ?_)
 ·exact ⟨y1, y2, y3, y4⟩
 clear hK K
 try simp only [Act.put, zq]
 refine td 21 rfl (fun K hK => ?_)
 go_simp
 refine hK.out _ _ ?_ (fun hHeld => ?_)
 ·exact hHeld
 clear hK K
 try simp only [Act.put, zq]
 refine wpAnyH_done (by kernel_rfl) ?_ _
 go_wp2_with fail
 go_ret
 exact ⟨rfl, hE, (DFr.ofBelow hBB.out).trans hF⟩
set_option maxRecDepth 100000 in
set_option maxHeartbeats 1600000 in
theorem dStore_size (h : IsDev w d b g sb sc fb fc D) (i : Int) (t : ByteArray) (hi : inS D.slots i) (ht : t.size ≠ 32) (R : Int) (E : Dev) (hlen : E.slots.length = D.slots.length) (HE : ∀ w2 bd bi bt, IsDev w2 d b g sb sc fb fc D -> Blk w2 bd 33 #[.pointer (some ⟨d, 0, none⟩)] -> Blk w2 bi 3 #[.int .i64 i] -> Blk w2 bt 9 #[.string t] ->
   Calls Tryz.prog 116 #[.pointer (some ⟨d, 0, none⟩), .int .i64 1, .func (.func 118) #[] #[.pointer (some ⟨bt, 0, none⟩), .pointer (some ⟨bd, 0, none⟩), .pointer (some ⟨bi, 0, none⟩)]] w2 fun e w' => e = .returned (.int .i64 R) /\ IsDev w' d b g sb sc fb fc E /\ DFr w2 w' d g sb fb) :
  Calls Tryz.prog 83 #[.pointer (some ⟨d, 0, none⟩), .int .i64 i, .string t] w fun e w' => e = .returned (.int .i64 R) /\ IsDev w' d b g sb sc fb fc E /\ DFr w w' d g sb fb := by
 have hs1 : ((w.alloc (.cells #[.pointer (some ⟨d, 0, none⟩)] 33)).alloc (.cells #[.int .i64 i] 3)).heap.size = w.heap.size + 1 + 1 := by simp
 have hs0 : (w.alloc (.cells #[.pointer (some ⟨d, 0, none⟩)] 33)).heap.size = w.heap.size + 1 := by simp
 have q1 : Blk (((w.alloc (.cells #[.pointer (some ⟨d, 0, none⟩)] 33)).alloc (.cells #[.int .i64 i] 3)).alloc (.cells #[.string t] 9)) w.heap.size 33 #[.pointer (some ⟨d, 0, none⟩)] := ((Blk.new w _ _).alloc _).alloc _
 have q2 : Blk (((w.alloc (.cells #[.pointer (some ⟨d, 0, none⟩)] 33)).alloc (.cells #[.int .i64 i] 3)).alloc (.cells #[.string t] 9)) (w.heap.size + 1) 3 #[.int .i64 i] := by rw [<- hs0]; exact (Blk.new _ _ _).alloc _
 have q3 : Blk (((w.alloc (.cells #[.pointer (some ⟨d, 0, none⟩)] 33)).alloc (.cells #[.int .i64 i] 3)).alloc (.cells #[.string t] 9)) (w.heap.size + 1 + 1) 9 #[.string t] := by rw [<- hs1]; exact Blk.new _ _ _
 have hB : Below w.heap.size w (((w.alloc (.cells #[.pointer (some ⟨d, 0, none⟩)] 33)).alloc (.cells #[.int .i64 i] 3)).alloc (.cells #[.string t] 9)) := (((Below.refl _ w).alloc (Nat.le_refl _) _).alloc (by omega) _).alloc (by omega) _
 have ls := (h.srow.lt sb rfl).2
 have lf := (h.frow.lt fb rfl).2
 have ld := h.blk.lt
 have lg := h.mem.lt.2
 have HH := Lib.hid HE
 have H := Lib.hid h
 clear HE h hs1 hs0
 go_enter Tryz.func83, Tryz.ntmps83
 go_wp2_with fail
 generalize (((w.alloc (.cells #[.pointer (some ⟨d, 0, none⟩)] 33)).alloc (.cells #[.int .i64 i] 3)).alloc (.cells #[.string t] 9)) = W at q1 q2 q3 hB ⊢
 have hD : IsDev W.drew d b g sb sc fb fc D := H.out.below (hB.drew)
 have hBB := Lib.hid hB.drew
 have hst := Lib.hid (HH.out W.drew _ _ _ hD q1.drew q2.drew q3.drew)
 have hKK : Hid (∀ w', DFr W.drew w' d g sb fb -> Blk w' w.heap.size 33 #[.pointer (some ⟨d, 0, none⟩)] /\ Blk w' (w.heap.size + 1) 3 #[.int .i64 i] /\ Blk w' (w.heap.size + 1 + 1) 9 #[.string t]) := fun w' hF =>
  ⟨(hF.rest _ q1.lt (by omega) (by omega) (by omega) (by omega)).trans q1, (hF.rest _ q2.lt (by omega) (by omega) (by omega) (by omega)).trans q2, (hF.rest _ q3.lt (by omega) (by omega) (by omega) (by omega)).trans q3⟩
 have x1 := q1.cell 0
 have x2 := q2.cell 0
 have x3 := q3.cell 0
 have x4 := hD.blk.cell 0
 clear q1 q2 q3 hB hD ls lf ld lg
 have d1 : decide (0 <= i) = true := decide_eq_true hi.1
 have d2 : decide (i < (D.slots.length : Int)) = true := decide_eq_true hi.2
 have d3 : ((t.size : Int) == 32) = false := beq_f (by omega)
 clear hi ht
 refine wp_region_held_drew (S := (fun w' => w'.cell? ⟨w.heap.size, 0, none⟩ = some (.pointer (some ⟨d, 0, none⟩)) /\ w'.cell? ⟨w.heap.size + 1, 0, none⟩ = some (.int .i64 i) /\ w'.cell? ⟨w.heap.size + 1 + 1, 0, none⟩ = some (.string t) /\ w'.cell? ⟨d, 0, none⟩ = some (.slice (some ⟨sb, 0, none⟩) D.slots.length sc))) (by kernel_rfl) ⟨x1, x2, x3, x4⟩ (fun hHeld => ?_)
 refine' tk 0 rfl hHeld ?_
 try simp only [Act.put, zq]
 refine' tk 1 rfl hHeld ?_
 try simp only [Act.put]
 refine' tk 2 rfl hHeld ?_
 try simp only [Act.put]
 refine' tk 3 rfl hHeld ?_
 try simp only [Act.put]
 refine' tk 4 rfl hHeld ?_
 try simp only [Act.put]
 refine' tk 5 rfl hHeld ?_
 try simp only [Act.put]
 refine' tk 6 rfl hHeld ?_
 try simp only [Act.put]
 refine' tk 7 rfl hHeld ?_
 try simp only [Act.put]
 refine' tk 8 rfl hHeld ?_
 try simp only [Act.put]
 refine' tk 9 rfl hHeld ?_
 try simp only [Act.put]
 refine' tk 10 rfl hHeld ?_
 try simp only [Act.put]
 refine' tk 11 rfl hHeld ?_
 try simp only [Act.put]
 refine' tk 12 rfl hHeld ?_
 try simp only [Act.put]
 refine' tk 13 rfl hHeld ?_
 try simp only [Act.put]
 refine' tk 14 rfl hHeld ?_
 try simp only [Act.put]
 refine' tk 15 rfl hHeld ?_
 try simp only [Act.put]
 refine' tk 16 rfl hHeld ?_
 try simp only [Act.put]
 refine' tk 17 rfl hHeld ?_
 try simp only [Act.put]
 refine' tk 19 rfl hHeld ?_
 try simp only [Act.put]
 refine td 18 rfl (fun K hK => ?_)
 go_simp
 go_at_call 117; refine (valid_any _ false).mono ?_; rintro e w1 ⟨rfl, rfl⟩
 go_wp2_with fail
 refine hK.out _ _ ?_ (fun hHeld => ?_)
 ·exact hHeld
 clear hK K
 try simp only [Act.put, zq]
 refine td 20 rfl (fun K hK => ?_)
 go_simp
 go_at_call 116; refine hst.out.mono ?_; rintro e w' ⟨rfl, hE, hF⟩; obtain ⟨j1, j2, j3⟩ := hKK.out _ hF; have y1 := j1.cell 0; have y2 := j2.cell 0; have y3 := j3.cell 0; have y4 := hE.blk.cell 0; rw [hlen] at y4
 go_wp2_with fail
 refine hK.out _ _ ?_ (fun hHeld => ?_)
 ·exact ⟨y1, y2, y3, y4⟩
 clear hK K
 try simp only [Act.put, zq]
 refine td 21 rfl (fun K hK => ?_)
 go_simp
 refine hK.out _ _ ?_ (fun hHeld => ?_)
 ·exact hHeld
 clear hK K
 try simp only [Act.put, zq]
 refine wpAnyH_done (by kernel_rfl) ?_ _
 go_wp2_with fail
 go_ret
 exact ⟨rfl, hE, (DFr.ofBelow hBB.out).trans hF⟩
set_option maxRecDepth 100000 in
set_option maxHeartbeats 1600000 in
theorem dStore_neg (h : IsDev w d b g sb sc fb fc D) (i : Int) (t : ByteArray) (hi : i < 0) (R : Int) (E : Dev) (hlen : E.slots.length = D.slots.length) (HE : ∀ w2 bd bi bt, IsDev w2 d b g sb sc fb fc D -> Blk w2 bd 33 #[.pointer (some ⟨d, 0, none⟩)] -> Blk w2 bi 3 #[.int .i64 i] -> Blk w2 bt 9 #[.string t] ->
   Calls Tryz.prog 116 #[.pointer (some ⟨d, 0, none⟩), .int .i64 1, .func (.func 118) #[] #[.pointer (some ⟨bt, 0, none⟩), .pointer (some ⟨bd, 0, none⟩), .pointer (some ⟨bi, 0, none⟩)]] w2 fun e w' => e = .returned (.int .i64 R) /\ IsDev w' d b g sb sc fb fc E /\ DFr w2 w' d g sb fb) :
  Calls Tryz.prog 83 #[.pointer (some ⟨d, 0, none⟩), .int .i64 i, .string t] w fun e w' => e = .returned (.int .i64 R) /\ IsDev w' d b g sb sc fb fc E /\ DFr w w' d g sb fb := by
 have hs1 : ((w.alloc (.cells #[.pointer (some ⟨d, 0, none⟩)] 33)).alloc (.cells #[.int .i64 i] 3)).heap.size = w.heap.size + 1 + 1 := by simp
 have hs0 : (w.alloc (.cells #[.pointer (some ⟨d, 0, none⟩)] 33)).heap.size = w.heap.size + 1 := by simp
 have q1 : Blk (((w.alloc (.cells #[.pointer (some ⟨d, 0, none⟩)] 33)).alloc (.cells #[.int .i64 i] 3)).alloc (.cells #[.string t] 9)) w.heap.size 33 #[.pointer (some ⟨d, 0, none⟩)] := ((Blk.new w _ _).alloc _).alloc _
 have q2 : Blk (((w.alloc (.cells #[.pointer (some ⟨d, 0, none⟩)] 33)).alloc (.cells #[.int .i64 i] 3)).alloc (.cells #[.string t] 9)) (w.heap.size + 1) 3 #[.int .i64 i] := by rw [<- hs0]; exact (Blk.new _ _ _).alloc _
 have q3 : Blk (((w.alloc (.cells #[.pointer (some ⟨d, 0, none⟩)] 33)).alloc (.cells #[.int .i64 i] 3)).alloc (.cells #[.string t] 9)) (w.heap.size + 1 + 1) 9 #[.string t] := by rw [<- hs1]; exact Blk.new _ _ _
 have hB : Below w.heap.size w (((w.alloc (.cells #[.pointer (some ⟨d, 0, none⟩)] 33)).alloc (.cells #[.int .i64 i] 3)).alloc (.cells #[.string t] 9)) := (((Below.refl _ w).alloc (Nat.le_refl _) _).alloc (by omega) _).alloc (by omega) _
 have ls := (h.srow.lt sb rfl).2
 have lf := (h.frow.lt fb rfl).2
 have ld := h.blk.lt
 have lg := h.mem.lt.2
 have HH := Lib.hid HE
 have H := Lib.hid h
 clear HE h hs1 hs0
 go_enter Tryz.func83, Tryz.ntmps83
 go_wp2_with fail
 generalize (((w.alloc (.cells #[.pointer (some ⟨d, 0, none⟩)] 33)).alloc (.cells #[.int .i64 i] 3)).alloc (.cells #[.string t] 9)) = W at q1 q2 q3 hB ⊢
 have hD : IsDev W.drew d b g sb sc fb fc D := H.out.below (hB.drew)
 have hBB := Lib.hid hB.drew
 have hst := Lib.hid (HH.out W.drew _ _ _ hD q1.drew q2.drew q3.drew)
 have hKK : Hid (∀ w', DFr W.drew w' d g sb fb -> Blk w' w.heap.size 33 #[.pointer (some ⟨d, 0, none⟩)] /\ Blk w' (w.heap.size + 1) 3 #[.int .i64 i] /\ Blk w' (w.heap.size + 1 + 1) 9 #[.string t]) := fun w' hF =>
  ⟨(hF.rest _ q1.lt (by omega) (by omega) (by omega) (by omega)).trans q1, (hF.rest _ q2.lt (by omega) (by omega) (by omega) (by omega)).trans q2, (hF.rest _ q3.lt (by omega) (by omega) (by omega) (by omega)).trans q3⟩
 have x1 := q1.cell 0
 have x2 := q2.cell 0
 have x3 := q3.cell 0
 have x4 := hD.blk.cell 0
 clear q1 q2 q3 hB hD ls lf ld lg
 have d1 : decide (0 <= i) = false := decide_eq_false (by omega)
 clear hi
 refine wp_region_held_drew (S := (fun w' => w'.cell? ⟨w.heap.size, 0, none⟩ = some (.pointer (some ⟨d, 0, none⟩)) /\ w'.cell? ⟨w.heap.size + 1, 0, none⟩ = some (.int .i64 i) /\ w'.cell? ⟨w.heap.size + 1 + 1, 0, none⟩ = some (.string t) /\ w'.cell? ⟨d, 0, none⟩ = some (.slice (some ⟨sb, 0, none⟩) D.slots.length sc))) (by kernel_rfl) ⟨x1, x2, x3, x4⟩ (fun hHeld => ?_)
 refine' tk 0 rfl hHeld ?_
 try simp only [Act.put, zq]
 refine' tk 1 rfl hHeld ?_
 try simp only [Act.put]
 refine' tk 2 rfl hHeld ?_
 try simp only [Act.put]
 refine' tk 3 rfl hHeld ?_
 try simp only [Act.put]
 refine tu 4 rfl hHeld ?_
 try simp only [Act.put]
 refine tu 5 rfl hHeld ?_
 try simp only [Act.put]
 refine tu 6 rfl hHeld ?_
 try simp only [Act.put]
 refine tu 7 rfl hHeld ?_
 try simp only [Act.put]
 refine tu 8 rfl hHeld ?_
 try simp only [Act.put]
 refine tu 9 rfl hHeld ?_
 try simp only [Act.put]
 refine tu 10 rfl hHeld ?_
 try simp only [Act.put]
 refine tu 11 rfl hHeld ?_
 try simp only [Act.put]
 refine' tk 12 rfl hHeld ?_
 try simp only [Act.put]
 refine' tk 13 rfl hHeld ?_
 try simp only [Act.put]
 refine tu 14 rfl hHeld ?_
 try simp only [Act.put]
 refine tu 15 rfl hHeld ?_
 try simp only [Act.put]
 refine tu 16 rfl hHeld ?_
 try simp only [Act.put]
 refine' tk 17 rfl hHeld ?_
 try simp only [Act.put]
 refine' tk 19 rfl hHeld ?_
 try simp only [Act.put]
 refine td 18 rfl (fun K hK => ?_)
 go_simp
 go_at_call 117; refine (valid_any _ false).mono ?_; rintro e w1 ⟨rfl, rfl⟩
 go_wp2_with fail
 refine hK.out _ _ ?_ (fun hHeld => ?_)
 ·exact hHeld
 clear hK K
 try simp only [Act.put, zq]
 refine td 20 rfl (fun K hK => ?_)
 go_simp
 go_at_call 116; refine hst.out.mono ?_; rintro e w' ⟨rfl, hE, hF⟩; obtain ⟨j1, j2, j3⟩ := hKK.out _ hF; have y1 := j1.cell 0; have y2 := j2.cell 0; have y3 := j3.cell 0; have y4 := hE.blk.cell 0; rw [hlen] at y4
 go_wp2_with fail
 refine hK.out _ _ ?_ (fun hHeld => ?_)
 ·exact ⟨y1, y2, y3, y4⟩
 clear hK K
 try simp only [Act.put, zq]
 refine td 21 rfl (fun K hK => ?_)
 go_simp
 refine hK.out _ _ ?_ (fun hHeld => ?_)
 ·exact hHeld
 clear hK K
 try simp only [Act.put, zq]
 refine wpAnyH_done (by kernel_rfl) ?_ _
 go_wp2_with fail
 go_ret
 exact ⟨rfl, hE, (DFr.ofBelow hBB.out).trans hF⟩
set_option maxRecDepth 100000 in
set_option maxHeartbeats 1600000 in
theorem dStore_beyond (h : IsDev w d b g sb sc fb fc D) (i : Int) (t : ByteArray) (hi : 0 <= i /\ (D.slots.length : Int) <= i) (R : Int) (E : Dev) (hlen : E.slots.length = D.slots.length) (HE : ∀ w2 bd bi bt, IsDev w2 d b g sb sc fb fc D -> Blk w2 bd 33 #[.pointer (some ⟨d, 0, none⟩)] -> Blk w2 bi 3 #[.int .i64 i] -> Blk w2 bt 9 #[.string t] ->
   Calls Tryz.prog 116 #[.pointer (some ⟨d, 0, none⟩), .int .i64 1, .func (.func 118) #[] #[.pointer (some ⟨bt, 0, none⟩), .pointer (some ⟨bd, 0, none⟩), .pointer (some ⟨bi, 0, none⟩)]] w2 fun e w' => e = .returned (.int .i64 R) /\ IsDev w' d b g sb sc fb fc E /\ DFr w2 w' d g sb fb) :
  Calls Tryz.prog 83 #[.pointer (some ⟨d, 0, none⟩), .int .i64 i, .string t] w fun e w' => e = .returned (.int .i64 R) /\ IsDev w' d b g sb sc fb fc E /\ DFr w w' d g sb fb := by
 have hs1 : ((w.alloc (.cells #[.pointer (some ⟨d, 0, none⟩)] 33)).alloc (.cells #[.int .i64 i] 3)).heap.size = w.heap.size + 1 + 1 := by simp
 have hs0 : (w.alloc (.cells #[.pointer (some ⟨d, 0, none⟩)] 33)).heap.size = w.heap.size + 1 := by simp
 have q1 : Blk (((w.alloc (.cells #[.pointer (some ⟨d, 0, none⟩)] 33)).alloc (.cells #[.int .i64 i] 3)).alloc (.cells #[.string t] 9)) w.heap.size 33 #[.pointer (some ⟨d, 0, none⟩)] := ((Blk.new w _ _).alloc _).alloc _
 have q2 : Blk (((w.alloc (.cells #[.pointer (some ⟨d, 0, none⟩)] 33)).alloc (.cells #[.int .i64 i] 3)).alloc (.cells #[.string t] 9)) (w.heap.size + 1) 3 #[.int .i64 i] := by rw [<- hs0]; exact (Blk.new _ _ _).alloc _
 have q3 : Blk (((w.alloc (.cells #[.pointer (some ⟨d, 0, none⟩)] 33)).alloc (.cells #[.int .i64 i] 3)).alloc (.cells #[.string t] 9)) (w.heap.size + 1 + 1) 9 #[.string t] := by rw [<- hs1]; exact Blk.new _ _ _
 have hB : Below w.heap.size w (((w.alloc (.cells #[.pointer (some ⟨d, 0, none⟩)] 33)).alloc (.cells #[.int .i64 i] 3)).alloc (.cells #[.string t] 9)) := (((Below.refl _ w).alloc (Nat.le_refl _) _).alloc (by omega) _).alloc (by omega) _
 have ls := (h.srow.lt sb rfl).2
 have lf := (h.frow.lt fb rfl).2
 have ld := h.blk.lt
 have lg := h.mem.lt.2
 have HH := Lib.hid HE
 have H := Lib.hid h
 clear HE h hs1 hs0
 go_enter Tryz.func83, Tryz.ntmps83
 go_wp2_with fail
 generalize (((w.alloc (.cells #[.pointer (some ⟨d, 0, none⟩)] 33)).alloc (.cells #[.int .i64 i] 3)).alloc (.cells #[.string t] 9)) = W at q1 q2 q3 hB ⊢
 have hD : IsDev W.drew d b g sb sc fb fc D := H.out.below (hB.drew)
 have hBB := Lib.hid hB.drew
 have hst := Lib.hid (HH.out W.drew _ _ _ hD q1.drew q2.drew q3.drew)
 have hKK : Hid (∀ w', DFr W.drew w' d g sb fb -> Blk w' w.heap.size 33 #[.pointer (some ⟨d, 0, none⟩)] /\ Blk w' (w.heap.size + 1) 3 #[.int .i64 i] /\ Blk w' (w.heap.size + 1 + 1) 9 #[.string t]) := fun w' hF =>
  ⟨(hF.rest _ q1.lt (by omega) (by omega) (by omega) (by omega)).trans q1, (hF.rest _ q2.lt (by omega) (by omega) (by omega) (by omega)).trans q2, (hF.rest _ q3.lt (by omega) (by omega) (by omega) (by omega)).trans q3⟩
 have x1 := q1.cell 0
 have x2 := q2.cell 0
 have x3 := q3.cell 0
 have x4 := hD.blk.cell 0
 clear q1 q2 q3 hB hD ls lf ld lg
 have d1 : decide (0 <= i) = true := decide_eq_true hi.1
 have d2 : decide (i < (D.slots.length : Int)) = false := decide_eq_false (by omega)
 clear hi
 refine wp_region_held_drew (S := (fun w' => w'.cell? ⟨w.heap.size, 0, none⟩ = some (.pointer (some ⟨d, 0, none⟩)) /\ w'.cell? ⟨w.heap.size + 1, 0, none⟩ = some (.int .i64 i) /\ w'.cell? ⟨w.heap.size + 1 + 1, 0, none⟩ = some (.string t) /\ w'.cell? ⟨d, 0, none⟩ = some (.slice (some ⟨sb, 0, none⟩) D.slots.length sc))) (by kernel_rfl) ⟨x1, x2, x3, x4⟩ (fun hHeld => ?_)
 refine' tk 0 rfl hHeld ?_
 try simp only [Act.put, zq]
 refine' tk 1 rfl hHeld ?_
 try simp only [Act.put]
 refine' tk 2 rfl hHeld ?_
 try simp only [Act.put]
 refine' tk 3 rfl hHeld ?_
 try simp only [Act.put]
 refine' tk 4 rfl hHeld ?_
 try simp only [Act.put]
 refine' tk 5 rfl hHeld ?_
 try simp only [Act.put]
 refine' tk 6 rfl hHeld ?_
 try simp only [Act.put]
 refine' tk 7 rfl hHeld ?_
 try simp only [Act.put]
 refine' tk 8 rfl hHeld ?_
 try simp only [Act.put]
 refine' tk 9 rfl hHeld ?_
 try simp only [Act.put]
 refine' tk 10 rfl hHeld ?_
 try simp only [Act.put]
 refine' tk 11 rfl hHeld ?_
 try simp only [Act.put]
 refine' tk 12 rfl hHeld ?_
 try simp only [Act.put]
 refine' tk 13 rfl hHeld ?_
 try simp only [Act.put]
 refine tu 14 rfl hHeld ?_
 try simp only [Act.put]
 refine tu 15 rfl hHeld ?_
 try simp only [Act.put]
 refine tu 16 rfl hHeld ?_
 try simp only [Act.put]
 refine' tk 17 rfl hHeld ?_
 try simp only [Act.put]
 refine' tk 19 rfl hHeld ?_
 try simp only [Act.put]
 refine td 18 rfl (fun K hK => ?_)
 go_simp
 go_at_call 117; refine (valid_any _ false).mono ?_; rintro e w1 ⟨rfl, rfl⟩
 go_wp2_with fail
 refine hK.out _ _ ?_ (fun hHeld => ?_)
 ·exact hHeld
 clear hK K
 try simp only [Act.put, zq]
 refine td 20 rfl (fun K hK => ?_)
 go_simp
 go_at_call 116; refine hst.out.mono ?_; rintro e w' ⟨rfl, hE, hF⟩; obtain ⟨j1, j2, j3⟩ := hKK.out _ hF; have y1 := j1.cell 0; have y2 := j2.cell 0; have y3 := j3.cell 0; have y4 := hE.blk.cell 0; rw [hlen] at y4
 go_wp2_with fail
 refine hK.out _ _ ?_ (fun hHeld => ?_)
 ·exact ⟨y1, y2, y3, y4⟩
 clear hK K
 try simp only [Act.put, zq]
 refine td 21 rfl (fun K hK => ?_)
 go_simp
 refine hK.out _ _ ?_ (fun hHeld => ?_)
 ·exact hHeld
 clear hK K
 try simp only [Act.put, zq]
 refine wpAnyH_done (by kernel_rfl) ?_ _
 go_wp2_with fail
 go_ret
 exact ⟨rfl, hE, (DFr.ofBelow hBB.out).trans hF⟩
end
end Go.Proofs.YtpghocekofdpbaaGreatDoor
namespace Go.Proofs.YtpghocekofdpbaaGreatDoor
open Go.RowKit Go.Shelf
attribute [local go_sem] Oper.semAt_some
section
variable {w : World} {d b g sb sc fb fc : Nat} {D : Dev}
end
end Go.Proofs.YtpghocekofdpbaaGreatDoor
namespace Go.Proofs.YtpghocekofdpbaaGreatDoor
open Go.RowKit Go.Shelf
attribute [local go_sem] Oper.semAt_some
section
variable {w : World} {d b g sb sc fb fc : Nat} {D : Dev}
theorem dstep_slots (c : Int) (f : Dev -> Dev) (hf : ∀ D, (f D).slots.length = D.slots.length) : (D.dstep c f).2.slots.length = D.slots.length := by
 unfold Dev.dstep
 split
 ·rfl
 ·split
  ·rfl
  ·split
   ·rfl
   ·exact hf _
theorem store_step (h : IsDev w d b g sb sc fb fc D) (hr : -1 <= D.left /\ D.left <= 9223372036854775807) (bd bi bt : Nat) (i : Int) (t : ByteArray) (k1 : Blk w bd 33 #[.pointer (some ⟨d, 0, none⟩)]) (k2 : Blk w bi 3 #[.int .i64 i]) (k3 : Blk w bt 9 #[.string t]) :
  Calls Tryz.prog 116 #[.pointer (some ⟨d, 0, none⟩), .int .i64 (chk (inS D.slots i /\ t.size = 32)), .func (.func 118) #[] #[.pointer (some ⟨bt, 0, none⟩), .pointer (some ⟨bd, 0, none⟩), .pointer (some ⟨bi, 0, none⟩)]] w fun e w' => e = .returned (.int .i64 (D.dstep (chk (inS D.slots i /\ t.size = 32)) fun D => { D with slots := D.slots.set i.toNat t }).1) /\
   IsDev w' d b g sb sc fb fc (D.dstep (chk (inS D.slots i /\ t.size = 32)) fun D => { D with slots := D.slots.set i.toNat t }).2 /\ DFr w w' d g sb fb := by
 refine step_any h hr _ _ _ eg_store _ (fun hc w2 h2 hg => ?_)
 have hp := of_chk hc
 obtain ⟨n, rfl⟩ := Int.eq_ofNat_of_zero_le hp.1.1
 have n1 := k1.ne_ h.blk (by decide)
 have n2 := k2.ne_ h.blk (by decide)
 have n3 := k3.ne_ h.blk (by decide)
 have hn : n < D.slots.length := by have := hp.1.2; omega
 refine (store1_any h2 bd bi bt n hn t (k1.grown hg (fun e => n1 (by cases e; rfl))) (k2.grown hg (fun e => n2 (by cases e; rfl))) (k3.grown hg (fun e => n3 (by cases e; rfl)))).mono ?_
 rintro e w' ⟨rfl, h3, h4⟩
 exact ⟨rfl, h3, DFr.ofGrown h4 (.inr (.inr (.inl rfl)))⟩
theorem not_inS {α : Type} {l : List α} {i : Int} (h : ¬ inS l i) : i < 0 \/ (0 <= i /\ (l.length : Int) <= i) := by
 unfold inS at h
 omega
theorem dStore_any (h : IsDev w d b g sb sc fb fc D) (hr : -1 <= D.left /\ D.left <= 9223372036854775807) (i : Int) (t : ByteArray) :
  Calls Tryz.prog 83 #[.pointer (some ⟨d, 0, none⟩), .int .i64 i, .string t] w fun e w' => e = .returned (.int .i64 (D.dstep (chk (inS D.slots i /\ t.size = 32)) fun D => { D with slots := D.slots.set i.toNat t }).1) /\
   IsDev w' d b g sb sc fb fc (D.dstep (chk (inS D.slots i /\ t.size = 32)) fun D => { D with slots := D.slots.set i.toNat t }).2 /\ DFr w w' d g sb fb := by
 have hlen := dstep_slots (D := D) (chk (inS D.slots i /\ t.size = 32)) (fun D => { D with slots := D.slots.set i.toNat t }) (fun D => by simp)
 by_cases hi : inS D.slots i
 ·by_cases ht : t.size = 32
  ·refine dStore_in h i t hi ht _ _ hlen fun w2 bd bi bt h2 k1 k2 k3 => ?_
   have := store_step h2 hr bd bi bt i t k1 k2 k3
   rw [chk_pos (⟨hi, ht⟩ : inS D.slots i /\ t.size = 32)] at this ⊢
   exact this
  ·refine dStore_size h i t hi ht _ _ hlen fun w2 bd bi bt h2 k1 k2 k3 => ?_
   have := store_step h2 hr bd bi bt i t k1 k2 k3
   rw [chk_neg (show ¬ (inS D.slots i /\ t.size = 32) from fun h => ht h.2)] at this ⊢
   exact this
 ·rcases not_inS hi with h0 | h0
  ·refine dStore_neg h i t h0 _ _ hlen fun w2 bd bi bt h2 k1 k2 k3 => ?_
   have := store_step h2 hr bd bi bt i t k1 k2 k3
   rw [chk_neg (show ¬ (inS D.slots i /\ t.size = 32) from fun h => hi h.1)] at this ⊢
   exact this
  ·refine dStore_beyond h i t h0 _ _ hlen fun w2 bd bi bt h2 k1 k2 k3 => ?_
   have := store_step h2 hr bd bi bt i t k1 k2 k3
   rw [chk_neg (show ¬ (inS D.slots i /\ t.size = 32) from fun h => hi h.1)] at this ⊢
   exact this
end
end Go.Proofs.YtpghocekofdpbaaGreatDoor
namespace Go.Proofs.YtpghocekofdpbaaGreatDoor
open Go.RowKit Go.Shelf
attribute [local go_sem] Oper.semAt_some
section
variable {w : World} {d b g sb sc fb fc : Nat} {D : Dev}
set_option maxRecDepth 100000 in
set_option maxHeartbeats 1600000 in
theorem dRead_any (h : IsDev w d b g sb sc fb fc D) (i : Int) :
  Calls Tryz.prog 104 #[.pointer (some ⟨d, 0, none⟩), .int .i64 i] w fun e w' => e = .returned (.tuple #[.string (if D.down then ⟨#[]⟩ else if isAt D.M i then (D.M.getD i.toNat default).seen else ⟨#[]⟩), .int .i64 (if D.down then 14 else if isAt D.M i then 0 else 1)]) /\ w = w' := by
 obtain ⟨c0, c1, c2, c3, c4, c5, c6⟩ := h.cells
 have HR := Lib.hid (read_any h.mem i)
 unfold errOf at HR
 cases hd : D.down with
 | true =>
  rw [hd] at c5
  clear HR h hd
  go_enter Tryz.func104, Tryz.ntmps104
  go_wp2_with fail
  go_ret2
  exact ⟨rfl, rfl⟩
 | false =>
  rw [hd] at c5
  simp only [Bool.false_eq_true, if_false]
  generalize (if isAt D.M i then (D.M.getD i.toNat default).seen else ⟨#[]⟩ : ByteArray) = T at HR ⊢
  generalize (if isAt D.M i then 0 else 1 : Int) = E at HR ⊢
  clear h hd
  go_enter Tryz.func104, Tryz.ntmps104
  go_wp2_with (first | (go_at_call 146; refine HR.out.mono ?_; rintro e w1 ⟨rfl, rfl⟩))
  go_ret2
  exact ⟨rfl, rfl⟩
set_option maxRecDepth 100000 in
set_option maxHeartbeats 1600000 in
theorem dLoad_any (h : IsDev w d b g sb sc fb fc D) (i : Int) :
  Calls Tryz.prog 31 #[.pointer (some ⟨d, 0, none⟩), .int .i64 i] w fun e w' => e = .returned (.tuple #[.string (if D.down then ⟨#[]⟩ else if inS D.slots i then D.slots.getD i.toNat ⟨#[]⟩ else ⟨#[]⟩), .int .i64 (if D.down then 14 else if inS D.slots i then 0 else 1)]) /\ w = w' := by
 obtain ⟨c0, c1, c2, c3, c4, c5, c6⟩ := h.cells
 cases hd : D.down with
 | true =>
  rw [hd] at c5
  clear h hd
  go_enter Tryz.func31, Tryz.ntmps31
  go_wp2_with fail
  go_ret2
  exact ⟨rfl, rfl⟩
 | false =>
  rw [hd] at c5
  simp only [Bool.false_eq_true, if_false]
  by_cases hi : inS D.slots i
  ·rw [if_pos hi, if_pos hi]
   obtain ⟨n, rfl⟩ := Int.eq_ofNat_of_zero_le hi.1
   have hn : n < D.slots.length := by have := hi.2; omega
   obtain ⟨o, ho⟩ : ∃ o, D.slots[n]? = some o := ⟨_, List.getElem?_eq_getElem hn⟩
   have hc : w.cell? ⟨sb, n, none⟩ = some (.string o) := by
    rw [h.srow.cellAt n (by omega)]
    unfold strCells
    rw [List.getElem?_map, ho]
    rfl
   have e : D.slots.getD (n : Int).toNat ⟨#[]⟩ = o := by
    rw [Int.toNat_natCast, List.getD_eq_getElem?_getD, ho]; rfl
   rw [e]
   have d1 : decide ((n : Int) < 0) = false := decide_eq_false (by omega)
   have d2 : decide (D.slots.length <= n) = false := decide_eq_false (by omega)
   have hi0 : (0 : Int) <= (n : Int) := by omega
   have hi1 : (n : Int) < D.slots.length := by omega
   clear h hd hi ho e
   go_enter Tryz.func31, Tryz.ntmps31
   go_wp2_with fail
   go_ret2
   exact ⟨rfl, rfl⟩
  ·rw [if_neg hi, if_neg hi]
   rcases not_inS hi with h0 | h0
   ·have d1 : decide (i < 0) = true := decide_eq_true h0
    clear h hd hi h0
    go_enter Tryz.func31, Tryz.ntmps31
    go_wp2_with fail
    go_ret2
    exact ⟨rfl, rfl⟩
   ·have d1 : decide (i < 0) = false := decide_eq_false (by omega)
    have d2 : decide ((D.slots.length : Int) <= i) = true := decide_eq_true h0.2
    clear h hd hi h0
    go_enter Tryz.func31, Tryz.ntmps31
    go_wp2_with fail
    go_ret2
    exact ⟨rfl, rfl⟩
end
end Go.Proofs.YtpghocekofdpbaaGreatDoor
