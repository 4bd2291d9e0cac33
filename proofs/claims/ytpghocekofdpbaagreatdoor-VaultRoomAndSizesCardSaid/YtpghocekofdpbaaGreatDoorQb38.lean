import Derived.Test.YtpghocekofdpbaaGreatDoorQb37
import Derived.Test.YtpghocekofdpbaaGreatDoorQb10
namespace Go.Proofs.YtpghocekofdpbaaGreatDoor
open Go.RowKit Go.Shelf
attribute [local go_sem] Oper.semAt_some
structure VAt where
 a : DAt
 jb : Nat
 vb : Nat
 lo : Nat
def ImgAt (w : World) (p : Value) (i : Option ByteArray) (a : DAt) : Prop := (i = none /\ p = .pointer none) \/ ∃ g k t T cs, i = some t /\ p = .pointer (some ⟨g, k, none⟩) /\ Blk w g T cs /\ cs[k]? = some (.string t) /\ (T = 9 \/ T = 104) /\ g ≠ a.sb
structure VIs (w : World) (x : VAt) (h : Nat) (V : Vlt) (D : Dev) (p u : Value) : Prop where
 dev : DevIs w x.a D
 jrn : ∃ v, JIs w x.jb x.a h V.J v
 blk : Blk w x.vb 79 #[.pointer (some ⟨x.a.d, 0, none⟩), .pointer (some ⟨x.jb, 0, none⟩), .string V.root, .string V.chain, p, u, .bool false]
 img : ImgAt w p V.image x.a
 row : w.ownsRow x.lo 9 1 u V.texts.length (strCells V.texts)
 lowS : x.a.sb < x.lo
 lowI : ∀ g i, p = .pointer (some ⟨g, i, none⟩) -> g < x.lo
 lowB : x.lo <= w.heap.size
structure VLeft (w w' : World) (x : VAt) (u : Value) : Prop where
 os : w'.os = w.os
 tape : w'.tape = w.tape
 output : w'.output = w.output
 size : w.heap.size <= w'.heap.size
 rest : ∀ k, k < w.heap.size -> k ≠ x.a.d -> k ≠ x.a.g -> k ≠ x.a.sb -> k ≠ x.a.fb -> k ≠ x.jb -> k ≠ x.vb -> u.ownBlock ≠ some k -> w'.heap[k]? = w.heap[k]?
section
variable {w w' w2 : World} {x : VAt} {h : Nat} {V : Vlt} {D E : Dev} {p u : Value}
theorem VIs.own (k : VIs w x h V D p u) : ∀ j, u.ownBlock = some j -> j ≠ x.a.sb := fun j e => by have := (k.row.lt j e).1; have := k.lowS; omega
theorem VLeft.refl (w : World) : VLeft w w x u := ⟨rfl, rfl, rfl, Nat.le_refl _, fun _ _ _ _ _ _ _ _ _ => rfl⟩
theorem VLeft.trans (h : VLeft w w' x u) (k : VLeft w' w2 x u) : VLeft w w2 x u :=
 ⟨k.os.trans h.os, k.tape.trans h.tape, k.output.trans h.output, Nat.le_trans h.size k.size, fun j hj h1 h2 h3 h4 h5 h6 h7 => (k.rest j (Nat.lt_of_lt_of_le hj h.size) h1 h2 h3 h4 h5 h6 h7).trans (h.rest j hj h1 h2 h3 h4 h5 h6 h7)⟩
theorem VLeft.ofJ (h : JLeft w w' x.a x.jb) : VLeft w w' x u := ⟨h.os, h.tape, h.output, h.size, fun k hk h1 h2 h3 h4 h5 _ _ => h.rest k hk h1 h2 h3 h4 h5⟩
theorem VLeft.ofD (h : DLeft w w' x.a) : VLeft w w' x u := VLeft.ofJ (JLeft.ofD h)
theorem VLeft.ofBelow (h : Below w.heap.size w w') : VLeft w w' x u := VLeft.ofD (DLeft.ofBelow h)
theorem VLeft.set (h : VLeft w w' x u) (i : Nat) (v : Value) : VLeft w (w'.setCell ⟨x.vb, i, none⟩ v) x u :=
 ⟨h.os, h.tape, h.output, by have := h.size; simpa [World.setCell] using this, fun j hj h1 h2 h3 h4 h5 h6 h7 => (Below.heap_setCell w' ⟨x.vb, i, none⟩ v j (fun e => h6 e)).trans (h.rest j hj h1 h2 h3 h4 h5 h6 h7)⟩
theorem VLeft.grown (h : VLeft w w' x u) (hg : w'.grownBy w2 u.ownBlock) : VLeft w w2 x u :=
 ⟨hg.os.trans h.os, hg.tape.trans h.tape, hg.output.trans h.output, Nat.le_trans h.size hg.size, fun j hj h1 h2 h3 h4 h5 h6 h7 => (hg.block j (Nat.lt_of_lt_of_le hj h.size) (fun e => h7 e.symm)).trans (h.rest j hj h1 h2 h3 h4 h5 h6 h7)⟩
theorem JLeft.blk {a : DAt} {jb : Nat} {J : Jrn} {v : Value} (hF : JLeft w w' a jb) (hd : DevIs w a D) (hj : JIs w jb a h J v) {k : Nat} {t : TypeId} {cs : Array Value} (hk : Blk w k t cs) (h1 : t = 89 -> k ≠ a.d) (h2 : t = 139 -> k ≠ a.g) (h3 : t = 9 -> k ≠ a.sb) (h4 : t = 4 -> k ≠ a.fb) (h5 : t = 126 -> k ≠ jb) : w'.heap[k]? = w.heap[k]? := by
 obtain ⟨_, q2⟩ := hd.gblk
 obtain ⟨_, q3⟩ := hd.sblk
 obtain ⟨_, q4⟩ := hd.fblk
 refine hF.rest k hk.lt ?_ ?_ ?_ ?_ ?_
 ·by_cases e : t = 89
  ·exact h1 e
  ·exact hk.ne_ hd.blk e
 ·by_cases e : t = 139
  ·exact h2 e
  ·exact hk.ne_ q2 e
 ·by_cases e : t = 9
  ·exact h3 e
  ·exact hk.ne_ q3 e
 ·by_cases e : t = 4
  ·exact h4 e
  ·exact hk.ne_ q4 e
 ·by_cases e : t = 126
  ·exact h5 e
  ·exact hk.ne_ hj.blk e
theorem ImgAt.keep (k : ImgAt w p V.image x.a) (hk : ∀ g T cs, Blk w g T cs -> (T = 9 \/ T = 104) -> g ≠ x.a.sb -> (∀ i, p = .pointer (some ⟨g, i, none⟩) -> True) -> (∃ i, p = .pointer (some ⟨g, i, none⟩)) -> w'.heap[g]? = w.heap[g]?) : ImgAt w' p V.image x.a := by
 rcases k with k | ⟨g, i, t, T, cs, e1, e2, hb, hc, hT, hs⟩
 ·exact .inl k
 ·exact .inr ⟨g, i, t, T, cs, e1, e2, (hk g T cs hb hT hs (fun _ _ => trivial) ⟨i, e2⟩).trans hb, hc, hT, hs⟩
theorem VIs.jleft (k : VIs w x h V D p u) (hF : JLeft w w' x.a x.jb) {J' : Jrn} (hd : DevIs w' x.a E) (hj : ∃ v, JIs w' x.jb x.a h J' v) : VIs w' x h { V with J := J' } E p u := by
 obtain ⟨v, hv⟩ := k.jrn
 refine ⟨hd, hj, (hF.blk k.dev hv k.blk (fun e => by cases e) (fun e => by cases e) (fun e => by cases e) (fun e => by cases e) (fun e => by cases e)).trans k.blk, ?_, ?_, k.lowS, k.lowI, Nat.le_trans k.lowB hF.size⟩
 ·refine ImgAt.keep (V := { V with J := J' }) k.img (fun g T cs hb hT hs _ _ => ?_)
  rcases hT with rfl | rfl
  ·exact hF.blk k.dev hv hb (fun e => by cases e) (fun e => by cases e) (fun _ => hs) (fun e => by cases e) (fun e => by cases e)
  ·exact hF.blk k.dev hv hb (fun e => by cases e) (fun e => by cases e) (fun e => by cases e) (fun e => by cases e) (fun e => by cases e)
 ·exact ownsRow_same k.row (fun j cs e hb => hF.blk k.dev hv hb (fun e => by cases e) (fun e => by cases e) (fun _ => k.own j e) (fun e => by cases e) (fun e => by cases e))
theorem VIs.dleft (k : VIs w x h V D p u) (hF : DLeft w w' x.a) (hd : DevIs w' x.a E) : VIs w' x h V E p u := by
 obtain ⟨v, hv⟩ := k.jrn
 exact k.jleft (JLeft.ofD hF) hd ⟨v, hv.left k.dev hF⟩
theorem VIs.below (k : VIs w x h V D p u) (hB : Below w.heap.size w w') : VIs w' x h V D p u := k.dleft (DLeft.ofBelow hB) (k.dev.below hB)
theorem VIs.set (k : VIs w x h V D p u) (i : Nat) (v : Value) {V' : Vlt} {p' u' : Value} (hc : (#[Value.pointer (some ⟨x.a.d, 0, none⟩), .pointer (some ⟨x.jb, 0, none⟩), .string V.root, .string V.chain, p, u, .bool false] : Array Value).setIfInBounds i v = #[.pointer (some ⟨x.a.d, 0, none⟩), .pointer (some ⟨x.jb, 0, none⟩), .string V'.root, .string V'.chain, p', u', .bool false])
  (hJ : V'.J = V.J) (hi : ImgAt w p' V'.image x.a) (hr : w.ownsRow x.lo 9 1 u' V'.texts.length (strCells V'.texts)) (hs : ∀ g i, p' = .pointer (some ⟨g, i, none⟩) -> g < x.lo) : VIs (w.setCell ⟨x.vb, i, none⟩ v) x h V' D p' u' := by
 obtain ⟨vj, hv⟩ := k.jrn
 have hg := grown_set w x.vb i v
 have hb := k.blk.set_ i v
 rw [hc] at hb
 refine ⟨isDev_past k.dev k.blk (by decide) hg, ⟨vj, by rw [hJ]; exact ⟨hv.blk.grown hg (fun e => k.blk.ne_ hv.blk (by decide) (Option.some.inj e).symm), hv.row.kept hg (.inr (own_blk_ne hv.row k.blk (by decide)))⟩⟩, hb, ?_, hr.kept hg (.inr (own_blk_ne hr k.blk (by decide))), k.lowS, hs, by have := k.lowB; simpa [World.setCell] using this⟩
 refine ImgAt.keep hi (fun g T cs hb2 hT hs2 _ _ => ?_)
 refine hg.block g hb2.lt (fun e => ?_)
 have e2 : g = x.vb := by cases e; rfl
 rcases hT with rfl | rfl
 ·exact k.blk.ne_ hb2 (by decide) e2.symm
 ·exact k.blk.ne_ hb2 (by decide) e2.symm
theorem VIs.cells (k : VIs w x h V D p u) : w.cell? ⟨x.vb, 0, none⟩ = some (.pointer (some ⟨x.a.d, 0, none⟩)) /\ w.cell? ⟨x.vb, 1, none⟩ = some (.pointer (some ⟨x.jb, 0, none⟩)) /\ w.cell? ⟨x.vb, 2, none⟩ = some (.string V.root) /\ w.cell? ⟨x.vb, 3, none⟩ = some (.string V.chain) /\ w.cell? ⟨x.vb, 4, none⟩ = some p /\ w.cell? ⟨x.vb, 5, none⟩ = some u /\ w.cell? ⟨x.vb, 6, none⟩ = some (.bool false) :=
 ⟨k.blk.cell 0, k.blk.cell 1, k.blk.cell 2, k.blk.cell 3, k.blk.cell 4, k.blk.cell 5, k.blk.cell 6⟩
theorem VIs.same (k : VIs w x h V D p u) : VIs (w.setCell ⟨x.vb, 6, none⟩ (.bool false)) x h V D p u := k.set 6 (.bool false) rfl rfl k.img k.row k.lowI
set_option maxRecDepth 100000 in
set_option maxHeartbeats 1600000 in
theorem vnote_ok (k : VIs w x h V D p u) (e0 : Int) (he : e0 ≠ 14) : Calls Tryz.prog 87 #[.pointer (some ⟨x.vb, 0, none⟩), .int .i64 e0] w fun e w' => e = .returned (.int .i64 e0) /\ w' = w.setCell ⟨x.vb, 6, none⟩ (.bool false) := by
 obtain ⟨c0, c1, c2, c3, c4, c5, c6⟩ := k.cells
 have f6 := k.blk.frozen 6
 have d : (e0 == 14) = false := beq_eq_false_iff_ne.2 he
 clear k he
 go_enter Tryz.func87, Tryz.ntmps87
 go_wp2_with fail
 go_ret
 exact ⟨rfl, rfl⟩
set_option maxRecDepth 100000 in
set_option maxHeartbeats 1600000 in
theorem vnote_off {cs : Array Value} (hb : Blk w x.vb 79 cs) (b : Bool) (hc : cs[6]? = some (.bool b)) : Calls Tryz.prog 87 #[.pointer (some ⟨x.vb, 0, none⟩), .int .i64 14] w fun e w' => e = .returned (.int .i64 14) /\ w' = w.setCell ⟨x.vb, 6, none⟩ (.bool true) := by
 have c6 : w.cell? ⟨x.vb, 6, none⟩ = some (.bool b) := (hb.cell 6).trans hc
 have f6 := hb.frozen 6
 clear hb hc
 cases b
 ·go_enter Tryz.func87, Tryz.ntmps87
  go_wp2_with fail
  go_ret
  exact ⟨rfl, rfl⟩
 ·go_enter Tryz.func87, Tryz.ntmps87
  go_wp2_with fail
  go_ret
  exact ⟨rfl, rfl⟩
theorem dstore_good (hd : DevIs w x.a D) (hu : DOn D) (i : Nat) (hi : i < D.slots.length) (t : ByteArray) (ht : t.size = 32) :
  Calls Tryz.prog 83 #[.pointer (some ⟨x.a.d, 0, none⟩), .int .i64 (i : Int), .string t] w fun e w' => e = .returned (.int .i64 (D.slot (i, t)).1) /\ DevIs w' x.a (D.slot (i, t)).2 /\ DLeft w w' x.a := by
 have hc : chk (inS D.slots (i : Int) /\ t.size = 32) = 0 := by
  unfold chk
  rw [if_pos ⟨⟨by omega, by omega⟩, ht⟩]
 have h1 := dStore_any hd hu.left (i : Int) t
 rw [hc, Int.toNat_natCast] at h1
 exact h1
theorem slot_err {D : Dev} (hd : DOn D) (y : Nat × ByteArray) : (D.slot y).1 = 0 \/ (D.slot y).1 = 14 := by
 rcases slot_cases hd y with ⟨_, e⟩ | ⟨_, e⟩ <;> rw [e]
 ·exact .inr rfl
 ·exact .inl rfl
def PutPost (w : World) (x : VAt) (h : Nat) (V : Vlt) (p u : Value) (r : Int × Dev) (e : Ending) (w' : World) : Prop :=
 e = .returned (.int .i64 r.1) /\ VLeft w w' x u /\ DevIs w' x.a r.2 /\ (r.1 = 0 -> VIs w' x h V r.2 p u)
set_option maxRecDepth 100000 in
set_option maxHeartbeats 1600000 in
theorem vput_any (k : VIs w x h V D p u) (hu : DOn D) (i : Nat) (hi : i < D.slots.length) (t : ByteArray) (ht : t.size = 32) :
  Calls Tryz.prog 51 #[.pointer (some ⟨x.vb, 0, none⟩), .int .i64 (i : Int), .string t] w (PutPost w x h V p u (D.slot (i, t))) := by
 have HS := Lib.hid (dstore_good k.dev hu i hi t ht)
 have he := Lib.hid (slot_err hu (i, t))
 obtain ⟨c0, c1, c2, c3, c4, c5, c6⟩ := k.cells
 obtain ⟨r, hr⟩ : ∃ r, D.slot (i, t) = r := ⟨_, rfl⟩
 rw [hr] at HS he ⊢
 have K := Lib.hid k
 obtain ⟨E, F⟩ := r
 dsimp only at HS he
 clear k hr hi ht hu
 unfold PutPost
 dsimp only
 go_enter Tryz.func51, Tryz.ntmps51
 go_wp2_with (first | (go_at_call 83; refine HS.out.mono ?_; rintro e w1 ⟨rfl, h1, h2⟩; have K1 := Lib.hid (K.out.dleft h2 h1); have F1 := Lib.hid h2; clear h1 h2))
 rcases he.out with rfl | rfl
 ·refine (vnote_ok K1.out 0 (by decide)).mono ?_
  rintro e w2 ⟨rfl, rfl⟩
  go_wp2_with fail
  go_ret
  exact ⟨rfl, (VLeft.ofD F1.out).set 6 _, K1.out.same.dev, K1.out.same⟩
 ·refine (vnote_off K1.out.blk false rfl).mono ?_
  rintro e w2 ⟨rfl, rfl⟩
  go_wp2_with fail
  go_ret
  exact ⟨rfl, (VLeft.ofD F1.out).set 6 _, isDev_past K1.out.dev K1.out.blk (by decide) (grown_set _ _ _ _), fun e => by cases e⟩
set_option maxRecDepth 100000 in
set_option maxHeartbeats 1600000 in
theorem vcheck_any (k : VIs w x h V D p u) (t : ByteArray) (n : Int) : Calls Tryz.prog 48 #[.pointer (some ⟨x.vb, 0, none⟩), .string t, .int .i64 n] w fun e w' => e = .returned (.int .i64 (if n < t.size then 2 else 0)) /\ w = w' := by
 obtain ⟨c0, c1, c2, c3, c4, c5, c6⟩ := k.cells
 clear k
 by_cases hn : n < t.size
 ·rw [if_pos hn]
  have d : decide (n < (t.size : Int)) = true := decide_eq_true hn
  go_enter Tryz.func48, Tryz.ntmps48
  go_wp2_with fail
  go_ret
  exact ⟨rfl, rfl⟩
 ·rw [if_neg hn]
  have d : decide (n < (t.size : Int)) = false := decide_eq_false hn
  go_enter Tryz.func48, Tryz.ntmps48
  go_wp2_with fail
  go_ret
  exact ⟨rfl, rfl⟩
set_option maxRecDepth 100000 in
theorem vchain_any (k : VIs w x h V D p u) : Calls Tryz.prog 18 #[.pointer (some ⟨x.vb, 0, none⟩)] w fun e w' => e = .returned (.string V.chain) /\ w = w' := by
 obtain ⟨c0, c1, c2, c3, c4, c5, c6⟩ := k.cells
 clear k
 go_enter Tryz.func18, Tryz.ntmps18
 go_wp2_with fail
 go_ret
 exact ⟨rfl, rfl⟩
set_option maxRecDepth 100000 in
theorem vroom_any (k : VIs w x h V D p u) (hu : V.J.used <= h) (hh : h <= 1048576) : Calls Tryz.prog 15 #[.pointer (some ⟨x.vb, 0, none⟩)] w fun e w' => e = .returned (.int .i64 ((h - V.J.used : Nat) : Int)) /\ Below w.heap.size w w' := by
 obtain ⟨v, hv⟩ := k.jrn
 have HR := Lib.hid (jRoom_any hv hu hh)
 obtain ⟨c0, c1, c2, c3, c4, c5, c6⟩ := k.cells
 clear k hv
 go_enter Tryz.func15, Tryz.ntmps15
 go_wp2_with (first | (go_at_call 47; refine HR.out.mono ?_; rintro e w1 ⟨rfl, hB⟩))
 go_ret
 exact ⟨rfl, hB⟩
set_option maxRecDepth 100000 in
set_option maxHeartbeats 1600000 in
theorem vimage_any (k : VIs w x h V D p u) : Calls Tryz.prog 38 #[.pointer (some ⟨x.vb, 0, none⟩)] w fun e w' => e = .returned (.tuple #[.string (V.image.getD ⟨#[]⟩), .bool V.image.isSome]) /\ w = w' := by
 obtain ⟨c0, c1, c2, c3, c4, c5, c6⟩ := k.cells
 rcases k.img with ⟨e1, e2⟩ | ⟨g, i, t, T, cs, e1, e2, hb, hc, _, _⟩
 ·rw [e1]
  subst e2
  clear k e1
  go_enter Tryz.func38, Tryz.ntmps38
  go_wp2_with fail
  go_ret2
  exact ⟨rfl, rfl⟩
 ·rw [e1]
  subst e2
  have ci : w.cell? ⟨g, i, none⟩ = some (.string t) := (hb.cell i).trans hc
  clear k e1 hb hc
  go_enter Tryz.func38, Tryz.ntmps38
  go_wp2_with fail
  go_ret2
  exact ⟨rfl, rfl⟩
set_option maxRecDepth 100000 in
set_option maxHeartbeats 1600000 in
theorem vrecords_any (k : VIs w x h V D p u) (hN : V.texts.length <= 1048576) : Calls Tryz.prog 36 #[.pointer (some ⟨x.vb, 0, none⟩)] w fun e w' => ∃ v, e = .returned v /\ w'.ownsRow w.heap.size 9 1 v V.texts.length (strCells V.texts) /\ Below w.heap.size w w' := by
 obtain ⟨c0, c1, c2, c3, c4, c5, c6⟩ := k.cells
 have HC : Hid (Calls Tryz.prog 73 #[u] w fun e w' => ∃ v, e = .returned v /\ w'.ownsRow w.heap.size 9 1 v V.texts.length (strCells V.texts) /\ Below w.heap.size w w') := by
  have hrow := k.row
  rcases id hrow.2 with ⟨rfl, h0⟩ | ⟨g, cap, cur, rfl, _⟩
  ·refine (Tryz.slices_Clone_string_nil 0 0 w).mono ?_
   rintro e w' ⟨rfl, rfl⟩
   have : V.texts = [] := List.eq_nil_of_length_eq_zero h0
   exact ⟨_, rfl, by rw [this]; exact World.ownsRow_nil _ _ _ _, Below.refl _ _⟩
  ·refine (Tryz.slices_Clone_string g 0 V.texts.length cap V.texts w (Nat.le_refl _) (by omega) (fun j hj => ?_)).mono ?_
   ·rw [Nat.zero_add, World.ownsRow.cellAt hrow j (by omega), List.getD_eq_getElem?_getD, List.getElem?_eq_getElem hj]
    simp [strCells, hj]
   ·rintro e w' ⟨v, rfl, h1, _, h3⟩
    rw [List.take_length] at h1
    exact ⟨v, rfl, h1, h3⟩
 clear k
 go_enter Tryz.func36, Tryz.ntmps36
 go_wp2_with (first | (go_at_call 73; refine HC.out.mono ?_; rintro e w1 ⟨v, rfl, h1, h2⟩))
 go_ret
 exact ⟨v, rfl, h1, h2⟩
end
end Go.Proofs.YtpghocekofdpbaaGreatDoor
namespace Go.Proofs.YtpghocekofdpbaaGreatDoor
open Sec (countN mostN packL packAt)
structure Goes (h : Nat) (b : Nat) (r : VRes) (root : ByteArray) (image : Option ByteArray) (texts : List ByteArray) : Prop where
 ok : ∃ V, r.2.1 = some V /\ VInv h V r.2.2 b /\ V.root = root /\ V.image = image /\ V.texts = texts
structure Falls (h : Nat) (b : Nat) (r : VRes) (A : ByteArray -> Option ByteArray -> List ByteArray -> Prop) : Prop where
 none : r.2.1 = none
 down : r.2.2.down = true
 lies : ∀ P, ∃ root image texts, A root image texts /\ Lies h (r.2.2.mount P) b root image texts
section
variable {h b : Nat} {V : Vlt} {D : Dev}
theorem mount_M (D : Dev) (P : List Int) : (D.mount P).M = tornM D.M P := rfl
theorem mount_up (D : Dev) (P : List Int) : DUp (D.mount P) := ⟨rfl, rfl⟩
theorem chain_out {V' : Vlt} {E : Dev} (hE : DOn E) (hJ : JOk h V'.J E.M b) (hsp : V'.J.spoiled = false) {s1 : ByteArray} (hs : E.slots = [V'.root, s1, zero32]) (hr : V'.root.size = 32 /\ V'.root ≠ zero32) {R : RdV} (hR : readV V'.root V'.J.l = some R) (e1 : R.chain = V'.chain) (e2 : R.image = V'.image) (e3 : R.texts = V'.texts) (hb1 : V'.J.l ≠ [] /\ s1 = R.before) :
  ((vchain V'.chain V' E).1 = 0 /\ Goes h b (vchain V'.chain V' E) V'.root V'.image V'.texts) \/
  ((vchain V'.chain V' E).1 = 14 /\ Falls h b (vchain V'.chain V' E) (fun r i t => r = V'.root /\ i = V'.image /\ t = V'.texts) /\ 0 <= E.left) := by
 unfold vchain
 rcases slot_cases hE (1, V'.chain) with ⟨h0, e⟩ | ⟨h0, e⟩
 ·right
  rw [e, if_neg (show ¬ (14 : Int) = 0 by decide)]
  refine ⟨rfl, ⟨rfl, rfl, fun P => ⟨_, _, _, ⟨rfl, rfl, rfl⟩, ⟨V'.J, R, V'.root, s1, zero32, ?_, hR, e2, e3, hs, .inr hb1, .inl rfl⟩, hr, by show Good3 E.slots; rw [hs]; exact Good3.mk hr rfl⟩⟩, by omega⟩
  rw [mount_M]
  show JOk h V'.J (tornM E.M P) b
  rw [torn_clean hJ.inv.clean]
  exact hJ
 ·left
  rw [e, if_pos rfl]
  obtain ⟨d1, d2⟩ := slot_on hE h0 (1, V'.chain)
  refine ⟨rfl, ⟨V', rfl, ⟨d1, by rw [d2.M]; exact hJ, hsp, ?_, hr, R, hR, e1, e2, e3⟩, rfl, rfl, rfl⟩⟩
  show E.slots.set 1 V'.chain = _
  rw [hs]
  rfl
theorem append_cases (t : ByteArray) (J : Jrn) : (h < J.used + countN t.size /\ dappend h t J D = .err 15) \/
  (J.used + countN t.size <= h /\ D.fails (countN t.size + 1) /\ dappend h t J D = .down (D.off (wrL ((packB J.next t).take D.left.toNat) (J.bank * h + J.used) D.M))) \/
  (J.used + countN t.size <= h /\ (D.left < 0 \/ ((countN t.size + 1 : Nat) : Int) <= D.left) /\ dappend h t J D = .ok J.next ⟨J.bank, J.used + countN t.size, J.next + 1, J.l ++ [(J.next, t)], false⟩ (D.on (countN t.size + 1) (putM (packB J.next t) (J.bank * h + J.used) D.M))) := by
 unfold dappend
 by_cases h1 : h < J.used + countN t.size
 ·exact .inl ⟨h1, if_pos h1⟩
 ·rw [if_neg h1]
  by_cases h2 : D.fails (countN t.size + 1)
  ·exact .inr (.inl ⟨by omega, h2, if_pos h2⟩)
  ·exact .inr (.inr ⟨by omega, not_fails h2, if_neg h2⟩)
theorem compact_cases (t : ByteArray) (J : Jrn) : (h < countN t.size /\ dcompact h t J D = .err 15) \/
  (countN t.size <= h /\ D.fails (countN t.size + 1) /\ dcompact h t J D = .down (D.off (wrL ((packB J.next t).take D.left.toNat) ((1 - J.bank) * h) D.M))) \/
  (countN t.size <= h /\ (D.left < 0 \/ ((countN t.size + 1 : Nat) : Int) <= D.left) /\ dcompact h t J D = .ok J.next ⟨1 - J.bank, countN t.size, J.next + 1, [(J.next, t)], false⟩ (D.on (countN t.size + 1) (putM (packB J.next t) ((1 - J.bank) * h) D.M))) := by
 unfold dcompact
 by_cases h1 : h < countN t.size
 ·exact .inl ⟨h1, if_pos h1⟩
 ·rw [if_neg h1]
  by_cases h2 : D.fails (countN t.size + 1)
  ·exact .inr (.inl ⟨by omega, h2, if_pos h2⟩)
  ·exact .inr (.inr ⟨by omega, not_fails h2, if_neg h2⟩)
theorem commit_out (I : VInv h V D b) (hb : b < 255) (t : ByteArray) (ht : t.size <= 7971) :
  (h < V.J.used + countN (t.size + 29) /\ vcommit h V D t = (15, some V, D)) \/
  (V.J.used + countN (t.size + 29) <= h /\ (vcommit h V D t).1 = 0 /\ Goes h (b + 1) (vcommit h V D t) V.root V.image (V.texts ++ [t]) /\ ∃ V', (vcommit h V D t).2.1 = some V' /\ V'.J.used = V.J.used + countN (t.size + 29)) \/
  (0 <= D.left /\ (vcommit h V D t).1 = 14 /\ Falls h (b + 1) (vcommit h V D t) (fun r i l => r = V.root /\ i = V.image /\ (l = V.texts \/ l = V.texts ++ [t]))) := by
 obtain ⟨R, hR, e1, e2, e3⟩ := I.read
 have hsz : (blobOf V.root V.J.next (recT t)).size = t.size + 29 := by rw [blobOf_size, recT_size]
 have hr2 := readV_rec hR V.J.next t
 rw [e1] at hr2
 obtain ⟨B, hB⟩ : ∃ B, blobOf V.root V.J.next (recT t) = B := ⟨_, rfl⟩
 have hun : vcommit h V D t = match dappend h B V.J D with
  | .err c => (c, some V, D)
  | .down D' => (14, none, D')
  | .ok n J' D' => vchain (linkB V.chain n B) ⟨J', V.root, linkB V.chain n B, V.image, V.texts ++ [t]⟩ D' := by
  unfold vcommit
  rw [if_neg (by omega), hB]
  rfl
 rw [hB] at hsz hr2
 rw [hun]
 rcases append_cases (h := h) (D := D) B V.J with ⟨a1, a2⟩ | ⟨a1, a2, a3⟩ | ⟨a1, a2, a3⟩
 ·left
  rw [a2]
  exact ⟨by rw [<- hsz]; exact a1, rfl⟩
 ·right; right
  rw [a3]
  refine ⟨a2.1, rfl, rfl, rfl, fun P => ?_⟩
  rcases append_off I.jok hb (by omega : B.size <= 8000) a1 a2 P with k | k
  ·exact ⟨V.root, V.image, V.texts, ⟨rfl, rfl, .inl rfl⟩, ⟨_, R, V.root, V.chain, zero32, k, hR, e2, e3, I.slots, .inl e1.symm, .inl rfl⟩, I.root, by show Good3 D.slots; rw [I.slots]; exact Good3.mk I.root rfl⟩
  ·exact ⟨V.root, V.image, V.texts ++ [t], ⟨rfl, rfl, .inr rfl⟩, ⟨_, _, V.root, V.chain, zero32, k, hr2, e2, by rw [<- e3], I.slots, .inr ⟨by simp, rfl⟩, .inl rfl⟩, I.root, by show Good3 D.slots; rw [I.slots]; exact Good3.mk I.root rfl⟩
 ·right
  rw [a3]
  have hon := on_on (k := countN B.size + 1) (M := putM (packB V.J.next B) (V.J.bank * h + V.J.used) D.M) I.on a2
  have hok := append_ok I.jok hb (by omega : B.size <= 8000) a1 I.spoiled
  have hc := chain_out (V' := ⟨⟨V.J.bank, V.J.used + countN B.size, V.J.next + 1, V.J.l ++ [(V.J.next, B)], false⟩, V.root, linkB V.chain V.J.next B, V.image, V.texts ++ [t]⟩) hon hok rfl (s1 := V.chain) I.slots I.root hr2 rfl e2 (by rw [<- e3]) ⟨by simp, rfl⟩
  dsimp only at hc ⊢
  rcases hc with ⟨c1, c2⟩ | ⟨c1, c2, c3⟩
  ·left
   refine ⟨by rw [<- hsz]; exact a1, c1, c2, ?_⟩
   obtain ⟨V', v1, _⟩ := c2.ok
   refine ⟨V', v1, ?_⟩
   unfold vchain at v1 c1
   split at v1
   ·cases v1
    show V.J.used + countN B.size = _
    rw [hsz]
   ·cases v1
  ·right
   refine ⟨?_, c1, c2.none, c2.down, fun P => ?_⟩
   ·have : 0 <= lft D.left (countN B.size + 1) := c3
    unfold lft at this
    split at this <;> omega
   ·obtain ⟨r, i, l, ⟨q1, q2, q3⟩, L⟩ := c2.lies P
    exact ⟨r, i, l, ⟨q1, q2, .inr q3⟩, L⟩
end
end Go.Proofs.YtpghocekofdpbaaGreatDoor
namespace Go.Proofs.YtpghocekofdpbaaGreatDoor
open Sec (countN mostN packL packAt)
section
variable {h b : Nat} {V : Vlt} {D : Dev}
theorem replace_out (hd : DOn D) (hJ : JOk h V.J D.M b) (hb : b < 255) (hc : V.chain.size = 32) (root image : ByteArray) (hi : image.size <= 7939) :
  (h < countN (image.size + 61) /\ vreplace h V D root image = (15, some V, D)) \/
  (∃ D', vreplace h V D root image = (14, none, D') /\ 0 <= D.left /\ D'.down = true /\ D'.slots = D.slots /\ ∀ P, (∃ J, JOk h J (D'.mount P).M (b + 1) /\ J.l = V.J.l) \/
   (∃ J ch, JOk h J (D'.mount P).M (b + 1) /\ J.l ≠ [] /\ readV root J.l = some ⟨ch, V.chain, some image, []⟩)) \/
  (countN (image.size + 61) <= h /\ ∃ V' D', vreplace h V D root image = (0, some V', D') /\ DOn D' /\ (D.left < 0 -> D'.left < 0) /\ D'.slots = D.slots /\ JOk h V'.J D'.M (b + 1) /\ V'.J.spoiled = false /\ V'.root = root /\ V'.image = some image /\ V'.texts = [] /\ V'.J.l ≠ [] /\ V'.J.used = countN (image.size + 61) /\
   readV root V'.J.l = some ⟨V'.chain, V.chain, some image, []⟩) := by
 have hsz : (blobOf root V.J.next (imgT V.chain image)).size = image.size + 61 := by rw [blobOf_size, imgT_size, hc]; omega
 have hrd := readV_img root V.J.next V.chain image hc
 obtain ⟨B, hB⟩ : ∃ B, blobOf root V.J.next (imgT V.chain image) = B := ⟨_, rfl⟩
 rw [hB] at hsz hrd
 have hun : vreplace h V D root image = match dcompact h B V.J D with
  | .err c => (c, some V, D)
  | .down D' => (14, none, D')
  | .ok n J' D' => (0, some ⟨J', root, linkB V.chain n B, some image, []⟩, D') := by
  unfold vreplace
  rw [hB]
  rfl
 rw [hun]
 rcases compact_cases (h := h) (D := D) B V.J with ⟨a1, a2⟩ | ⟨a1, a2, a3⟩ | ⟨a1, a2, a3⟩
 ·left
  rw [a2]
  exact ⟨by rw [<- hsz]; exact a1, rfl⟩
 ·right; left
  rw [a3]
  refine ⟨_, rfl, a2.1, rfl, rfl, fun P => ?_⟩
  rcases compact_off hJ hb (by omega : B.size <= 8000) a1 a2 P with k | k
  ·exact .inl ⟨_, k, rfl⟩
  ·exact .inr ⟨_, _, k, (by simp), hrd⟩
 ·right; right
  rw [a3]
  have hon := on_on (k := countN B.size + 1) (M := putM (packB V.J.next B) ((1 - V.J.bank) * h) D.M) hd a2
  have hok := compact_ok hJ hb (by omega : B.size <= 8000) a1
  refine ⟨by rw [<- hsz]; exact a1, _, _, rfl, hon, fun hl => ?_, rfl, hok, rfl, rfl, rfl, rfl, by simp, ?_, hrd⟩
  ·show lft D.left (countN B.size + 1) < 0
   unfold lft
   rw [if_pos hl]
   exact hl
  ·show countN B.size = _
   rw [hsz]
theorem compactV_out (I : VInv h V D b) (hb : b < 255) (image : ByteArray) (hi : image.size <= 7939) :
  (h < countN (image.size + 61) /\ vcompact h V D image = (15, some V, D)) \/
  (countN (image.size + 61) <= h /\ (vcompact h V D image).1 = 0 /\ Goes h (b + 1) (vcompact h V D image) V.root (some image) []) \/
  (0 <= D.left /\ (vcompact h V D image).1 = 14 /\ Falls h (b + 1) (vcompact h V D image) (fun r i l => r = V.root /\ ((i = V.image /\ l = V.texts) \/ (i = some image /\ l = [])))) := by
 obtain ⟨R, hR, e1, e2, e3⟩ := I.read
 have hun : vcompact h V D image = match vreplace h V D V.root image with
  | (0, some V', D') => vchain V'.chain V' D'
  | x => x := by
  unfold vcompact
  rw [if_neg (by omega)]
  rfl
 rw [hun]
 rcases replace_out I.on I.jok hb I.chain V.root image hi with ⟨a1, a2⟩ | ⟨D', a1, a2, a3, a4, a5⟩ | ⟨a0, V', D', a1, a2, a2l, a3, a4, a5, a6, a7, a8, a9, _, a10⟩
 ·left
  rw [a2]
  exact ⟨a1, rfl⟩
 ·right; right
  rw [a1]
  refine ⟨a2, rfl, rfl, a3, fun P => ?_⟩
  rcases a5 P with ⟨J, k1, k2⟩ | ⟨J, ch, k1, k2, k3⟩
  ·exact ⟨V.root, V.image, V.texts, ⟨rfl, .inl ⟨rfl, rfl⟩⟩, ⟨J, R, V.root, V.chain, zero32, k1, by rw [k2]; exact hR, e2, e3, a4.trans I.slots, .inl e1.symm, .inl rfl⟩, I.root, by show Good3 D'.slots; rw [a4, I.slots]; exact Good3.mk I.root rfl⟩
  ·exact ⟨V.root, some image, [], ⟨rfl, .inr ⟨rfl, rfl⟩⟩, ⟨J, _, V.root, V.chain, zero32, k1, k3, rfl, rfl, a4.trans I.slots, .inr ⟨k2, rfl⟩, .inl rfl⟩, I.root, by show Good3 D'.slots; rw [a4, I.slots]; exact Good3.mk I.root rfl⟩
 ·right
  rw [a1]
  have hc := chain_out (V' := V') a2 a4 a5 (s1 := V.chain) (by rw [a3, I.slots, a6]) (by rw [a6]; exact I.root) (by rw [a6]; exact a10) rfl a7.symm a8.symm ⟨a9, rfl⟩
  rw [a6, a7, a8] at hc
  try dsimp only
  rcases hc with ⟨c1, c2⟩ | ⟨c1, c2, c3⟩
  ·exact .inl ⟨a0, c1, c2⟩
  ·refine .inr ⟨?_, c1, c2.none, c2.down, fun P => ?_⟩
   ·by_cases hl : 0 <= D.left
    ·exact hl
    ·have := a2l (by omega)
     omega
   ·obtain ⟨r, i, l, ⟨q1, q2, q3⟩, L⟩ := c2.lies P
    exact ⟨r, i, l, ⟨q1, .inr ⟨q2, q3⟩⟩, L⟩
theorem all_out {V' : Vlt} {E : Dev} (hE : DOn E) (hJ : JOk h V'.J E.M b) (hsp : V'.J.spoiled = false) {s0 s1 : ByteArray} (hs : E.slots = [s0, s1, V'.root]) (h0 : s0.size = 32 /\ s0 ≠ zero32) (hr : V'.root.size = 32 /\ V'.root ≠ zero32) {R : RdV} (hR : readV V'.root V'.J.l = some R) (e1 : R.chain = V'.chain) (e2 : R.image = V'.image) (e3 : R.texts = V'.texts) (hb1 : V'.J.l ≠ [] /\ s1 = R.before) :
  ((vall V' E).1 = 0 /\ Goes h b (vall V' E) V'.root V'.image V'.texts) \/
  ((vall V' E).1 = 14 /\ Falls h b (vall V' E) (fun r i t => r = V'.root /\ i = V'.image /\ t = V'.texts) /\ 0 <= E.left) := by
 unfold vall
 rcases stores_cases [(0, V'.root), (1, V'.chain), (2, zero32)] E hE with ⟨e, d1, d2, d3⟩ | ⟨e, d1, d2, d3⟩
 ·left
  rw [if_pos e]
  refine ⟨rfl, V', rfl, ⟨d1, by rw [d2.M]; exact hJ, hsp, ?_, hr, R, hR, e1, e2, e3⟩, rfl, rfl, rfl⟩
  rw [d3, hs]
  rfl
 ·right
  rw [if_neg (by rw [e]; show ¬ (14 : Int) = 0; decide)]
  have hq := stores_keep (Q := fun s => ∃ t0 t1 t2, s = [t0, t1, t2] /\ (t1 = R.chain \/ (V'.J.l ≠ [] /\ t1 = R.before)) /\ (t0 = V'.root \/ t2 = V'.root)) [(0, V'.root), (1, V'.chain)] E hE ⟨s0, s1, V'.root, hs, .inr hb1, .inr rfl⟩ (fun x hx s hsx => by
   obtain ⟨t0, t1, t2, rfl, a, c⟩ := hsx
   simp only [List.mem_cons, List.not_mem_nil, or_false] at hx
   rcases hx with rfl | rfl
   ·exact ⟨V'.root, t1, t2, rfl, a, .inl rfl⟩
   ·exact ⟨t0, V'.chain, t2, rfl, .inl e1.symm, c⟩)
  have hall : ∃ t0 t1 t2, (dstores [(0, V'.root), (1, V'.chain), (2, zero32)] E).2.slots = [t0, t1, t2] /\ (t1 = R.chain \/ (V'.J.l ≠ [] /\ t1 = R.before)) /\ (t0 = V'.root \/ t2 = V'.root) := by
   have key : ∀ (l : List (Nat × ByteArray)) (E : Dev) (x : Nat × ByteArray), DOn E -> (dstores (l ++ [x]) E).1 = 14 -> (dstores (l ++ [x]) E).2.slots = (dstores l E).2.slots := by
    intro l
    induction l with
    | nil =>
     intro E x hE h14
     rcases slot_cases hE x with ⟨z0, e0⟩ | ⟨z0, e0⟩
     ·have e2 : dstores ([] ++ [x]) E = E.slot x := by
       show (if (E.slot x).1 = 0 then _ else _) = _
       rw [if_neg (by rw [e0]; show ¬ (14 : Int) = 0; decide)]
      rw [e2, e0]
      rfl
     ·exfalso
      have e2 : dstores ([] ++ [x]) E = (0, (E.slot x).2) := by
       show (if (E.slot x).1 = 0 then _ else _) = _
       rw [if_pos (by rw [e0])]
       rfl
      rw [e2] at h14
      cases h14
    | cons y r ih =>
     intro E x hE h14
     rcases slot_cases hE y with ⟨z0, e0⟩ | ⟨z0, e0⟩
     ·have e2 : ∀ m, dstores (y :: m) E = E.slot y := fun m => by
       show (if (E.slot y).1 = 0 then _ else _) = _
       rw [if_neg (by rw [e0]; show ¬ (14 : Int) = 0; decide)]
      rw [List.cons_append, e2, e2]
     ·have e2 : ∀ m, dstores (y :: m) E = dstores m (E.slot y).2 := fun m => by
       show (if (E.slot y).1 = 0 then _ else _) = _
       rw [if_pos (by rw [e0])]
      rw [List.cons_append, e2] at h14 ⊢
      rw [e2]
      rw [e0] at h14 ⊢
      exact ih _ x (slot_on hE z0 y).1 h14
   have := key [(0, V'.root), (1, V'.chain)] E (2, zero32) hE e
   rw [show [(0, V'.root), (1, V'.chain)] ++ [(2, zero32)] = [(0, V'.root), (1, V'.chain), (2, zero32)] from rfl] at this
   rw [this]
   exact hq
  obtain ⟨t0, t1, t2, q1, q2, q3⟩ := hall
  refine ⟨rfl, ⟨rfl, d1, fun P => ⟨_, _, _, ⟨rfl, rfl, rfl⟩, ⟨V'.J, R, t0, t1, t2, ?_, hR, e2, e3, q1, q2, ?_⟩, hr, stores_keep (Q := Good3) _ E hE (by rw [hs]; exact Good3.mk h0 hr.1) (fun x hx s hsx => ?_)⟩⟩, d3⟩
  ·rw [mount_M, d2, torn_clean hJ.inv.clean]
   exact hJ
  ·rcases q3 with e | e
   ·exact .inl e.symm
   ·exact .inr ⟨e.symm, hb1.1⟩
  ·have h3 : x = (0, V'.root) \/ x = (1, V'.chain) \/ x = (2, zero32) := by simpa using hx
   rcases h3 with rfl | rfl | rfl
   ·exact hsx.set0 hr
   ·exact hsx.set1 _
   ·exact hsx.set2 rfl
theorem rekey_out (I : VInv h V D b) (hb : b < 255) (root image : ByteArray) (hr : root.size = 32 /\ root ≠ zero32) (hi : image.size <= 7939) :
  ((vrekey h V D root image).1 = 15 /\ ((vrekey h V D root image).2.1 = some V /\ VInv h V (vrekey h V D root image).2.2 b \/ 0 <= D.left /\ Falls h (b + 1) (vrekey h V D root image) (fun r i l => r = V.root /\ i = V.image /\ l = V.texts))) \/
  ((vrekey h V D root image).1 = 0 /\ Goes h (b + 1) (vrekey h V D root image) root (some image) []) \/
  (0 <= D.left /\ (vrekey h V D root image).1 = 14 /\ Falls h (b + 1) (vrekey h V D root image) (fun r i l => (r = V.root /\ i = V.image /\ l = V.texts) \/ (r = root /\ i = some image /\ l = []))) := by
 obtain ⟨R, hR, e1, e2, e3⟩ := I.read
 unfold vrekey
 rw [if_neg (by omega)]
 have hlies : ∀ {J : Jrn} {M : List Sec} {s2 : ByteArray} {D' : Dev}, D'.slots = [V.root, V.chain, s2] -> s2.size = 32 -> D'.M = M -> JOk h J M (b + 1) -> J.l = V.J.l -> Lies h D' (b + 1) V.root V.image V.texts := by
  intro J M s2 D' hs hs2 hM hJ hl
  exact ⟨⟨J, R, V.root, V.chain, s2, by rw [hM]; exact hJ, by rw [hl]; exact hR, e2, e3, hs, .inl e1.symm, .inl rfl⟩, I.root, by rw [hs]; exact Good3.mk I.root hs2⟩
 rcases slot_cases I.on (2, root) with ⟨h0, e⟩ | ⟨h0, e⟩
 ·right; right
  rw [if_pos (by rw [e]; show ¬ (14 : Int) = 0; decide), e]
  refine ⟨by omega, rfl, rfl, rfl, fun P => ⟨_, _, _, .inl ⟨rfl, rfl, rfl⟩, hlies (s2 := zero32) I.slots rfl rfl (J := V.J) ?_ rfl⟩⟩
  rw [mount_M]
  show JOk h V.J (tornM D.M P) (b + 1)
  rw [torn_clean I.jok.inv.clean]
  exact I.jok.up (by omega)
 ·rw [if_neg (by rw [e]; exact fun h => h rfl), e]
  obtain ⟨d1, d2⟩ := slot_on I.on h0 (2, root)
  obtain ⟨E, hE⟩ : ∃ E : Dev, ({ D.on 1 D.M with slots := D.slots.set 2 root } : Dev) = E := ⟨_, rfl⟩
  have hEs : E.slots = [V.root, V.chain, root] := by rw [<- hE]; show D.slots.set 2 root = _; rw [I.slots]; rfl
  have hEl : 0 <= E.left -> 0 <= D.left := by
   rw [<- hE]
   show 0 <= lft D.left 1 -> _
   unfold lft
   split <;> omega
  rw [hE] at d1 d2
  dsimp only
  rw [hE]
  have hJE : JOk h V.J E.M b := by rw [d2.M]; exact I.jok
  rcases replace_out d1 hJE hb I.chain root image hi with ⟨a1, a2⟩ | ⟨D', a1, a2, a3, a4, a5⟩ | ⟨a0, V', D', a1, a2, a2l, a3, a4, a5, a6, a7, a8, a9, _, a10⟩
  ·left
   rw [a2]
   rcases slot_cases d1 (2, zero32) with ⟨z0, ez⟩ | ⟨z0, ez⟩
   ·refine ⟨rfl, .inr ⟨hEl (by omega), ?_, ?_, fun P => ⟨_, _, _, ⟨rfl, rfl, rfl⟩, hlies (s2 := root) ?_ hr.1 rfl (J := V.J) ?_ rfl⟩⟩⟩
    ·show (if (E.slot (2, zero32)).1 = 0 then some V else none) = none
     rw [ez]
     exact if_neg (show ¬ (14 : Int) = 0 by decide)
    ·show (E.slot (2, zero32)).2.down = true
     rw [ez]
     rfl
    ·show (E.slot (2, zero32)).2.slots = _
     rw [ez]
     exact hEs
    ·show JOk h V.J (tornM (E.slot (2, zero32)).2.M P) (b + 1)
     rw [ez]
     show JOk h V.J (tornM E.M P) (b + 1)
     rw [torn_clean hJE.inv.clean]
     exact hJE.up (by omega)
   ·obtain ⟨f1, f2⟩ := slot_on d1 z0 (2, zero32)
    refine ⟨rfl, .inl ⟨?_, ?_⟩⟩
    ·show (if (E.slot (2, zero32)).1 = 0 then some V else none) = some V
     rw [ez]
     exact if_pos rfl
    ·show VInv h V (E.slot (2, zero32)).2 b
     rw [ez]
     refine ⟨f1, by rw [f2.M]; exact hJE, I.spoiled, ?_, I.root, R, hR, e1, e2, e3⟩
     show E.slots.set 2 zero32 = _
     rw [hEs]
     rfl
  ·right; right
   rw [a1]
   refine ⟨hEl a2, rfl, rfl, a3, fun P => ?_⟩
   rcases a5 P with ⟨J, k1, k2⟩ | ⟨J, ch, k1, k2, k3⟩
   ·exact ⟨_, _, _, .inl ⟨rfl, rfl, rfl⟩, hlies (s2 := root) (a4.trans hEs) hr.1 rfl k1 k2⟩
   ·exact ⟨root, some image, [], .inr ⟨rfl, rfl, rfl⟩, ⟨J, _, V.root, V.chain, root, k1, k3, rfl, rfl, a4.trans hEs, .inr ⟨k2, rfl⟩, .inr ⟨rfl, k2⟩⟩, hr, by show Good3 D'.slots; rw [a4, hEs]; exact Good3.mk I.root hr.1⟩
  ·right
   rw [a1]
   have hc := all_out (V' := V') a2 a4 a5 (s0 := V.root) (s1 := V.chain) (by rw [a3, hEs, a6]) I.root (by rw [a6]; exact hr) (by rw [a6]; exact a10) rfl a7.symm a8.symm ⟨a9, rfl⟩
   rw [a6, a7, a8] at hc
   try dsimp only
   rcases hc with ⟨c1, c2⟩ | ⟨c1, c2, c3⟩
   ·exact .inl ⟨c1, c2⟩
   ·refine .inr ⟨?_, c1, c2.none, c2.down, fun P => ?_⟩
    ·by_cases hl : 0 <= E.left
     ·exact hEl hl
     ·have := a2l (by omega)
      omega
    ·obtain ⟨r, i, l, ⟨q1, q2, q3⟩, L⟩ := c2.lies P
     exact ⟨r, i, l, .inr ⟨q1, q2, q3⟩, L⟩
end
end Go.Proofs.YtpghocekofdpbaaGreatDoor
