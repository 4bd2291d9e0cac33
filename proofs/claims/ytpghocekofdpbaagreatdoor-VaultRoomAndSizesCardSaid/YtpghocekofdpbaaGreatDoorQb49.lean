import Derived.Test.YtpghocekofdpbaaGreatDoorQb48
namespace Go.Proofs.YtpghocekofdpbaaGreatDoor
open Go.RowKit Go.Shelf
attribute [local go_sem] Oper.semAt_some
structure Opens (h : Nat) (D : Dev) : Prop where
 fine : Fine D.M
 clean : Clean D.M
 half : D.M.length / 2 = h
 pos : 1 <= h
 len : D.M.length <= 24
 bits : ∃ s0 s1 s2 root R, D.slots = [s0, s1, s2] /\ (s0.size = 32 /\ s2.size = 32) /\ s0 ≠ zero32 /\ rootOf s0 s2 (jopen h D.M).l = some root /\ readV root (jopen h D.M).l = some R
 bnd : (∀ e ∈ (jopen h D.M).l, e.1 < 9223372036854775808 /\ e.2.size <= 1000000) /\ (jopen h D.M).l.length <= 1048576
section
variable {h b : Nat} {D D' : Dev} {V : Vlt}
theorem lies_opens {root : ByteArray} {image : Option ByteArray} {texts : List ByteArray} (L : Lies h D b root image texts) (hS : Sure h D root) (hb : b <= 255) (hl : D.M.length <= 24) (hh : D.M.length / 2 = h) : Opens h D := by
 have hg := L.good
 obtain ⟨hr1, hr2⟩ := L.root
 obtain ⟨J, R, s0, s1, s2, hJ, hR, hI, hT, hs, h1, h2⟩ := L.ok
 obtain ⟨_, _, hlx⟩ := open_finds hJ.inv
 have hJo := hJ.open_ hb
 rw [hs] at hg
 obtain ⟨g1, g2, g3⟩ := hg
 have hS' := hS
 unfold Sure at hS'
 rw [hs] at hS'
 have hroot : rootOf s0 s2 (jopen h D.M).l = some root := by
  rw [hlx] at hS' ⊢
  rcases h2 with e | ⟨e, hne⟩
  ·rw [e] at hR hr2
   rw [e]
   exact rootOf_first hr2 hR
  ·rcases hS' with e2 | ht
   ·have e3 : root = s0 := e2
    rw [e3] at hR hr2
    rw [e3]
    exact rootOf_first hr2 hR
   ·rw [e] at hR hr2
    rw [e]
    exact rootOf_second hr2 hR hne ht
 exact ⟨hJ.inv.fine, hJ.inv.clean, hh, hJ.inv.pos, hl, ⟨s0, s1, s2, root, R, hs, ⟨g1, g3⟩, g2, hroot, by rw [hlx]; exact hR⟩, JInv.hbl hJo.inv (by have := hJo.next; omega) (by omega)⟩
theorem vinv_opens (I : VInv h V D b) (hb : b <= 255) (hl : D.M.length <= 24) (hh : D.M.length / 2 = h) : Opens h D := by
 obtain ⟨L, e⟩ := I.lies
 exact lies_opens L (.inl e) hb hl hh
theorem vopen_two (h : Nat) (D : Dev) : ((vopen h D).1 ≠ 0 /\ (vopen h D).2.1 = none) \/ ((vopen h D).1 = 0 /\ ∃ V, (vopen h D).2.1 = some V) := by
 unfold vopen
 split
 ·exact .inl ⟨(show (19 : Int) ≠ 0 by decide), rfl⟩
 ·split
  ·exact .inl ⟨(show (7 : Int) ≠ 0 by decide), rfl⟩
  ·split
   ·exact .inl ⟨(show (7 : Int) ≠ 0 by decide), rfl⟩
   ·split
    ·exact .inl ⟨(show (9 : Int) ≠ 0 by decide), rfl⟩
    ·split
     ·exact .inr ⟨rfl, _, rfl⟩
     ·exact .inl ⟨(show (14 : Int) ≠ 0 by decide), rfl⟩
theorem vopen_len (h : Nat) (D : Dev) : (vopen h D).2.2.M = D.M := by
 unfold vopen
 split
 ·rfl
 ·split
  ·rfl
  ·split
   ·rfl
   ·split
    ·rfl
    ·split <;> exact stores_M _ _
end
section
variable {W w w' w1 w2 : World} {a : DAt} {x : VAt} {h b lo pb B : Nat} {V V' : Vlt} {D E : Dev} {p u p' u' : Value}
theorem vopen_at (hd : DevIs w a D) (hon : DOn D) (k : Opens h D) (hK : KAt w 1) : Calls Tryz.prog 29 #[.pointer (some ⟨a.d, 0, none⟩)] w fun e w' => VOpened w a h (vopen h D) e w' := by
 obtain ⟨s0, s1, s2, root, R, e1, e2, e3, e4, e5⟩ := k.bits
 exact vopen_any hd hon k.fine k.clean h k.half k.pos (by have := k.len; omega) e1 e2 e3 e4 e5 k.bnd.1 k.bnd.2 hK
structure PLeft (w w' : World) (a : DAt) (pb : Nat) : Prop where
 os : w'.os = w.os
 tape : w'.tape = w.tape
 output : w'.output = w.output
 size : w.heap.size <= w'.heap.size
 rest : ∀ k, k < w.heap.size -> k ≠ a.d -> k ≠ a.g -> k ≠ a.sb -> k ≠ a.fb -> k ≠ pb -> w'.heap[k]? = w.heap[k]?
theorem PLeft.ofD (h : DLeft w w' a) : PLeft w w' a pb := ⟨h.os, h.tape, h.output, h.size, fun k hk h1 h2 h3 h4 _ => h.rest k hk h1 h2 h3 h4⟩
theorem PLeft.trans (h : PLeft w w1 a pb) (k : PLeft w1 w2 a pb) : PLeft w w2 a pb :=
 ⟨k.os.trans h.os, k.tape.trans h.tape, k.output.trans h.output, Nat.le_trans h.size k.size, fun j hj h1 h2 h3 h4 h5 => (k.rest j (Nat.lt_of_lt_of_le hj h.size) h1 h2 h3 h4 h5).trans (h.rest j hj h1 h2 h3 h4 h5)⟩
theorem PLeft.set (h : PLeft w w1 a pb) (i : Nat) (v : Value) : PLeft w (w1.setCell ⟨pb, i, none⟩ v) a pb :=
 ⟨h.os, h.tape, h.output, by have := h.size; simpa [World.setCell] using this, fun j hj h1 h2 h3 h4 h5 => (Below.heap_setCell w1 ⟨pb, i, none⟩ v j (fun e => h5 e)).trans (h.rest j hj h1 h2 h3 h4 h5)⟩
theorem PLeft.below {w0 : World} (hF : PLeft w w' a pb) (hB : Below B w0 w) (h0 : B <= w.heap.size) (h1 : B <= a.d) (h2 : B <= a.g) (h3 : B <= a.sb) (h4 : B <= a.fb) (h5 : B <= pb) : Below B w0 w' :=
 ⟨hF.os.trans hB.os, hF.tape.trans hB.tape, hF.output.trans hB.output, Nat.le_trans hB.size hF.size, fun j hj => (hF.rest j (Nat.lt_of_lt_of_le hj h0) (by omega) (by omega) (by omega) (by omega) (by omega)).trans (hB.block j hj)⟩
theorem Far.player {j : Nat} {cs : Array Value} (h : Blk w j 37 cs) : Far w (some j) := by
 intro k t' cs' hk hT e
 have ne : t' ≠ 37 := by rcases hT with rfl | rfl | rfl | rfl | rfl | rfl | rfl | rfl | rfl <;> decide
 exact hk.ne_ h ne (Option.some.inj e)
structure QSt (W w : World) (a : DAt) (pb h : Nat) (D : Dev) : Prop where
 dev : DevIs w a D
 pl : ∃ v, Blk w pb 37 #[.pointer (some ⟨a.d, 0, none⟩), v, .slice none 0 0]
 bel : Below W.heap.size W w
 d : W.heap.size <= a.d
 g : W.heap.size <= a.g
 sb : W.heap.size <= a.sb
 fb : W.heap.size <= a.fb
 at_ : W.heap.size <= pb
 len : D.M.length <= 24
 half : D.M.length / 2 = h
theorem PSt.q (k : PSt W w x pb h V D b p u) : QSt W w x.a pb h D := ⟨k.vis.dev, ⟨_, k.pl⟩, k.bel, k.back.d, k.back.g, k.back.sb, k.back.fb, k.at_, k.len, k.half⟩
theorem QSt.dleft (k : QSt W w a pb h D) (hF : DLeft w w' a) (hd : DevIs w' a E) (hl : E.M.length = D.M.length) : QSt W w' a pb h E := by
 obtain ⟨v, hp⟩ := k.pl
 exact ⟨hd, ⟨v, (hF.blk k.dev hp (fun e => by cases e) (fun e => by cases e) (fun e => by cases e) (fun e => by cases e)).trans hp⟩, DFr.below hF k.bel k.bel.size k.d k.g k.sb k.fb, k.d, k.g, k.sb, k.fb, k.at_, by rw [hl]; exact k.len, by rw [hl]; exact k.half⟩
structure POpened (W w : World) (a : DAt) (pb h : Nat) (D : Dev) (e : Ending) (w' : World) : Prop where
 e : e = .returned (.int .i64 (vopen h D).1)
 left : PLeft w w' a pb
 q : QSt W w' a pb h (vopen h D).2.2
 out : ((vopen h D).1 ≠ 0 /\ (vopen h D).2.1 = none /\ Blk w' pb 37 #[.pointer (some ⟨a.d, 0, none⟩), .pointer none, .slice none 0 0]) \/
  ∃ V x p u, (vopen h D).1 = 0 /\ (vopen h D).2.1 = some V /\ x.a = a /\ VIs w' x h V (vopen h D).2.2 p u /\ Blk w' pb 37 #[.pointer (some ⟨a.d, 0, none⟩), .pointer (some ⟨x.vb, 0, none⟩), .slice none 0 0] /\ w.heap.size <= x.jb /\ w.heap.size <= x.vb /\ ∀ k, u.ownBlock = some k -> w.heap.size <= k
theorem vpicks_rest {w0 w : World} {pv : Value} {P : List Int} {b g : Nat} (h : IntsAt w0 pv P) (hB : Below w0.heap.size w0 w) (hbg : b ≠ g) (hb : b < w.heap.size) (hg : w0.heap.size <= g) :
  ∃ pb po, RestAt pv P.length 0 pb po /\ pb ≠ g /\ pb < w.heap.size /\ ∀ i x, P[i]? = some x -> w.cell? ⟨pb, po + i, none⟩ = some (.int .i64 x) := jpicks_rest h hB hbg hb hg
theorem qmount_any (k : QSt W w a pb h D) (hf : Fine D.M) (pv : Value) (P : List Int) (hP : IntsAt W pv P) :
  Calls Tryz.prog 27 #[.pointer (some ⟨a.d, 0, none⟩), pv] w fun e w' => e = .returned (.tuple #[]) /\ QSt W w' a pb h (D.mount P) /\ DLeft w w' a := by
 obtain ⟨pb', po, hr2, hpg, hpl, hcc⟩ := vpicks_rest hP k.bel k.dev.mem.ne k.dev.mem.lt.1 k.g
 refine (dMount_any k.dev hf (by have := k.len; omega) pv P pb' po hr2 hpg hcc).mono ?_
 rintro e w' ⟨rfl, h1, h2⟩
 exact ⟨rfl, k.dleft h2 h1 (torn_len (M := D.M) P), h2⟩
theorem ints_none (W : World) : IntsAt W (.slice none 0 0) [] := ⟨none, 0, rfl, Nat.le_refl _, Nat.zero_le _, fun h => absurd h (by decide)⟩
set_option maxRecDepth 100000 in
set_option maxHeartbeats 4000000 in
theorem popen_any (k : QSt W w a pb h D) (hf : Fine D.M) (pv : Value) (P : List Int) (hP : IntsAt W pv P) (hO : Opens h (D.mount P)) (hK : KAt W 1) :
  Calls Tryz.prog 22 #[.pointer (some ⟨pb, 0, none⟩), pv] w (POpened W w a pb h (D.mount P)) := by
 obtain ⟨A, c, hpv, _⟩ := id hP
 have HM := Lib.hid (qmount_any k hf pv P hP)
 have HO : Hid (∀ wx, QSt W wx a pb h (D.mount P) -> Calls Tryz.prog 29 #[.pointer (some ⟨a.d, 0, none⟩)] wx fun e w' => VOpened wx a h (vopen h (D.mount P)) e w') := fun wx kq => vopen_at kq.dev (mount_up D P).on hO (hK.below kq.bel)
 obtain ⟨vp, hp⟩ := k.pl
 have HPl := Lib.hid hp
 have y0 := hp.cell 0
 have HQ := Lib.hid k
 have HV := Lib.hid (vopen_two h (D.mount P))
 have HL := Lib.hid (vopen_len h (D.mount P))
 subst hpv
 clear k hf hP hO hK hp
 generalize D.mount P = DM at HM HO HV HL ⊢
 obtain ⟨r, hr⟩ : ∃ r, vopen h DM = r := ⟨_, rfl⟩
 rw [hr] at HO HV HL
 have Hr := Lib.hid hr
 clear hr
 go_enter Tryz.func22, Tryz.ntmps22
 go_wp2_with fail
 refine HM.out.mono ?_
 rintro e w1 ⟨rfl, hq1, hl1⟩
 have HQ1 := Lib.hid hq1
 have HL1 := Lib.hid hl1
 have hp1 : Hid (Blk w1 pb 37 #[.pointer (some ⟨a.d, 0, none⟩), vp, .slice none 0 0]) := (hl1.blk HQ.out.dev HPl.out (fun e => by cases e) (fun e => by cases e) (fun e => by cases e) (fun e => by cases e)).trans HPl.out
 have y1 := hp1.out.cell 0
 clear hq1 hl1 y0
 go_wp2_with fail
 refine (HO.out w1 HQ1.out).mono ?_
 intro e w2 hO
 obtain ⟨hl2, hd2, hout⟩ := hO
 have hp2 : Hid (Blk w2 pb 37 #[.pointer (some ⟨a.d, 0, none⟩), vp, .slice none 0 0]) := (hl2.blk HQ1.out.dev hp1.out (fun e => by cases e) (fun e => by cases e) (fun e => by cases e) (fun e => by cases e)).trans hp1.out
 have HQ2 : Hid (QSt W w2 a pb h r.2.2) := HQ1.out.dleft hl2 hd2 (by rw [HL.out])
 have f2 := hp2.out.frozen 1
 have c21 := hp2.out.cell 1
 have hb3 := hp2.out.set_ 1 (.pointer none)
 have c31 := hb3.cell 1
 have f3 := hb3.frozen 1
 have HB3 := Lib.hid hb3
 have PL : Hid (PLeft w w2 a pb) := (PLeft.ofD HL1.out).trans (PLeft.ofD hl2)
 have far2 : Hid (Far w2 (some pb)) := Far.player hp2.out
 have g2 : Hid (w2.grownBy (w2.setCell ⟨pb, 1, none⟩ (.pointer none)) (some pb)) := grown_set w2 pb 1 _
 rcases hout with ⟨hn, rfl⟩ | ⟨V, x, p, u, hV, hxa, rfl, hvis, hj, hvb, hlo⟩
 ·have hne : Hid (r.1 ≠ 0) := by
   rcases HV.out with ⟨h1, _⟩ | ⟨_, V, h2⟩
   ·exact h1
   ·rw [hn] at h2; cases h2
  have Hn := Lib.hid hn
  obtain ⟨E0, hE0⟩ : ∃ E0, r.1 = E0 := ⟨_, rfl⟩
  have d1 : (E0 == 0) = false := by rw [<- hE0]; exact beq_eq_false_iff_ne.2 hne.out
  rw [hE0]
  have HE0 := Lib.hid hE0
  clear hE0 hn hl2 hd2 hb3 c31 f3 y1
  go_wp2_with fail
  go_ret
  have hq3 : QSt W (w2.setCell ⟨pb, 1, none⟩ (.pointer none)) a pb h r.2.2 := ⟨devIs_far HQ2.out.dev g2.out far2.out, ⟨_, HB3.out⟩, (((PLeft.ofD (DLeft.refl w2)).set 1 (.pointer none)).below HQ2.out.bel HQ2.out.bel.size HQ2.out.d HQ2.out.g HQ2.out.sb HQ2.out.fb HQ2.out.at_), HQ2.out.d, HQ2.out.g, HQ2.out.sb, HQ2.out.fb, HQ2.out.at_, HQ2.out.len, HQ2.out.half⟩
  have hr := Hr.out
  subst hr
  exact ⟨by rw [<- HE0.out]; rfl, PL.out.set 1 _, hq3, .inl ⟨hne.out, Hn.out, HB3.out⟩⟩
 ·have h0 : r.1 = 0 := by
   rcases HV.out with ⟨_, h2⟩ | ⟨h1, _⟩
   ·rw [h2] at hV; cases hV
   ·exact h1
  have H0 := Lib.hid h0
  have HX := Lib.hid (And.intro hV (And.intro hxa (And.intro hvis (And.intro hj (And.intro hvb hlo)))))
  rw [h0]
  clear h0 hV hxa hvis hj hvb hlo hl2 hd2 hb3 y1
  go_wp2_with fail
  go_ret
  have hb4 := HB3.out.set_ 1 (.pointer (some ⟨x.vb, 0, none⟩))
  have far3 : Far (w2.setCell ⟨pb, 1, none⟩ (.pointer none)) (some pb) := Far.player HB3.out
  have g3 := grown_set (w2.setCell ⟨pb, 1, none⟩ (.pointer none)) pb 1 (.pointer (some ⟨x.vb, 0, none⟩))
  obtain ⟨hV, hxa, hvis, hj, hvb, hlo⟩ := HX.out
  have hq3 : QSt W ((w2.setCell ⟨pb, 1, none⟩ (.pointer none)).setCell ⟨pb, 1, none⟩ (.pointer (some ⟨x.vb, 0, none⟩))) a pb h r.2.2 := ⟨devIs_far (devIs_far HQ2.out.dev g2.out far2.out) g3 far3, ⟨_, hb4⟩, ((((PLeft.ofD (DLeft.refl w2)).set 1 (.pointer none)).set 1 _).below HQ2.out.bel HQ2.out.bel.size HQ2.out.d HQ2.out.g HQ2.out.sb HQ2.out.fb HQ2.out.at_), HQ2.out.d, HQ2.out.g, HQ2.out.sb, HQ2.out.fb, HQ2.out.at_, HQ2.out.len, HQ2.out.half⟩
  have hs1 := HL1.out.size
  have hr := Hr.out
  subst hr
  exact ⟨by rw [H0.out]; rfl, (PL.out.set 1 _).set 1 _, hq3, .inr ⟨V, x, p, u, H0.out, hV, hxa, (hvis.far g2.out far2.out).far g3 far3, hb4, Nat.le_trans hs1 hj, Nat.le_trans hs1 hvb, fun k e => by have := (hvis.row.lt k e).1; omega⟩⟩
end
end Go.Proofs.YtpghocekofdpbaaGreatDoor
namespace Go.Proofs.YtpghocekofdpbaaGreatDoor
open Go.RowKit Go.Shelf
open Sec (countN)
attribute [local go_sem] Oper.semAt_some
def SS (W w : World) (x : VAt) (pb : Nat) (V : Vlt) (b : Nat) : Prop := ∃ lo D p u, PSt W w { x with lo := lo } pb 6 V D b p u /\ D.left = -1
def SI (W w : World) (x : VAt) (pb : Nat) (V : Vlt) (b : Nat) (v : Value) (V0 : Vlt) : Prop :=
 ∃ lo D p u D0 b0, PSt W w { x with lo := lo } pb 6 V D b p u /\ D.left = -1 /\ VInv 6 V0 D0 b0 /\ b0 <= 100 /\ D0.M.length = D.M.length /\ Texts w v (D0.M.map Sec.now) /\ ∀ k, v.ownBlock = some k -> k ≠ x.a.sb /\ u.ownBlock ≠ some k
section
variable {W w w' : World} {x : VAt} {pb b : Nat} {V V' V0 : Vlt} {v : Value}
theorem SS.on (k : SS W w x pb V b) (hB : Below w.heap.size w w') : SS W w' x pb V b := by
 obtain ⟨lo, D, p, u, h, hl⟩ := k
 exact ⟨lo, D, p, u, h.on hB, hl⟩
theorem SS.bel (k : SS W w x pb V b) : Below W.heap.size W w := by
 obtain ⟨lo, D, p, u, h, hl⟩ := k
 exact h.bel
theorem SS.cells (k : SS W w x pb V b) : w.cell? ⟨pb, 0, none⟩ = some (.pointer (some ⟨x.a.d, 0, none⟩)) /\ w.cell? ⟨pb, 1, none⟩ = some (.pointer (some ⟨x.vb, 0, none⟩)) := by
 obtain ⟨lo, D, p, u, h, hl⟩ := k
 exact ⟨h.pl.cell 0, h.pl.cell 1⟩
theorem SI.ss (k : SI W w x pb V b v V0) : SS W w x pb V b := by
 obtain ⟨lo, D, p, u, D0, b0, h, hl, _⟩ := k
 exact ⟨lo, D, p, u, h, hl⟩
theorem s_begin (hW : Below W.heap.size W w) : Calls Tryz.prog 13 #[.int .i64 12, .int .u8 5] w fun e w' => ∃ x pb, e = .returned (.tuple #[.pointer (some ⟨pb, 0, none⟩), .bool true]) /\ Hid (SS W w' x pb sanV0 1) := by
 refine (begin_ok hW 12 5 (by decide) (by decide)).mono ?_
 rintro e w' ⟨x, pb, p, u, rfl, h⟩
 have hs := h.st
 rw [san_fresh] at hs
 exact ⟨x, pb, rfl, x.lo, _, p, u, hs, rfl⟩
theorem s_commit (k : SS W w x pb V b) (hK : KAt W 1) (hb : b < 250) (t : ByteArray) (ht : t.size <= 7971) (hr : V.J.used + countN (t.size + 29) <= 6) (hV : vadd V t = V') :
  Calls Tryz.prog 16 #[.pointer (some ⟨x.vb, 0, none⟩), .string t] w fun e w' => e = .returned (.int .i64 0) /\ Hid (SS W w' x pb V' (b + 1)) := by
 obtain ⟨lo, D, p, u, h, hl⟩ := k
 obtain ⟨h1, h2⟩ := commit_full h.inv (by omega) hl t ht hr
 refine (h.commit (by omega) hK t ht).mono ?_
 intro e w' hp
 obtain ⟨lo', p', u', hs, _⟩ := h.next hp (V' := vadd V t) (c := b + 1) (by rw [h1]) h2 (commit_len t)
 have he := hp.1
 rw [h1] at he
 rw [hV] at hs
 exact ⟨he, lo', _, p', u', hs, commit_left hl t⟩
theorem s_commitI (k : SI W w x pb V b v V0) (hK : KAt W 1) (hb : b < 250) (t : ByteArray) (ht : t.size <= 7971) (hr : V.J.used + countN (t.size + 29) <= 6) (hV : vadd V t = V') :
  Calls Tryz.prog 16 #[.pointer (some ⟨x.vb, 0, none⟩), .string t] w fun e w' => e = .returned (.int .i64 0) /\ Hid (SI W w' x pb V' (b + 1) v V0) := by
 obtain ⟨lo, D, p, u, D0, b0, h, hl, i0, hb0, hl0, hT, hsep⟩ := k
 obtain ⟨h1, h2⟩ := commit_full h.inv (by omega) hl t ht hr
 refine (h.commit (by omega) hK t ht).mono ?_
 intro e w' hp
 obtain ⟨lo', p', u', hs, hla⟩ := h.next hp (V' := vadd V t) (c := b + 1) (by rw [h1]) h2 (commit_len t)
 have he := hp.1
 rw [h1] at he
 rw [hV] at hs
 refine ⟨he, lo', _, p', u', D0, b0, hs, commit_left hl t, i0, hb0, hl0.trans (commit_len t).symm, ?_, fun k e => ?_⟩
 ·refine ownsRow_same hT (fun j cs e hj => ?_)
  exact VLeft.keeps h.vis hp.2.1 hj (fun e => by cases e) (fun e => by cases e) (fun _ => hsep j e) (fun e => by cases e) (fun e => by cases e) (fun e => by cases e)
 ·refine ⟨(hsep k e).1, fun q => ?_⟩
  rcases hla.own k q with e2 | e2
  ·exact (hsep k e).2 e2
  ·have := (hT.lt k e).2
   omega
theorem s_compact (k : SS W w x pb V b) (hK : KAt W 1) (hb : b < 250) (t : ByteArray) (ht : t.size <= 7939) (hr : countN (t.size + 61) <= 6) (hV : vimg V V.root t = V') :
  Calls Tryz.prog 37 #[.pointer (some ⟨x.vb, 0, none⟩), .string t] w fun e w' => e = .returned (.int .i64 0) /\ Hid (SS W w' x pb V' (b + 1)) := by
 obtain ⟨lo, D, p, u, h, hl⟩ := k
 obtain ⟨h1, h2⟩ := vcompact_full h.inv (by omega) hl t ht hr
 refine (h.compact (by omega) hK t ht).mono ?_
 intro e w' hp
 obtain ⟨lo', p', u', hs, _⟩ := h.next hp (V' := vimg V V.root t) (c := b + 1) (by rw [h1]) h2 (compact_lenV t)
 have he := hp.1
 rw [h1] at he
 rw [hV] at hs
 exact ⟨he, lo', _, p', u', hs, compact_left hl t⟩
theorem s_rekey (k : SS W w x pb V b) (hK : KAt W 1) (hb : b < 250) (root t : ByteArray) (hroot : root.size = 32 /\ root ≠ zero32) (ht : t.size <= 7939) (hr : countN (t.size + 61) <= 6) (hV : vimg V root t = V') :
  Calls Tryz.prog 25 #[.pointer (some ⟨x.vb, 0, none⟩), .string root, .string t] w fun e w' => e = .returned (.int .i64 0) /\ Hid (SS W w' x pb V' (b + 1)) := by
 obtain ⟨lo, D, p, u, h, hl⟩ := k
 obtain ⟨h1, h2⟩ := rekey_full h.inv (by omega) hl root t hroot ht hr
 refine (h.rekey (by omega) hK root t hroot ht).mono ?_
 intro e w' hp
 obtain ⟨lo', p', u', hs, _⟩ := h.next hp (V' := vimg V root t) (c := b + 1) (by rw [h1]) h2 (rekey_len root t)
 have he := hp.1
 rw [h1] at he
 rw [hV] at hs
 exact ⟨he, lo', _, p', u', hs, rekey_left hl root t⟩
theorem up_mount {D : Dev} (hc : Clean D.M) (hd : DOn D) (hl : D.left = -1) (P : List Int) : D.mount P = D := by
 have h1 := hd.down
 unfold Dev.mount
 rw [torn_clean hc]
 obtain ⟨b1, b2, b3, b4, b5, b6, b7⟩ := D
 dsimp only at h1 hl
 rw [h1, hl]
theorem s_open (k : SS W w x pb V b) (hK : KAt W 1) (hb : b < 250) (hn : V.J.next = lastN V.J.l + 1) :
  Calls Tryz.prog 22 #[.pointer (some ⟨pb, 0, none⟩), .slice none 0 0] w fun e w' => ∃ x' : VAt, e = .returned (.int .i64 0) /\ x'.a = x.a /\ Hid (SS W w' x' pb V b) := by
 obtain ⟨lo, D, p, u, h, hl⟩ := k
 have hm := up_mount h.inv.jok.inv.clean h.inv.on hl []
 have hO : Opens 6 (D.mount []) := by rw [hm]; exact vinv_opens h.inv (by omega) h.len h.half
 refine (popen_any h.q h.inv.jok.inv.fine _ [] (ints_none W) hO hK).mono ?_
 intro e w' hp
 have hv := open_same h.inv hn
 rw [hm] at hp
 obtain ⟨he, hleft, hq, hout⟩ := hp
 rw [hv] at he hq hout
 rcases hout with ⟨h0, _⟩ | ⟨V1, x', p', u', _, hV1, hxa, hvis, hpl, hj, hvb, hu⟩
 ·exact absurd rfl h0
 ·cases hV1
  have hs := h.bel.size
  have hxa' : x'.a = x.a := hxa
  refine ⟨x', he, hxa', x'.lo, D, p', u', ⟨hvis, h.inv, by rw [hxa]; exact hpl, hq.bel, ?_, h.len, h.half, h.at_⟩, hl⟩
  exact ⟨by rw [hxa]; exact hq.d, by rw [hxa]; exact hq.g, by rw [hxa]; exact hq.sb, by rw [hxa]; exact hq.fb, Nat.le_trans hs hj, Nat.le_trans hs hvb, fun k e => Nat.le_trans hs (hu k e)⟩
theorem s_image (k : SS W w x pb V b) (hb : b <= 100) : Calls Tryz.prog 17 #[.pointer (some ⟨x.a.d, 0, none⟩)] w fun e w' => ∃ v, e = .returned v /\ Hid (SI W w' x pb V b v V) /\ ∃ A n c, v = .slice A n c := by
 obtain ⟨lo, D, p, u, h, hl⟩ := k
 refine (dImage_any h.vis.dev (by have := h.len; omega)).mono ?_
 rintro e w' ⟨v, rfl, h1, h2, h3⟩
 have hT : Texts w' v (D.M.map Sec.now) := by
  refine ⟨h1.1, ?_⟩
  rcases h1.2 with h4 | ⟨g, cap, cur, hv, hg, r⟩
  ·exact .inl h4
  ·exact .inr ⟨g, cap, cur, hv, Nat.zero_le _, r⟩
 obtain ⟨A, c, hv, _⟩ := hT.parts
 refine ⟨v, rfl, ⟨lo, D, p, u, D, b, h.on h3, hl, h.inv, hb, rfl, hT, fun j e => ?_⟩, A, _, c, hv⟩
 have hj := (h1.lt j e).1
 obtain ⟨_, _, s3, _, _, _, s7, _⟩ := h.vis.sizes
 have s3' : x.a.sb < w.heap.size := s3
 exact ⟨by omega, fun q => by have := s7 j q; omega⟩
def SO (W w : World) (x : VAt) (pb : Nat) : Prop := ∃ D D0 b0, QSt W w x.a pb 6 D /\ Fine D.M /\ Clean D.M /\ VInv 6 sanV2 D0 b0 /\ b0 <= 100 /\ nowL D.M = nowL D0.M /\ D.slots = [root26 5, sanC3, zero32] /\ D.down = false /\ D.left = -1
theorem load_now : ∀ (I : List ByteArray) (M : List Sec), I.length = M.length -> (loadM I M).map Sec.now = I
 | [], [], _ => rfl
 | [], _ :: _, h => by cases h
 | _ :: _, [], h => by cases h
 | t :: I, s :: M, h => by
  show t :: (loadM I M).map Sec.now = _
  rw [load_now I M (by simpa using h)]
theorem load_mem {I : List ByteArray} {M : List Sec} {y : Sec} (h : y ∈ loadM I M) : y.now ∈ I /\ y.before = y.now /\ y.dirty = false := by
 unfold loadM at h
 obtain ⟨i, hi⟩ := List.mem_iff_getElem?.1 h
 rw [List.getElem?_zipWith] at hi
 cases h1 : I[i]? with
 | none => rw [h1] at hi; cases hi
 | some t =>
  cases h2 : M[i]? with
  | none => rw [h1, h2] at hi; cases hi
  | some s =>
   rw [h1, h2] at hi
   cases hi
   exact ⟨List.mem_of_getElem? h1, rfl, rfl⟩
theorem nowL_now {M M' : List Sec} (h : M.map Sec.now = M'.map Sec.now) : nowL M = nowL M' := by
 have e : ∀ M : List Sec, nowL M = (M.map Sec.now).map fun t => t.data.toList := fun M => by
  unfold nowL
  rw [List.map_map]
  rfl
 rw [e, e, h]
theorem s_restore (k : SI W w x pb sanV3 b v sanV2) : Calls Tryz.prog 21 #[.pointer (some ⟨x.a.d, 0, none⟩), v] w fun e w' => e = .returned (.int .i64 0) /\ Hid (SO W w' x pb) := by
 obtain ⟨lo, D, p, u, D0, b0, h, hl, i0, hb0, hl0, hT, hsep⟩ := k
 have hlen : (D0.M.map Sec.now).length = D.M.length := by rw [List.length_map]; exact hl0
 have hw : wrongs (D0.M.map Sec.now) = false := by
  unfold wrongs
  rw [List.any_eq_false]
  intro t ht
  obtain ⟨y, hy, rfl⟩ := List.mem_map.1 ht
  have := (i0.jok.inv.fine y hy).1
  simp [this]
 have he : loadErr (D0.M.map Sec.now) D.M = false := by
  unfold loadErr
  rw [hw, hlen]
  simp
 have hc := dRestore_any h.vis.dev v (D0.M.map Sec.now) hT (by rw [hlen]; have := h.len; omega)
 rw [he] at hc
 refine hc.mono ?_
 rintro e w' ⟨rfl, hd, hF⟩
 refine ⟨rfl, { D with M := loadM (D0.M.map Sec.now) D.M }, D0, b0, h.q.dleft hF hd (loadM_len _ _ hlen), fun y hy => ?_, fun y hy => ?_, i0, hb0, nowL_now (load_now _ _ hlen), h.inv.slots, h.inv.on.down, hl⟩
 ·obtain ⟨h1, h2, h3⟩ := load_mem hy
  obtain ⟨z, hz, e⟩ := List.mem_map.1 h1
  have h64 := (i0.jok.inv.fine z hz).1
  rw [e] at h64
  exact ⟨h64, by rw [h2]; exact h64, fun q => by rw [h3] at q; cases q⟩
 ·exact (load_mem hy).2.2
theorem s_open9 (k : SO W w x pb) (hK : KAt W 1) : Calls Tryz.prog 22 #[.pointer (some ⟨pb, 0, none⟩), .slice none 0 0] w fun e w' => e = .returned (.int .i64 9) /\ Below W.heap.size W w' := by
 obtain ⟨D, D0, b0, hq, hf, hc, i0, hb0, hM, hs, hdn, hl⟩ := k
 have hm := up_mount (D := D) hc ⟨hdn, by rw [hl]; decide⟩ hl []
 obtain ⟨v1, v2, v3, v4⟩ := @san_stale _ [] _ _ i0 hM hs
 have hjo := i0.jok.open_ (by omega : b0 <= 255)
 have hO : Opens 6 (D.mount []) := by
  rw [hm]
  refine ⟨hf, hc, hq.half, by decide, hq.len, ⟨root26 5, sanC3, zero32, root26 5, _, hs, ⟨root26_size 5, rfl⟩, root26_ne 5, v2, v3⟩, ?_⟩
  rw [nowL_jopen hM]
  exact JInv.hbl hjo.inv (by have := hjo.next; omega) (by decide)
 refine (popen_any hq hf _ [] (ints_none W) hO hK).mono ?_
 intro e w' hp
 have he := hp.e
 rw [hm, v1] at he
 exact ⟨he, hp.q.bel⟩
end
end Go.Proofs.YtpghocekofdpbaaGreatDoor
namespace Go.Proofs.YtpghocekofdpbaaGreatDoor
open Go.RowKit Go.Shelf
open Sec (countN)
attribute [local go_sem] Oper.semAt_some
section
variable {W w w' : World} {x : VAt} {pb b : Nat} {V V' V0 : Vlt} {v : Value}
theorem SI.on (k : SI W w x pb V b v V0) (hB : Below w.heap.size w w') : SI W w' x pb V b v V0 := by
 obtain ⟨lo, D, p, u, D0, b0, h, hl, i0, hb0, hl0, hT, hs⟩ := k
 exact ⟨lo, D, p, u, D0, b0, h.on hB, hl, i0, hb0, hl0, ownsRow_below hT hB (Nat.le_refl _), hs⟩
theorem s_records (k : SS W w x pb sanV2 b) : Calls Tryz.prog 36 #[.pointer (some ⟨x.vb, 0, none⟩)] w fun e w' => ∃ v, e = .returned v /\ Hid (TextsV w' v [⟨#[97]⟩, ⟨#[98]⟩]) /\ Hid (Below w.heap.size w w') := by
 obtain ⟨lo, D, p, u, h, hl⟩ := k
 refine (vrecords_any h.vis (by decide)).mono ?_
 rintro e w' ⟨v, rfl, h1, h2⟩
 exact ⟨v, rfl, TextsV.row h1, h2⟩
theorem s_lit (w : World) : TextsV (w.alloc (.cells #[.string ⟨#[97]⟩, .string ⟨#[98]⟩] 9)) (.slice (some ⟨w.heap.size, 0, none⟩) 2 2) [⟨#[97]⟩, ⟨#[98]⟩] := by
 have hb := Blk.new w 9 #[.string ⟨#[97]⟩, .string ⟨#[98]⟩]
 refine ⟨_, 2, rfl, Nat.le_refl _, by unfold maxLen; omega, fun i t ht => ⟨_, rfl, hb.lt, ?_⟩⟩
 match i, ht with
 | 0, ht => cases ht; exact hb.cell 0
 | 1, ht => cases ht; exact hb.cell 1
theorem s_chain (k : SS W w x pb sanW2 b) : Calls Tryz.prog 18 #[.pointer (some ⟨x.vb, 0, none⟩)] w fun e w' => e = .returned (.string sanD2) /\ w = w' := by
 obtain ⟨lo, D, p, u, h, hl⟩ := k
 exact vchain_any h.vis
theorem s_load (k : SS W w x pb sanW2 b) : Calls Tryz.prog 31 #[.pointer (some ⟨x.a.d, 0, none⟩), .int .i64 0] w fun e w' => e = .returned (.tuple #[.string (root26 9), .int .i64 0]) /\ w = w' := by
 obtain ⟨lo, D, p, u, h, hl⟩ := k
 exact load_good h.vis.dev h.inv.on.down (i := 0) (by rw [h.inv.slots]; rfl)
theorem s_vimage (k : SS W w x pb sanW2 b) : Calls Tryz.prog 38 #[.pointer (some ⟨x.vb, 0, none⟩)] w fun e w' => e = .returned (.tuple #[.string ⟨#[110, 101, 119]⟩, .bool true]) /\ w = w' := by
 obtain ⟨lo, D, p, u, h, hl⟩ := k
 exact vimage_any h.vis
theorem s_room (k : SS W w x pb sanW2 b) : Calls Tryz.prog 15 #[.pointer (some ⟨x.vb, 0, none⟩)] w fun e w' => e = .returned (.int .i64 4) /\ Below w.heap.size w w' := by
 obtain ⟨lo, D, p, u, h, hl⟩ := k
 exact vroom_any h.vis (by decide) (by decide)
theorem s_size (w : World) : Calls Tryz.prog 9 #[.int .i64 16] w fun e w' => e = .returned (.int .i64 2) /\ w = w' := vsize_any w 16
theorem s_link (w : World) (hK : KAt w 1) : Calls Tryz.prog 11 #[.string sanD2, .int .i64 3, .string ⟨#[120]⟩] w fun e w' => e = .returned (.string sanL3) /\ Below w.heap.size w w' := by
 have h := vlink_any w sanD2 ⟨#[120]⟩ 3 (by decide) (by decide) (by decide) hK
 rw [san_L3] at h
 exact h
end
set_option maxRecDepth 100000 in
set_option maxHeartbeats 4000000 in
theorem sanity_true (w : World) (hK : KAt w 1) : Calls Tryz.prog 8 #[] w fun e w' => e = .returned (.bool true) /\ Below w.heap.size w w' := by
 have HK := Lib.hid hK
 have HRt : Hid (∀ wx, Calls Tryz.prog 26 #[.int .u8 9] wx fun e w' => e = .returned (.string (root26 9)) /\ Below wx.heap.size wx w') := fun wx => rRoot_any wx 9 (by decide)
 have HLk : Hid (∀ wx, Below w.heap.size w wx -> Calls Tryz.prog 11 #[.string sanD2, .int .i64 3, .string ⟨#[120]⟩] wx fun e w' => e = .returned (.string sanL3) /\ Below wx.heap.size wx w') := fun wx hB => s_link wx (hK.below hB)
 have hr9 : Hid ((root26 9).size = 32 /\ root26 9 ≠ zero32) := ⟨root26_size 9, root26_ne 9⟩
 have hcc : (sanD2.toList == sanD2.toList) = true := beq_self_eq_true _
 have hln : (sanL3.toList == sanD2.toList) = false := by
  rw [beq_eq_false_iff_ne, toList_dataV, toList_dataV]
  exact fun e => san_new.2.2 (by apply ByteArray.ext; exact Array.ext' e)
 have hsz : sanD2.size = 32 := rfl
 clear hK
 go_enter Tryz.func8, Tryz.ntmps8
 go_wp2_with fail
 refine (s_begin (Below.refl _ _)).mono ?_
 rintro e w1 ⟨x, pb, rfl, H1⟩
 obtain ⟨y0, y1⟩ := H1.out.cells
 go_wp2_with fail
 refine (s_commit H1.out HK.out (by decide) ⟨#[97]⟩ (by decide) (by decide) san_add0).mono ?_
 rintro e w2 ⟨rfl, H2⟩
 clear y0 y1 H1
 obtain ⟨y0, y1⟩ := H2.out.cells
 go_wp2_with fail
 refine (s_commit H2.out HK.out (by decide) ⟨#[98]⟩ (by decide) (by decide) san_add1).mono ?_
 rintro e w3 ⟨rfl, H3⟩
 clear y0 y1 H2
 go_wp2_with fail
 refine (s_open H3.out HK.out (by decide) rfl).mono ?_
 rintro e w4 ⟨x4, rfl, hx4, H4⟩
 clear H3 hx4
 obtain ⟨y0, y1⟩ := H4.out.cells
 go_wp2_with fail
 refine (s_image H4.out (by decide)).mono ?_
 rintro e w5 ⟨v5, rfl, H5, A5, n5, c5, rfl⟩
 clear y0 y1 H4
 obtain ⟨y0, y1⟩ := H5.out.ss.cells
 go_wp2_with fail
 refine (s_records H5.out.ss).mono ?_
 rintro e w6 ⟨v6, rfl, HT6, HB6⟩
 have HBa : Hid (Below w6.heap.size w6 (w6.alloc (.cells #[.string ⟨#[97]⟩, .string ⟨#[98]⟩] 9))) := (Below.refl _ _).alloc (Nat.le_refl _) _
 have HSm := Lib.hid (vsame_any _ _ _ _ _ (HT6.out.below HBa.out) (s_lit w6) (by decide) (by decide))
 obtain ⟨A6, c6, rfl, _⟩ := id HT6.out
 clear y0 y1
 go_wp2_with fail
 refine HSm.out.mono ?_
 rintro e w7 ⟨rfl, hB7⟩
 have H7 : Hid (SI w w7 x4 pb sanV2 3 (.slice A5 n5 c5) sanV2) := ((H5.out.on HB6.out).on HBa.out).on hB7
 clear H5 hB7 HSm HBa HB6 HT6
 obtain ⟨y0, y1⟩ := H7.out.ss.cells
 go_wp2_with fail
 refine (s_commitI H7.out HK.out (by decide) ⟨#[99]⟩ (by decide) (by decide) san_add2).mono ?_
 rintro e w8 ⟨rfl, H8⟩
 clear y0 y1 H7
 obtain ⟨y0, y1⟩ := H8.out.ss.cells
 go_wp2_with fail
 refine (s_restore H8.out).mono ?_
 rintro e w9 ⟨rfl, H9⟩
 clear y0 y1 H8
 go_wp2_with fail
 refine (s_open9 H9.out HK.out).mono ?_
 rintro e w10 ⟨rfl, hB10⟩
 have HB10 := Lib.hid hB10
 clear H9 hB10
 go_wp2_with fail
 refine (s_begin HB10.out).mono ?_
 rintro e w11 ⟨x, pb2, rfl, H11⟩
 clear HB10
 obtain ⟨y0, y1⟩ := H11.out.cells
 go_wp2_with fail
 refine (s_compact H11.out HK.out (by decide) ⟨#[105, 109, 97, 103, 101]⟩ (by decide) (by decide) san_img0).mono ?_
 rintro e w12 ⟨rfl, H12⟩
 clear y0 y1 H11
 obtain ⟨y0, y1⟩ := H12.out.cells
 have HBd : Hid (Below w12.heap.size w12 w12.drew) := (Below.refl _ _).drew
 go_wp2_with fail
 go_region_held3 (fun W => W.cell? ⟨pb2, 1, none⟩ = some (.pointer (some ⟨x.vb, 0, none⟩))) (go_keep)
  (first
   | (go_at_call 25; refine (s_rekey HSr.out HK.out (by decide) (root26 9) ⟨#[110, 101, 119]⟩ hr9.out (by decide) (by decide) san_img1).mono ?_; rintro e w14 ⟨rfl, H14⟩; obtain ⟨u0, u1⟩ := H14.out.cells)
   | (go_at_call 26; refine (HRt.out _).mono ?_; rintro e w13 ⟨rfl, hB⟩; have HSr := Lib.hid ((H12.out.on HBd.out).on hB); obtain ⟨z0, z1⟩ := HSr.out.cells; clear hB))
 clear y0 y1 z0 z1 u0 u1 H12 HSr HBd
 obtain ⟨y0, y1⟩ := H14.out.cells
 go_wp2_with fail
 refine (s_chain H14.out).mono ?_
 rintro e w15 ⟨rfl, rfl⟩
 clear y0 y1
 go_wp2_with fail
 refine (s_open H14.out HK.out (by decide) rfl).mono ?_
 rintro e w16 ⟨x16, rfl, hx16, H16⟩
 clear H14 hx16
 obtain ⟨y0, y1⟩ := H16.out.cells
 go_wp2_with fail
 refine (s_load H16.out).mono ?_
 rintro e w17 ⟨rfl, rfl⟩
 go_wp2_with fail
 refine (s_vimage H16.out).mono ?_
 rintro e w17 ⟨rfl, rfl⟩
 have h99 : ((root26 9).toList == (root26 9).toList) = true := beq_self_eq_true _
 generalize root26 9 = R9 at *
 clear y0 y1
 obtain ⟨y0, y1⟩ := H16.out.cells
 go_wp2_with fail
 refine (HRt.out _).mono ?_
 rintro e w18 ⟨rfl, hB18⟩
 have H18 := Lib.hid (H16.out.on hB18)
 clear y0 y1 hB18 H16
 obtain ⟨y0, y1⟩ := H18.out.cells
 go_wp2_with fail
 refine (s_chain H18.out).mono ?_
 rintro e w19 ⟨rfl, rfl⟩
 go_wp2_with fail
 refine (s_room H18.out).mono ?_
 rintro e w19 ⟨rfl, hB19⟩
 have H19 := Lib.hid (H18.out.on hB19)
 clear y0 y1 hB19 H18
 go_wp2_with fail
 refine (s_size _).mono ?_
 rintro e w20 ⟨rfl, rfl⟩
 go_wp2_with fail
 refine (HLk.out _ H19.out.bel).mono ?_
 rintro e w20 ⟨rfl, hB20⟩
 have H20 := Lib.hid (H19.out.on hB20)
 clear hB20 H19
 go_wp2_with fail
 go_ret
 exact ⟨rfl, H20.out.bel⟩
end Go.Proofs.YtpghocekofdpbaaGreatDoor
namespace Go.Proofs.YtpghocekofdpbaaGreatDoor
open Go.RowKit Go.Shelf
attribute [local go_sem] Oper.semAt_some
section
variable {W w w' w1 : World} {x y : VAt} {h b pb qb : Nat} {V V' : Vlt} {D : Dev} {p u p2 u2 : Value}
end
section
variable {W : World}
end
end Go.Proofs.YtpghocekofdpbaaGreatDoor
