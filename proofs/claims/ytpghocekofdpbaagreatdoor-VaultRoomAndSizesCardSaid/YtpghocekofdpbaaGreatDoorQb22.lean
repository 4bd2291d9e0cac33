import Derived.Test.YtpghocekofdpbaaGreatDoorQb18
import Derived.Test.YtpghocekofdpbaaGreatDoorQb16
import Derived.Test.YtpghocekofdpbaaGreatDoorQb20
import Derived.Test.YtpghocekofdpbaaGreatDoorQb12
import Derived.Test.YtpghocekofdpbaaGreatDoorQb15
import Derived.ArgAppend
import Derived.Deep.RegionHeld3
import Derived.BigQuiet
import Derived.Deep.QuietTactic
namespace Go.Proofs.YtpghocekofdpbaaGreatDoor
open Go.RowKit Go.Shelf
attribute [local go_sem] Oper.semAt_some
section
variable {d b g sb sc fb fc : Nat} {D : Dev}
theorem isDev_past {W W' : World} {k : Nat} {t : TypeId} {cs : Array Value} (h : IsDev W d b g sb sc fb fc D) (hk : Blk W k t cs) (ht : t ≠ 89 /\ t ≠ 139 /\ t ≠ 9 /\ t ≠ 4 /\ t ≠ 137) (hg : W.grownBy W' (some k)) : IsDev W' d b g sb sc fb fc D := by
 obtain ⟨cap, cur, m1, m2, _⟩ := h.mem.body
 obtain ⟨t1, t2, t3, t4, t5⟩ := ht
 refine ⟨h.blk.grown hg (fun e => hk.ne_ h.blk t1 (by cases e; rfl)), h.mem.grown hg (fun e => hk.ne_ m1 t5 (by cases e; rfl)) (fun e => hk.ne_ m2 t2 (by cases e; rfl)), ?_, ?_⟩
 ·exact h.srow.kept hg (.inr (own_blk_ne h.srow hk (Ne.symm t3)))
 ·exact h.frow.kept hg (.inr (own_blk_ne h.frow hk (Ne.symm t4)))
end
def entCells (l : List (Nat × ByteArray)) : List Value := l.flatMap fun e => [.int .i64 (e.1 : Int), .string e.2]
structure JIs (w : World) (jb : Nat) (a : DAt) (h : Nat) (J : Jrn) (v : Value) : Prop where
 blk : Blk w jb 126 #[.pointer (some ⟨a.d, 0, none⟩), .int .i64 h, .int .i64 J.bank, .int .i64 J.used, .int .i64 J.next, v, .bool J.spoiled, .bool false]
 row : w.ownsRow 0 134 2 v J.l.length (entCells J.l)
structure JLeft (w w' : World) (a : DAt) (jb : Nat) : Prop where
 os : w'.os = w.os
 tape : w'.tape = w.tape
 output : w'.output = w.output
 size : w.heap.size <= w'.heap.size
 rest : ∀ k, k < w.heap.size -> k ≠ a.d -> k ≠ a.g -> k ≠ a.sb -> k ≠ a.fb -> k ≠ jb -> w'.heap[k]? = w.heap[k]?
section
variable {w w' w2 : World} {a : DAt} {D : Dev} {jb h : Nat} {J : Jrn} {v : Value}
theorem JLeft.refl (w : World) : JLeft w w a jb := ⟨rfl, rfl, rfl, Nat.le_refl _, fun _ _ _ _ _ _ _ => rfl⟩
theorem JLeft.trans (h : JLeft w w' a jb) (k : JLeft w' w2 a jb) : JLeft w w2 a jb :=
 ⟨k.os.trans h.os, k.tape.trans h.tape, k.output.trans h.output, Nat.le_trans h.size k.size, fun j hj h1 h2 h3 h4 h5 => (k.rest j (Nat.lt_of_lt_of_le hj h.size) h1 h2 h3 h4 h5).trans (h.rest j hj h1 h2 h3 h4 h5)⟩
theorem JLeft.ofD (h : DLeft w w' a) : JLeft w w' a jb := ⟨h.os, h.tape, h.output, h.size, fun k hk h1 h2 h3 h4 _ => h.rest k hk h1 h2 h3 h4⟩
theorem JLeft.ofBelow (h : Below w.heap.size w w') : JLeft w w' a jb := JLeft.ofD (DLeft.ofBelow h)
theorem JLeft.set (h : JLeft w w' a jb) (i : Nat) (u : Value) : JLeft w (w'.setCell ⟨jb, i, none⟩ u) a jb :=
 ⟨h.os, h.tape, h.output, by have := h.size; simpa [World.setCell] using this, fun j hj h1 h2 h3 h4 h5 => (Below.heap_setCell w' ⟨jb, i, none⟩ u j (fun e => h5 e)).trans (h.rest j hj h1 h2 h3 h4 h5)⟩
theorem JIs.left (k : JIs w jb a h J v) (hd : DevIs w a D) (hF : DLeft w w' a) : JIs w' jb a h J v :=
 ⟨hF.box hd k.blk (by decide), ownsRow_same k.row (fun j cs hk hb => hF.blk hd hb (fun e => by cases e) (fun e => by cases e) (fun e => by cases e) (fun e => by cases e))⟩
theorem JIs.below (k : JIs w jb a h J v) (hB : Below w.heap.size w w') : JIs w' jb a h J v := ⟨k.blk.below hB k.blk.lt, ownsRow_below k.row hB (Nat.le_refl _)⟩
theorem JIs.lt (k : JIs w jb a h J v) : jb < w.heap.size := k.blk.lt
theorem JIs.next_ (k : JIs w jb a h J v) (m : Nat) : JIs (w.setCell ⟨jb, 4, none⟩ (.int .i64 m)) jb a h { J with next := m } v :=
 ⟨k.blk.set_ 4 _, k.row.kept (grown_set _ _ _ _) (.inr (own_blk_ne k.row k.blk (by decide)))⟩
theorem JIs.dev (k : JIs w jb a h J v) (hd : DevIs w a D) (i : Nat) (u : Value) : DevIs (w.setCell ⟨jb, i, none⟩ u) a D :=
 isDev_past hd k.blk (by decide) (grown_set _ _ _ _)
end
end Go.Proofs.YtpghocekofdpbaaGreatDoor
namespace Go.Proofs.YtpghocekofdpbaaGreatDoor
open Go.RowKit Go.Shelf
attribute [local go_sem] Oper.semAt_some
section
variable {w w' : World} {a : DAt} {D : Dev} {l : List ByteArray} {v : Value}
end
end Go.Proofs.YtpghocekofdpbaaGreatDoor
namespace Go.Proofs.YtpghocekofdpbaaGreatDoor
open Go.RowKit Go.Shelf
open Sec (countN mostN packE)
attribute [local go_sem] Oper.semAt_some
theorem packE_good (N : Nat) (t : ByteArray) (hN : 1 <= N /\ N <= mostN) (ht : t.size <= 8000) : packE (N : Int) t = (packB N t, 0) := by
 unfold packE
 have : mostN = 4611686018427387904 := rfl
 rw [if_neg (by omega), if_neg (by omega)]
 rfl
section
variable {w w' : World} {a : DAt} {D : Dev} {jb h : Nat} {J : Jrn} {v : Value}
theorem Img.ofNew {u : Value} {l : List ByteArray} (hT : Sec.NewTexts w w' u l) (h : DevIs w a D) : Img w' u l a := by
 refine ⟨⟨hT.1.1, ?_⟩, fun k e => ?_⟩
 ·rcases hT.1.2 with h2 | ⟨g, cap, cur, hv, hg, r⟩
  ·exact .inl h2
  ·exact .inr ⟨g, cap, cur, hv, Nat.zero_le _, r⟩
 ·obtain ⟨_, q3⟩ := h.sblk
  have l3 := q3.lt
  have := (hT.1.lt k e).1
  omega
structure PutW (w : World) (a : DAt) (D : Dev) (jb h : Nat) (J : Jrn) (v : Value) (jx ax o : Nat) : Prop where
 dev : DevIs w a D
 j : JIs w jb a h J v
 bx : Blk w jx 76 #[.pointer (some ⟨jb, 0, none⟩)]
 ba : Blk w ax 3 #[.int .i64 o]
theorem PutW.below {jx ax o : Nat} (k : PutW w a D jb h J v jx ax o) (hB : Below w.heap.size w w') : PutW w' a D jb h J v jx ax o := ⟨k.dev.below hB, k.j.below hB, k.bx.below hB k.bx.lt, k.ba.below hB k.ba.lt⟩
theorem PutW.left {jx ax o : Nat} {E : Dev} (k : PutW w a D jb h J v jx ax o) (hF : DLeft w w' a) (hE : DevIs w' a E) : PutW w' a E jb h J v jx ax o := ⟨hE, k.j.left k.dev hF, hF.box k.dev k.bx (by decide), hF.box k.dev k.ba (by decide)⟩
theorem PutW.cells {jx ax o : Nat} (k : PutW w a D jb h J v jx ax o) : w.cell? ⟨jx, 0, none⟩ = some (.pointer (some ⟨jb, 0, none⟩)) /\ w.cell? ⟨jb, 0, none⟩ = some (.pointer (some ⟨a.d, 0, none⟩)) /\ w.cell? ⟨ax, 0, none⟩ = some (.int .i64 o) := ⟨k.bx.cell 0, k.j.blk.cell 0, k.ba.cell 0⟩
end
end Go.Proofs.YtpghocekofdpbaaGreatDoor
namespace Go.Proofs.YtpghocekofdpbaaGreatDoor
open Go.RowKit Go.Shelf
open Sec (countN mostN countZ)
attribute [local go_sem] Oper.semAt_some
section
variable {w w' : World} {a : DAt} {D : Dev} {jb h : Nat} {J : Jrn} {v : Value}
theorem JIs.cells (k : JIs w jb a h J v) : w.cell? ⟨jb, 0, none⟩ = some (.pointer (some ⟨a.d, 0, none⟩)) /\ w.cell? ⟨jb, 1, none⟩ = some (.int .i64 h) /\ w.cell? ⟨jb, 2, none⟩ = some (.int .i64 J.bank) /\ w.cell? ⟨jb, 3, none⟩ = some (.int .i64 J.used) /\ w.cell? ⟨jb, 4, none⟩ = some (.int .i64 J.next) /\ w.cell? ⟨jb, 5, none⟩ = some v /\ w.cell? ⟨jb, 6, none⟩ = some (.bool J.spoiled) /\ w.cell? ⟨jb, 7, none⟩ = some (.bool false) :=
 ⟨k.blk.cell 0, k.blk.cell 1, k.blk.cell 2, k.blk.cell 3, k.blk.cell 4, k.blk.cell 5, k.blk.cell 6, k.blk.cell 7⟩
set_option maxRecDepth 100000 in
theorem jRoom_any (k : JIs w jb a h J v) (hu : J.used <= h) (hh : h <= 1048576) : Calls Tryz.prog 47 #[.pointer (some ⟨jb, 0, none⟩)] w fun e w' => e = .returned (.int .i64 ((h - J.used : Nat) : Int)) /\ Below w.heap.size w w' := by
 obtain ⟨c0, c1, c2, c3, c4, c5, c6, c7⟩ := k.cells
 obtain ⟨r, hr⟩ : ∃ r, h - J.used = r := ⟨_, rfl⟩
 have hw : wrap64 ((h : Int) - (J.used : Int)) = (r : Int) := by unfold wrap64; omega
 rw [hr]
 clear k hr hu hh
 go_enter Tryz.func47, Tryz.ntmps47
 go_wp2_with fail
 go_quiet (fail)
 go_wp2_with fail
 go_ret
 exact ⟨by show Ending.returned (.int .i64 (wrap64 ((h : Int) - (J.used : Int)))) = _; rw [hw], below_drewN (Below.refl _ _) _⟩
set_option maxRecDepth 100000 in
theorem jNext_any (k : JIs w jb a h J v) : Calls Tryz.prog 86 #[.pointer (some ⟨jb, 0, none⟩)] w fun e w' => e = .returned (.int .i64 (J.next : Int)) /\ w = w' := by
 obtain ⟨c0, c1, c2, c3, c4, c5, c6, c7⟩ := k.cells
 clear k
 go_enter Tryz.func86, Tryz.ntmps86
 go_wp2_with fail
 go_ret
 exact ⟨rfl, rfl⟩
theorem clip_some (w : World) (g n c : Nat) (hn : n <= c) : Calls Tryz.prog 89 #[.slice (some ⟨g, 0, none⟩) n c] w fun e w' => e = .returned (.slice (some ⟨g, 0, none⟩) n n) /\ w = w' := by
 go_enter Tryz.func89, Tryz.ntmps89
 go_wp2_with fail
 go_ret
 exact ⟨rfl, rfl⟩
theorem clip_nil (w : World) : Calls Tryz.prog 89 #[.slice none 0 0] w fun e w' => e = .returned (.slice none 0 0) /\ w = w' := by
 go_enter Tryz.func89, Tryz.ntmps89
 go_wp2_with fail
 go_ret
 exact ⟨rfl, rfl⟩
theorem countZ_good (t : ByteArray) (ht : t.size <= 8000) : countZ (t.size : Int) = (countN t.size : Nat) := by
 unfold countZ
 rw [if_pos ⟨by omega, by omega⟩, Int.toNat_natCast]
theorem infoEnt : (Tryz.prog.info? 134).map (fun i => (i.zero, i.size, i.bytes)) = some (some (.agg #[.int .i64 0, .string ⟨#[]⟩]), 2, 24) := by kernel_rfl
end
end Go.Proofs.YtpghocekofdpbaaGreatDoor
namespace Go.Proofs.YtpghocekofdpbaaGreatDoor
open Go.RowKit Go.Shelf
open Sec (countN mostN countZ)
attribute [local go_sem] Oper.semAt_some
section
variable {w w' : World} {a : DAt} {D : Dev} {jb h : Nat} {J : Jrn} {v : Value}
def JPost (w : World) (a : DAt) (D : Dev) (jb h : Nat) (R : (Int × Int) × Jrn × List Sec) (e : Ending) (w' : World) : Prop :=
 ∃ v', e = .returned (.tuple #[.int .i64 R.1.1, .int .i64 R.1.2]) /\ DevIs w' a { D with M := R.2.2 } /\ JIs w' jb a h R.2.1 v' /\ JLeft w w' a jb
set_option maxRecDepth 100000 in
set_option maxHeartbeats 4000000 in
theorem append_full (hd : DevIs w a D) (hj : JIs w jb a h J v) (t : ByteArray) (hN : J.next <= mostN) (ht : t.size <= 8000) (hs : J.spoiled = false) (hu : J.used <= h) (hh : h <= 1048576) (hf : h < J.used + countN t.size) :
  Calls Tryz.prog 50 #[.pointer (some ⟨jb, 0, none⟩), .string t] w (JPost w a D jb h ((0, 15), J, D.M)) := by
 have hcc := Sec.count_any (t.size : Int) w
 rw [countZ_good t ht] at hcc
 obtain ⟨C, hC⟩ : ∃ C, countN t.size = C := ⟨_, rfl⟩
 rw [hC] at hcc hf
 have HC := Lib.hid hcc
 have HR := Lib.hid (jRoom_any hj hu hh)
 obtain ⟨r, hr⟩ : ∃ r, h - J.used = r := ⟨_, rfl⟩
 rw [hr] at HR
 have d3 : decide (r < C) = true := decide_eq_true (by omega)
 have d3' : decide ((r : Int) < (C : Int)) = true := decide_eq_true (by omega)
 obtain ⟨c0, c1, c2, c3, c4, c5, c6, c7⟩ := hj.cells
 rw [hs] at c6
 have hm : mostN = 4611686018427387904 := rfl
 have d1 : decide (8000 < (t.size : Int)) = false := decide_eq_false (by omega)
 have d2 : decide (4611686018427387904 < (J.next : Int)) = false := decide_eq_false (by omega)
 have H := Lib.hid hd
 have HJ := Lib.hid hj
 clear hd hj hN ht hs hm hf hr hC hu hh hcc
 unfold JPost
 go_enter Tryz.func50, Tryz.ntmps50
 go_wp2_with (first | (go_at_call 39; refine HC.out.mono ?_; rintro e w1 ⟨rfl, rfl⟩) | (go_at_call 47; refine HR.out.mono ?_; rintro e w2 ⟨rfl, hB⟩))
 go_ret2
 exact ⟨v, rfl, H.out.below hB, HJ.out.below hB, JLeft.ofBelow hB⟩
end
end Go.Proofs.YtpghocekofdpbaaGreatDoor
namespace Go.Proofs.YtpghocekofdpbaaGreatDoor
open Go.RowKit Go.Shelf
open Sec (countN mostN countZ)
attribute [local go_sem] Oper.semAt_some
theorem ownsRow_more {w : World} {B base : Nat} {e : TypeId} {size n : Nat} {v : Value} {xs : List Value} (h : w.ownsRow B e size v n xs) (hle : base <= B) : w.ownsRow base e size v n xs := by
 refine ⟨h.1, ?_⟩
 rcases h.2 with h2 | ⟨g, cap, cur, hv, hg, r⟩
 ·exact .inl h2
 ·exact .inr ⟨g, cap, cur, hv, Nat.le_trans hle hg, r⟩
theorem entCells_snoc (l : List (Nat × ByteArray)) (n : Nat) (t : ByteArray) : entCells (l ++ [(n, t)]) = entCells l ++ [.int .i64 (n : Int), .string t] := by
 simp [entCells]
theorem entCells_len (l : List (Nat × ByteArray)) : (entCells l).length = l.length * 2 := by
 induction l with
 | nil => rfl
 | cons x r ih =>
  show (_ :: _ :: entCells r).length = _
  simp [ih]
  omega
theorem wrap_small {m : Nat} (h : m <= 1048576) : wrap64 (m : Int) = (m : Int) := by
 unfold wrap64
 omega
theorem wrap_sum {x y : Nat} (h : x + y <= 1048576) : wrap64 ((x : Int) + (y : Int)) = ((x + y : Nat) : Int) := by
 unfold wrap64
 omega
section
variable {w w' : World} {a : DAt} {D : Dev} {jb h : Nat} {J : Jrn} {v : Value}
theorem JIs.more {w2 : World} {v2 : Value} {n C : Nat} {t : ByteArray} (k : JIs w jb a h J v) (hg : w.grownBy w2 none) (hr : w2.ownsRow w.heap.size 134 2 v2 (J.l.length + 1) (entCells J.l ++ [.int .i64 (n : Int), .string t])) :
  JIs ((w2.setCell ⟨jb, 5, none⟩ v2).setCell ⟨jb, 3, none⟩ (.int .i64 ((J.used + C : Nat) : Int))) jb a h { J with l := J.l ++ [(n, t)], used := J.used + C } v2 := by
 have hb := k.blk.grown hg (by simp)
 have hb5 := hb.set_ 5 v2
 refine ⟨hb5.set_ 3 _, ?_⟩
 have h1 := hr.kept (grown_set w2 jb 5 v2) (.inr (own_blk_ne hr hb (by decide)))
 have h2 := h1.kept (grown_set _ jb 3 (.int .i64 ((J.used + C : Nat) : Int))) (.inr (own_blk_ne h1 hb5 (by decide)))
 have h3 := ownsRow_more h2 (Nat.zero_le _)
 rw [<- entCells_snoc] at h3
 have e : (J.l ++ [(n, t)]).length = J.l.length + 1 := by simp
 show World.ownsRow _ 0 134 2 v2 (J.l ++ [(n, t)]).length _
 rw [e]
 exact h3
theorem dev_none (hd : DevIs w a D) (hg : w.grownBy w' none) : DevIs w' a D := by
 obtain ⟨_, q1⟩ := hd.mblk
 exact ⟨hd.blk.grown hg (by simp), hd.mem.grown hg (by simp) (by simp), hd.srow.kept hg (.inr (by simp [Value.ownBlock])), hd.frow.kept hg (.inr (by simp [Value.ownBlock]))⟩
end
end Go.Proofs.YtpghocekofdpbaaGreatDoor
namespace Go.Proofs.YtpghocekofdpbaaGreatDoor
open Go.RowKit Go.Shelf
open Sec (countN mostN countZ)
attribute [local go_sem] Oper.semAt_some
section
variable {w w' : World} {a : DAt} {D : Dev} {jb h : Nat} {J : Jrn} {v : Value}
set_option maxRecDepth 100000 in
set_option maxHeartbeats 4000000 in
theorem compact_full (hd : DevIs w a D) (hj : JIs w jb a h J v) (t : ByteArray) (hN : J.next <= mostN) (ht : t.size <= 8000) (hf : h < countN t.size) :
  Calls Tryz.prog 94 #[.pointer (some ⟨jb, 0, none⟩), .string t] w (JPost w a D jb h ((0, 15), J, D.M)) := by
 have hcc := Sec.count_any (t.size : Int) w
 rw [countZ_good t ht] at hcc
 obtain ⟨C, hC⟩ : ∃ C, countN t.size = C := ⟨_, rfl⟩
 rw [hC] at hcc hf
 have HC := Lib.hid hcc
 have d3 : decide (h < C) = true := decide_eq_true hf
 have d3' : decide ((h : Int) < (C : Int)) = true := decide_eq_true (by omega)
 obtain ⟨c0, c1, c2, c3, c4, c5, c6, c7⟩ := hj.cells
 have hm : mostN = 4611686018427387904 := rfl
 have d1 : decide (8000 < (t.size : Int)) = false := decide_eq_false (by omega)
 have d2 : decide (4611686018427387904 < (J.next : Int)) = false := decide_eq_false (by omega)
 have H := Lib.hid hd
 have HJ := Lib.hid hj
 clear hd hj hN ht hm hf hC hcc
 unfold JPost
 go_enter Tryz.func94, Tryz.ntmps94
 go_wp2_with (first | (go_at_call 39; refine HC.out.mono ?_; rintro e w1 ⟨rfl, rfl⟩))
 go_ret2
 exact ⟨v, rfl, H.out, HJ.out, JLeft.refl _⟩
theorem JIs.fresh {b C n : Nat} {t : ByteArray} (k : JIs w jb a h J v) :
  JIs (((((w.alloc (.cells #[.int .i64 (n : Int), .string t] 134)).setCell ⟨jb, 2, none⟩ (.int .i64 (b : Int))).setCell ⟨jb, 3, none⟩ (.int .i64 (C : Int))).setCell ⟨jb, 5, none⟩ (.slice (some ⟨w.heap.size, 0, none⟩) 1 1)).setCell ⟨jb, 6, none⟩ (.bool false)) jb a h ⟨b, C, J.next, [(n, t)], false⟩ (.slice (some ⟨w.heap.size, 0, none⟩) 1 1) := by
 have hb := k.blk.alloc (.cells #[.int .i64 (n : Int), .string t] 134)
 have hr : (w.alloc (.cells #[.int .i64 (n : Int), .string t] 134)).ownsRow 0 134 2 (.slice (some ⟨w.heap.size, 0, none⟩) 1 1) 1 [.int .i64 (n : Int), .string t] :=
  ⟨rfl, .inr ⟨w.heap.size, 1, #[.int .i64 (n : Int), .string t], rfl, Nat.zero_le _, Blk.new w _ _, Nat.le_refl _, by unfold maxLen; omega, rfl, rfl⟩⟩
 have b2 := hb.set_ 2 (.int .i64 (b : Int))
 have b3 := b2.set_ 3 (.int .i64 (C : Int))
 have b5 := b3.set_ 5 (.slice (some ⟨w.heap.size, 0, none⟩) 1 1)
 have r2 := hr.kept (grown_set _ jb 2 (.int .i64 (b : Int))) (.inr (own_blk_ne hr hb (by decide)))
 have r3 := r2.kept (grown_set _ jb 3 (.int .i64 (C : Int))) (.inr (own_blk_ne r2 b2 (by decide)))
 have r5 := r3.kept (grown_set _ jb 5 (.slice (some ⟨w.heap.size, 0, none⟩) 1 1)) (.inr (own_blk_ne r3 b3 (by decide)))
 have r6 := r5.kept (grown_set _ jb 6 (.bool false)) (.inr (own_blk_ne r5 b5 (by decide)))
 exact ⟨b5.set_ 6 _, r6⟩
end
end Go.Proofs.YtpghocekofdpbaaGreatDoor
namespace Go.Proofs.YtpghocekofdpbaaGreatDoor
open Go.RowKit Go.Shelf
open Sec (getL get_lt u64_small)
attribute [local go_sem] Oper.semAt_some
theorem or_low (G b : Nat) (hb : b < 256) (hG : G < 72057594037927936) : bits .or .u64 ((G : Int) * 256) (IntKind.u64.wrap (b : Int)) = ((b + 256 * G : Nat) : Int) := by
 rw [u64_small b (by omega), show (G : Int) * 256 = ((G * 256 : Nat) : Int) by simp, u64_or_nat _ _ (by omega) (by omega)]
 congr 1
 have h := Nat.two_pow_add_eq_or_of_lt (i := 8) (b := b) (by omega) G
 have e : 2 ^ 8 * G = G * 256 := by omega
 rw [e] at h
 omega
theorem getL_drop (l : List UInt8) (k : Nat) (hk : k < l.length) : getL (l.drop k) = l[k].toNat + 256 * getL (l.drop (k + 1)) := by
 rw [List.drop_eq_getElem_cons hk]
 rfl
set_option maxHeartbeats 4000000 in
set_option maxRecDepth 100000 in
theorem jnumber_any (w : World) (s : ByteArray) (hs : s.size <= 8) :
  Calls Tryz.prog 105 #[.string s] w fun e w' => e = .returned (.int .u64 (getL s.data.toList : Nat)) /\ w = w' := by
 have hlen : s.data.toList.length = s.size := Array.length_toList ..
 have hw0 : wrap64 ((s.size : Int) - 1) = (s.size : Int) - 1 := by unfold wrap64; omega
 go_enter Tryz.func105, Tryz.ntmps105
 go_wp2_with fail
 go_loopw [3, 4] (fun g i wr => ∃ k : Nat, k <= s.size /\ i = .int .i64 ((k : Int) - 1) /\ g = .int .u64 (getL (s.data.toList.drop k) : Nat) /\ wr = w) (fun _ i _ => (intOf i + 1).toNat)
 case atStart => exact ⟨s.size, Nat.le_refl _, by trivial, by rw [List.drop_of_length_le (by omega)]; rfl, rfl⟩
 case round =>
  obtain ⟨k, hk, rfl, rfl, rfl⟩ := hrel
  cases k with
  | zero =>
   go_wp2_with fail
   go_ret
   exact ⟨rfl, rfl⟩
  | succ k =>
   have hkl : k < s.size := by omega
   have hkz : ((k + 1 : Nat) : Int) - 1 = (k : Int) := by omega
   have hwk : wrap64 ((k : Int) - 1) = (k : Int) - 1 := by unfold wrap64; omega
   have hd := getL_drop s.data.toList k (by omega)
   have hb : s.data.toList[k].toNat < 256 := UInt8.toNat_lt _
   have hG := get_lt (s.data.toList.drop (k + 1))
   have hGl : (s.data.toList.drop (k + 1)).length <= 7 := by rw [List.length_drop]; omega
   have hG2 : getL (s.data.toList.drop (k + 1)) < 72057594037927936 := Nat.lt_of_lt_of_le hG (by
    have := Nat.pow_le_pow_right (n := 256) (by decide) hGl
    exact this)
   have e : s.data.toList[k] = s[k] := rfl
   rw [e] at hd hb
   generalize getL (s.data.toList.drop (k + 1)) = G at hd hG2 ⊢
   have ho := or_low G s[k].toNat hb hG2
   have Hd := Lib.hid hd
   rw [hkz]
   clear hd hG hGl hb
   go_wp2_with fail
   go_roundw
   case rel => exact ⟨k, by omega, by go_num, by rw [Hd.out]; simp, by trivial⟩
   case measure => simp [intOf]
end Go.Proofs.YtpghocekofdpbaaGreatDoor
