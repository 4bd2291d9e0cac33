/-
  Layer 25 (journal): put.
  Layer 25 (journal): Room, Next, Bank, Clip; Append.
  Layer 25 (journal): Append.
-/
import Derived.Test.YtgdpgiegiacepaaDoorG12
import Derived.Test.YtgdpgiegiacepaaDoorG9
import Derived.ArgAppend
import Derived.Deep.RegionHeld3
import Derived.BigQuiet
import Derived.Deep.QuietTactic
namespace Go.Proofs.YtgdpgiegiacepaaDoor
open Go.RowKit Go.Shelf
open Sec (countN mostN packE)
attribute [local go_sem] Oper.semAt_some

theorem packE_good (N : Nat) (t : ByteArray) (hN : 1 ≤ N ∧ N ≤ mostN) (ht : t.size ≤ 8000) : packE (N : Int) t = (packB N t, 0) := by
  unfold packE
  have : mostN = 4611686018427387904 := rfl
  rw [if_neg (by omega), if_neg (by omega)]
  rfl
section
variable {w w' : World} {a : DAt} {D : Dev} {jb h : Nat} {J : Jrn} {v : Value}
theorem Img.ofNew {u : Value} {l : List ByteArray} (hT : Sec.NewTexts w w' u l) (h : DevIs w a D) : Img w' u l a := by
  refine ⟨⟨hT.1.1, ?_⟩, fun k e => ?_⟩
  · rcases hT.1.2 with h2 | ⟨g, cap, cur, hv, hg, r⟩
    · exact .inl h2
    · exact .inr ⟨g, cap, cur, hv, Nat.zero_le _, r⟩
  · obtain ⟨_, q3⟩ := h.sblk
    have l3 := q3.lt
    have := (hT.1.lt k e).1
    omega
/-- What lies while a record is put. -/
structure PutW (w : World) (a : DAt) (D : Dev) (jb h : Nat) (J : Jrn) (v : Value) (jx ax o : Nat) : Prop where
  dev : DevIs w a D
  j : JIs w jb a h J v
  bx : Blk w jx 25 #[.pointer (some ⟨jb, 0, none⟩)]
  ba : Blk w ax 3 #[.int .i64 o]
theorem PutW.below {jx ax o : Nat} (k : PutW w a D jb h J v jx ax o) (hB : Below w.heap.size w w') : PutW w' a D jb h J v jx ax o := ⟨k.dev.below hB, k.j.below hB, k.bx.below hB k.bx.lt, k.ba.below hB k.ba.lt⟩
theorem PutW.left {jx ax o : Nat} {E : Dev} (k : PutW w a D jb h J v jx ax o) (hF : DLeft w w' a) (hE : DevIs w' a E) : PutW w' a E jb h J v jx ax o := ⟨hE, k.j.left k.dev hF, hF.box k.dev k.bx (by decide), hF.box k.dev k.ba (by decide)⟩
theorem PutW.cells {jx ax o : Nat} (k : PutW w a D jb h J v jx ax o) : w.cell? ⟨jx, 0, none⟩ = some (.pointer (some ⟨jb, 0, none⟩)) ∧ w.cell? ⟨jb, 0, none⟩ = some (.pointer (some ⟨a.d, 0, none⟩)) ∧ w.cell? ⟨ax, 0, none⟩ = some (.int .i64 o) := ⟨k.bx.cell 0, k.j.blk.cell 0, k.ba.cell 0⟩
set_option maxRecDepth 100000 in
set_option maxHeartbeats 4000000 in
theorem jput_any (hd : DevIs w a D) (hu : DUp D) (hf : Fine D.M) (hc : Clean D.M) (hj : JIs w jb a h J v) (o : Nat) (t : ByteArray) (hN : 1 ≤ J.next ∧ J.next ≤ mostN) (ht : t.size ≤ 8000) (hb : o + countN t.size ≤ D.M.length) (hD : D.M.length ≤ 4096) :
    Calls Tryd.prog 25 #[.pointer (some ⟨jb, 0, none⟩), .int .i64 o, .string t] w fun e w' =>
      e = .returned (.tuple #[.int .i64 (if badM (packB J.next t) o (putM (packB J.next t) o D.M) (countN t.size) = true then 0 else (J.next : Int)), .int .i64 (if badM (packB J.next t) o (putM (packB J.next t) o D.M) (countN t.size) = true then 23 else 0)]) ∧
      DevIs w' a { D with M := putM (packB J.next t) o D.M } ∧ JIs w' jb a h { J with next := J.next + 1 } v ∧ JLeft w w' a jb := by
  obtain ⟨w0, hw0⟩ : ∃ w0, (w.alloc (.cells #[.pointer (some ⟨jb, 0, none⟩)] 25)).alloc (.cells #[.int .i64 o] 3) = w0 := ⟨_, rfl⟩
  have hB0 : Below w.heap.size w w0 := by rw [← hw0]; exact ((Below.refl _ w).alloc (Nat.le_refl _) _).alloc (by simp) _
  have hs0 : w0.heap.size = w.heap.size + 1 + 1 := by rw [← hw0]; simp
  have hx0 : Blk w0 w.heap.size 25 #[.pointer (some ⟨jb, 0, none⟩)] := by rw [← hw0]; exact (Blk.new w _ _).alloc _
  have ha0 : Blk w0 (w.heap.size + 1) 3 #[.int .i64 o] := by
    have := Blk.new (w.alloc (.cells #[.pointer (some ⟨jb, 0, none⟩)] 25)) 3 #[.int .i64 o]
    rw [World.size_alloc] at this
    rw [← hw0]; exact this
  have hp0 : PutW w0 a D jb h J v w.heap.size (w.heap.size + 1) o := ⟨hd.below hB0, hj.below hB0, hx0, ha0⟩
  have hjl := hj.lt
  obtain ⟨w1, hw1⟩ : ∃ w1, w0.setCell ⟨jb, 4, none⟩ (.int .i64 ((J.next : Int) + 1)) = w1 := ⟨_, rfl⟩
  have hp1 : PutW w1 a D jb h { J with next := J.next + 1 } v w.heap.size (w.heap.size + 1) o := by
    rw [← hw1]
    exact ⟨hp0.j.dev hp0.dev 4 _, hp0.j.next_ (J.next + 1), hx0.other (a := ⟨jb, 4, none⟩) (by show w.heap.size ≠ jb; omega) _, ha0.other (a := ⟨jb, 4, none⟩) (by show w.heap.size + 1 ≠ jb; omega) _⟩
  have hF1 : JLeft w w1 a jb := by rw [← hw1]; exact (JLeft.ofBelow hB0).set 4 _
  have hs1 : w1.heap.size = w0.heap.size := by rw [← hw1]; simp [World.setCell]
  obtain ⟨y1, y2, y3⟩ := hp0.cells
  have y4 : w0.cell? ⟨jb, 4, none⟩ = some (.int .i64 (J.next : Int)) := hp0.j.blk.cell 4
  have y5 : w0.frozen? ⟨jb, 4, none⟩ = false := hp0.j.blk.frozen 4
  have hwn : wrap64 ((J.next : Int) + 1) = (J.next : Int) + 1 := by have : mostN = 4611686018427387904 := rfl; unfold wrap64; omega
  obtain ⟨N, hNe⟩ : ∃ N, J.next = N := ⟨_, rfl⟩
  rw [hNe] at hN hp1 y4 hwn hw1 ⊢
  have hpk := Sec.pack_any w1 N t
  rw [packE_good N t hN ht] at hpk
  have Hpk := Lib.hid hpk
  have hsz := packB_size N t
  have hln := packB_len N t
  obtain ⟨L, hL⟩ : ∃ L, packB N t = L := ⟨_, rfl⟩
  rw [hL] at Hpk hsz hln ⊢
  obtain ⟨C, hC⟩ : ∃ C, countN t.size = C := ⟨_, rfl⟩
  rw [hC] at hb hln ⊢
  subst hln
  have Hp1 := Lib.hid hp1
  have HF1 := Lib.hid hF1
  have Hu := Lib.hid hu
  have Hf := Lib.hid hf
  have Hc := Lib.hid hc
  have Hz := Lib.hid hsz
  have Hb := Lib.hid (And.intro hb hD)
  have Hs := Lib.hid (And.intro hs0 (And.intro hs1 hjl))
  clear hd hu hf hc hj hN ht hb hD hB0 hx0 ha0 hp0 hp1 hF1 hpk hsz hL hC hNe hs1 hjl
  go_enter Tryd.func25, Tryd.ntmps25
  go_wp2_with fail
  refine Hpk.out.mono ?_
  rintro e w2 ⟨vP, rfl, hT⟩
  have hB2 := hT.2.2
  have hp2 := Hp1.out.below hB2
  have hI2 := Img.ofNew hT Hp1.out.dev
  have hlt2 := hT.1.lt
  obtain ⟨Ap, np, cp, rfl⟩ := hI2.slice
  obtain ⟨vP, hvP⟩ : ∃ vP, vP = Value.slice Ap np cp := ⟨_, rfl⟩
  rw [← hvP] at hT hI2 hlt2
  obtain ⟨w3, hw3⟩ : ∃ w3, (w2.alloc (.cells #[.slice none 0 0] 38)).setCell ⟨w2.heap.size, 0, none⟩ vP = w3 := ⟨_, rfl⟩
  have hB3 : Below w2.heap.size w2 w3 := by rw [← hw3]; exact ((Below.refl _ w2).alloc (Nat.le_refl _) _).setCell (p := ⟨w2.heap.size, 0, none⟩) (Nat.le_refl _) _
  rw [hvP] at hw3
  have hl3 : Blk w3 w2.heap.size 38 #[vP] := by rw [← hw3, hvP]; exact (Blk.new w2 38 #[.slice none 0 0]).set_ 0 _
  have hs3 : w3.heap.size = w2.heap.size + 1 := by rw [← hw3]; simp [World.setCell]
  have hp3 := hp2.below hB3
  have hI3 := hI2.below hB3
  obtain ⟨z1, z2, z3⟩ := hp3.cells
  have hE := Lib.hid (each_write hp3.dev Hu.out w2.heap.size (w.heap.size + 1) o hl3 hp3.ba hI3 Hz.out Hb.out.1 (by have := Hb.out.2; omega))
  have hF3 : JLeft w w3 a jb := HF1.out.trans ((JLeft.ofBelow hB2).trans (JLeft.ofBelow hB3))
  have Hp3 := Lib.hid hp3
  have Hl3 := Lib.hid hl3
  have HI3 := Lib.hid hI3
  have HF3 := Lib.hid hF3
  have Hlt : Hid (∀ k, vP.ownBlock = some k → k < w2.heap.size) := fun k e => (hlt2 k e).2
  have Hs2 := Lib.hid (And.intro hs3 (And.intro hB2.size hB3.size))
  clear hT hB2 hp2 hI2 hlt2 hB3 hl3 hp3 hI3 hF3 Hpk Hp1 HF1 y1 y2 y3 y4 y5 hw0 hw1
  go_wp2_with fail
  refine hE.out.mono ?_
  rintro e w4 ⟨rfl, hd4, hF4⟩
  have hp4 := Hp3.out.left hF4 hd4
  have hl4 := hF4.box Hp3.out.dev Hl3.out (by decide)
  have hI4 := hF4.img Hp3.out.dev HI3.out
  obtain ⟨z1, z2, z3⟩ := hp4.cells
  have hfl : Hid (Calls Tryd.prog 46 #[.pointer (some ⟨a.d, 0, none⟩)] w4 fun e w' => e = .returned (.int .i64 0) ∧ DevIs w' a { D with M := putM L o D.M } ∧ DLeft w4 w' a) := by
    have hu2 : DUp { D with M := wrL L o D.M } := ⟨Hu.out.down, Hu.out.left⟩
    have h1 := dFlush_any hd4 hu2.le (wrL_fine L o D.M Hf.out Hz.out Hb.out.1) (by show (wrL L o D.M).length ≤ _; rw [wrL_len]; have := Hb.out.2; omega)
    rw [dstep_good _ _ hu2 _ rfl] at h1
    exact h1
  have Hp4 := Lib.hid hp4
  have Hl4 := Lib.hid hl4
  have HI4 := Lib.hid hI4
  have HF4 := Lib.hid (HF3.out.trans (JLeft.ofD hF4))
  have Hs4 := Lib.hid hF4.size
  clear hE hd4 hF4 hp4 hl4 hI4 Hp3 Hl3 HI3 HF3 hw3
  go_wp2_with fail
  refine hfl.out.mono ?_
  rintro e w5 ⟨rfl, hd5, hF5⟩
  have hp5 := Hp4.out.left hF5 hd5
  have hl5 := hF5.box Hp4.out.dev Hl4.out (by decide)
  have hI5 := hF5.img Hp4.out.dev HI4.out
  obtain ⟨w6, hw6⟩ : ∃ w6, (w5.alloc (.cells #[.bool false] 4)).setCell ⟨w5.heap.size, 0, none⟩ (.bool false) = w6 := ⟨_, rfl⟩
  have hB6 : Below w5.heap.size w5 w6 := by rw [← hw6]; exact ((Below.refl _ w5).alloc (Nat.le_refl _) _).setCell (p := ⟨w5.heap.size, 0, none⟩) (Nat.le_refl _) _
  have hb6 : Blk w6 w5.heap.size 4 #[.bool false] := by rw [← hw6]; exact (Blk.new w5 4 #[.bool false]).set_ 0 _
  have hp6 := hp5.below hB6
  have hl6 := hl5.below hB6 hl5.lt
  have hI6 := hI5.below hB6
  obtain ⟨z1, z2, z3⟩ := hp6.cells
  have hcl : Clean (putM L o D.M) := putM_clean Hf.out Hz.out Hb.out.1
  have hsz5 : w.heap.size ≤ w5.heap.size := (HF4.out.trans (JLeft.ofD hF5)).size
  have hvl : ∀ k, vP.ownBlock = some k → k < w5.heap.size := fun k e => by
    have h1 := Hlt.out k e
    have h2 := Hs2.out.1
    have h3 := Hs4.out
    have h4 := hF5.size
    omega
  have hRd := Lib.hid (each_read (l := L) hp6.dev ⟨Hu.out.down, Hu.out.left⟩ hcl w.heap.size jb w5.heap.size w2.heap.size (w.heap.size + 1) o _ hl6 hp6.ba hp6.bx hp6.j.blk rfl hb6 hI6 (by show o + L.length ≤ (putM L o D.M).length; rw [putM_len]; exact Hb.out.1) (by show (putM L o D.M).length ≤ _; rw [putM_len]; have := Hb.out.2; omega)
    (by
      obtain ⟨l1, l2, l3, l4⟩ := DevIs.sizes hd5
      have l5 := hd5.mem.lt.1
      exact ⟨by omega, by omega, by omega, by omega, by omega⟩) (fun e => by have := hvl _ e; omega))
  have Hp6 := Lib.hid hp6
  have Hb6 := Lib.hid hb6
  have Hd5 := Lib.hid hd5
  have HF6 := Lib.hid ((HF4.out.trans (JLeft.ofD hF5)).trans (JLeft.ofBelow hB6))
  have HS := Lib.hid hsz5
  clear hfl hd5 hF5 hp5 hl5 hI5 hB6 hb6 hp6 hl6 hI6 hcl Hp4 Hl4 HI4 HF4 hvl hsz5
  go_wp2_with fail
  refine hRd.out.mono ?_
  rintro e w7 ⟨rfl, hb7, hg7⟩
  have z4 := hb7.cell 0
  have hfin : Hid (DevIs w7 a { D with M := putM L o D.M } ∧ JIs w7 jb a h { J with next := N + 1 } v ∧ JLeft w w7 a jb) := by
    obtain ⟨l1, l2, l3, l4⟩ := DevIs.sizes Hd5.out
    have l5 := Hd5.out.mem.lt.1
    have lj := Hs.out.2.2
    have ls := HS.out
    refine ⟨Hp6.out.dev.off hg7 ⟨by omega, by omega, by omega, by omega, by omega⟩, ⟨Hp6.out.j.blk.grown hg7 (fun e => by cases e; omega), Hp6.out.j.row.kept hg7 (.inr (own_blk_ne Hp6.out.j.row Hb6.out (by decide)))⟩, ?_⟩
    have hF := HF6.out
    exact ⟨hg7.os.trans hF.os, hg7.tape.trans hF.tape, hg7.output.trans hF.output, Nat.le_trans hF.size hg7.size, fun k hk h1 h2 h3 h4 h5 => (hg7.block k (Nat.lt_of_lt_of_le hk hF.size) (fun e => by cases e; omega)).trans (hF.rest k hk h1 h2 h3 h4 h5)⟩
  clear hRd hb7 hg7 Hp6 Hd5 HF6 HS hw6
  cases hbad : badM L o (putM L o D.M) L.length with
  | true =>
    rw [hbad] at z4
    go_wp2_with fail
    go_ret2
    exact ⟨by simp, hfin.out⟩
  | false =>
    rw [hbad] at z4
    go_wp2_with fail
    all_goals go_ret2
    all_goals exact ⟨by simp, hfin.out⟩
end
end Go.Proofs.YtgdpgiegiacepaaDoor
namespace Go.Proofs.YtgdpgiegiacepaaDoor
open Go.RowKit Go.Shelf
open Sec (countN mostN countZ)
attribute [local go_sem] Oper.semAt_some

section
variable {w w' : World} {a : DAt} {D : Dev} {jb h : Nat} {J : Jrn} {v : Value}
theorem JIs.cells (k : JIs w jb a h J v) : w.cell? ⟨jb, 0, none⟩ = some (.pointer (some ⟨a.d, 0, none⟩)) ∧ w.cell? ⟨jb, 1, none⟩ = some (.int .i64 h) ∧ w.cell? ⟨jb, 2, none⟩ = some (.int .i64 J.bank) ∧ w.cell? ⟨jb, 3, none⟩ = some (.int .i64 J.used) ∧ w.cell? ⟨jb, 4, none⟩ = some (.int .i64 J.next) ∧ w.cell? ⟨jb, 5, none⟩ = some v ∧ w.cell? ⟨jb, 6, none⟩ = some (.bool J.spoiled) ∧ w.cell? ⟨jb, 7, none⟩ = some (.bool false) :=
  ⟨k.blk.cell 0, k.blk.cell 1, k.blk.cell 2, k.blk.cell 3, k.blk.cell 4, k.blk.cell 5, k.blk.cell 6, k.blk.cell 7⟩
set_option maxRecDepth 100000 in
theorem jRoom_any (k : JIs w jb a h J v) (hu : J.used ≤ h) (hh : h ≤ 1048576) : Calls Tryd.prog 9 #[.pointer (some ⟨jb, 0, none⟩)] w fun e w' => e = .returned (.int .i64 ((h - J.used : Nat) : Int)) ∧ Below w.heap.size w w' := by
  obtain ⟨c0, c1, c2, c3, c4, c5, c6, c7⟩ := k.cells
  obtain ⟨r, hr⟩ : ∃ r, h - J.used = r := ⟨_, rfl⟩
  have hw : wrap64 ((h : Int) - (J.used : Int)) = (r : Int) := by unfold wrap64; omega
  rw [hr]
  clear k hr hu hh
  go_enter Tryd.func9, Tryd.ntmps9
  go_wp2_with fail
  go_quiet (fail)
  go_wp2_with fail
  go_ret
  exact ⟨by show Ending.returned (.int .i64 (wrap64 ((h : Int) - (J.used : Int)))) = _; rw [hw], below_drewN (Below.refl _ _) _⟩
set_option maxRecDepth 100000 in
theorem jNext_any (k : JIs w jb a h J v) : Calls Tryd.prog 10 #[.pointer (some ⟨jb, 0, none⟩)] w fun e w' => e = .returned (.int .i64 (J.next : Int)) ∧ w = w' := by
  obtain ⟨c0, c1, c2, c3, c4, c5, c6, c7⟩ := k.cells
  clear k
  go_enter Tryd.func10, Tryd.ntmps10
  go_wp2_with fail
  go_ret
  exact ⟨rfl, rfl⟩
set_option maxRecDepth 100000 in
theorem jBank_any (k : JIs w jb a h J v) : Calls Tryd.prog 14 #[.pointer (some ⟨jb, 0, none⟩)] w fun e w' => e = .returned (.int .i64 (J.bank : Int)) ∧ w = w' := by
  obtain ⟨c0, c1, c2, c3, c4, c5, c6, c7⟩ := k.cells
  clear k
  go_enter Tryd.func14, Tryd.ntmps14
  go_wp2_with fail
  go_ret
  exact ⟨rfl, rfl⟩
theorem clip_some (w : World) (g n c : Nat) (hn : n ≤ c) : Calls Tryd.prog 26 #[.slice (some ⟨g, 0, none⟩) n c] w fun e w' => e = .returned (.slice (some ⟨g, 0, none⟩) n n) ∧ w = w' := by
  go_enter Tryd.func26, Tryd.ntmps26
  go_wp2_with fail
  go_ret
  exact ⟨rfl, rfl⟩
theorem clip_nil (w : World) : Calls Tryd.prog 26 #[.slice none 0 0] w fun e w' => e = .returned (.slice none 0 0) ∧ w = w' := by
  go_enter Tryd.func26, Tryd.ntmps26
  go_wp2_with fail
  go_ret
  exact ⟨rfl, rfl⟩
theorem countZ_good (t : ByteArray) (ht : t.size ≤ 8000) : countZ (t.size : Int) = (countN t.size : Nat) := by
  unfold countZ
  rw [if_pos ⟨by omega, by omega⟩, Int.toNat_natCast]
theorem infoEnt : (Tryd.prog.info? 62).map (fun i => (i.zero, i.size, i.bytes)) = some (some (.agg #[.int .i64 0, .string ⟨#[]⟩]), 2, 24) := by kernel_rfl
end
end Go.Proofs.YtgdpgiegiacepaaDoor
namespace Go.Proofs.YtgdpgiegiacepaaDoor
open Go.RowKit Go.Shelf
open Sec (countN mostN countZ)
attribute [local go_sem] Oper.semAt_some

section
variable {w w' : World} {a : DAt} {D : Dev} {jb h : Nat} {J : Jrn} {v : Value}
/-- What a call that writes leaves: the answer, the device, the journal, the frame. -/
def JPost (w : World) (a : DAt) (D : Dev) (jb h : Nat) (R : (Int × Int) × Jrn × List Sec) (e : Ending) (w' : World) : Prop :=
  ∃ v', e = .returned (.tuple #[.int .i64 R.1.1, .int .i64 R.1.2]) ∧ DevIs w' a { D with M := R.2.2 } ∧ JIs w' jb a h R.2.1 v' ∧ JLeft w w' a jb
set_option maxRecDepth 100000 in
set_option maxHeartbeats 4000000 in
theorem append_spoiled (hd : DevIs w a D) (hj : JIs w jb a h J v) (t : ByteArray) (hN : J.next ≤ mostN) (ht : t.size ≤ 8000) (hs : J.spoiled = true) :
    Calls Tryd.prog 11 #[.pointer (some ⟨jb, 0, none⟩), .string t] w (JPost w a D jb h ((0, 23), J, D.M)) := by
  have HC := Lib.hid (Sec.count_any (t.size : Int) w)
  obtain ⟨c0, c1, c2, c3, c4, c5, c6, c7⟩ := hj.cells
  rw [hs] at c6
  have hm : mostN = 4611686018427387904 := rfl
  have d1 : decide (8000 < (t.size : Int)) = false := decide_eq_false (by omega)
  have d2 : decide (4611686018427387904 < (J.next : Int)) = false := decide_eq_false (by omega)
  have H := Lib.hid hd
  have HJ := Lib.hid hj
  clear hd hj hN ht hs hm
  unfold JPost
  go_enter Tryd.func11, Tryd.ntmps11
  go_wp2_with (first | (go_at_call 24; refine HC.out.mono ?_; rintro e w1 ⟨rfl, rfl⟩))
  go_ret2
  exact ⟨v, rfl, H.out, HJ.out, JLeft.refl _⟩
set_option maxRecDepth 100000 in
set_option maxHeartbeats 4000000 in
theorem append_full (hd : DevIs w a D) (hj : JIs w jb a h J v) (t : ByteArray) (hN : J.next ≤ mostN) (ht : t.size ≤ 8000) (hs : J.spoiled = false) (hu : J.used ≤ h) (hh : h ≤ 1048576) (hf : h < J.used + countN t.size) :
    Calls Tryd.prog 11 #[.pointer (some ⟨jb, 0, none⟩), .string t] w (JPost w a D jb h ((0, 15), J, D.M)) := by
  have hcc := Sec.count_any (t.size : Int) w
  rw [countZ_good t ht] at hcc
  obtain ⟨C, hC⟩ : ∃ C, countN t.size = C := ⟨_, rfl⟩
  rw [hC] at hcc hf
  have HC := Lib.hid hcc
  have HR := Lib.hid (jRoom_any hj hu hh)
  obtain ⟨r, hr⟩ : ∃ r, h - J.used = r := ⟨_, rfl⟩
  rw [hr] at HR
  have d3 : decide (r < C) = true := decide_eq_true (by omega)
  have d3' : decide ((r : Int) < (C : Int)) = true := decide_eq_true (by omega)
  obtain ⟨c0, c1, c2, c3, c4, c5, c6, c7⟩ := hj.cells
  rw [hs] at c6
  have hm : mostN = 4611686018427387904 := rfl
  have d1 : decide (8000 < (t.size : Int)) = false := decide_eq_false (by omega)
  have d2 : decide (4611686018427387904 < (J.next : Int)) = false := decide_eq_false (by omega)
  have H := Lib.hid hd
  have HJ := Lib.hid hj
  clear hd hj hN ht hs hm hf hr hC hu hh hcc
  unfold JPost
  go_enter Tryd.func11, Tryd.ntmps11
  go_wp2_with (first | (go_at_call 24; refine HC.out.mono ?_; rintro e w1 ⟨rfl, rfl⟩) | (go_at_call 9; refine HR.out.mono ?_; rintro e w2 ⟨rfl, hB⟩))
  go_ret2
  exact ⟨v, rfl, H.out.below hB, HJ.out.below hB, JLeft.ofBelow hB⟩
end
end Go.Proofs.YtgdpgiegiacepaaDoor
