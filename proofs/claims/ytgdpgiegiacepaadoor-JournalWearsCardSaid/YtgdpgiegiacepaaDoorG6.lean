/-
  Layer 23 (device): Store and Burn at every input; Raise.
  Layer 23 (device): Read, Load, Burned, Tick, Trip, Stale, Wear.
  Layer 23 (device): Tick, Image, Restore, Mount, Raise.
  Layer 23 (device): Flush (a method value is its step); Raise.
  Layer 23 (device): Raise. (Written by a small program.)
-/
import Derived.Test.YtgdpgiegiacepaaDoorG5
import Derived.Test.YtgdpgiegiacepaaDoorDevW9
namespace Go.Proofs.YtgdpgiegiacepaaDoor
open Go.RowKit Go.Shelf
attribute [local go_sem] Oper.semAt_some

section
variable {w : World} {d b g sb sc fb fc : Nat} {D : Dev}
theorem dstep_slots (c : Int) (f : Dev → Dev) (hf : ∀ D, (f D).slots.length = D.slots.length) : (D.dstep c f).2.slots.length = D.slots.length := by
  unfold Dev.dstep
  split
  · rfl
  · split
    · rfl
    · split
      · rfl
      · exact hf _
theorem dstep_fuses (c : Int) (f : Dev → Dev) (hf : ∀ D, (f D).fuses.length = D.fuses.length) : (D.dstep c f).2.fuses.length = D.fuses.length := by
  unfold Dev.dstep
  split
  · rfl
  · split
    · rfl
    · split
      · rfl
      · exact hf _
theorem not_inS {α : Type} {l : List α} {i : Int} (h : ¬ inS l i) : i < 0 ∨ (0 ≤ i ∧ (l.length : Int) ≤ i) := by
  unfold inS at h
  omega
end
end Go.Proofs.YtgdpgiegiacepaaDoor
namespace Go.Proofs.YtgdpgiegiacepaaDoor
open Go.RowKit Go.Shelf
attribute [local go_sem] Oper.semAt_some

section
variable {w : World} {d b g sb sc fb fc : Nat} {D : Dev}
set_option maxRecDepth 100000 in
set_option maxHeartbeats 1600000 in
theorem dRead_any (h : IsDev w d b g sb sc fb fc D) (i : Int) :
    Calls Tryd.prog 30 #[.pointer (some ⟨d, 0, none⟩), .int .i64 i] w fun e w' => e = .returned (.tuple #[.string (if D.down then ⟨#[]⟩ else if isAt D.M i then (D.M.getD i.toNat default).seen else ⟨#[]⟩), .int .i64 (if D.down then 14 else if isAt D.M i then 0 else 1)]) ∧ w = w' := by
  obtain ⟨c0, c1, c2, c3, c4, c5, c6⟩ := h.cells
  have HR := Lib.hid (read_any h.mem i)
  unfold errOf at HR
  cases hd : D.down with
  | true =>
    rw [hd] at c5
    clear HR h hd
    go_enter Tryd.func30, Tryd.ntmps30
    go_wp2_with fail
    go_ret2
    exact ⟨rfl, rfl⟩
  | false =>
    rw [hd] at c5
    simp only [Bool.false_eq_true, if_false]
    generalize (if isAt D.M i then (D.M.getD i.toNat default).seen else ⟨#[]⟩ : ByteArray) = T at HR ⊢
    generalize (if isAt D.M i then 0 else 1 : Int) = E at HR ⊢
    clear h hd
    go_enter Tryd.func30, Tryd.ntmps30
    go_wp2_with (first | (go_at_call 53; refine HR.out.mono ?_; rintro e w1 ⟨rfl, rfl⟩))
    go_ret2
    exact ⟨rfl, rfl⟩
/-- Whether a fuse is burned. -/
def burnedD (D : Dev) (i : Int) : Bool := if inS D.fuses i then D.fuses.getD i.toNat false else false
set_option maxRecDepth 100000 in
set_option maxHeartbeats 1600000 in
theorem dWear_any (h : IsDev w d b g sb sc fb fc D) (i : Int) :
    Calls Tryd.prog 13 #[.pointer (some ⟨d, 0, none⟩), .int .i64 i] w fun e w' => e = .returned (.int .i64 (chk (isAt D.M i))) ∧ IsDev w' d b g sb sc fb fc { D with M := if isAt D.M i then upd Sec.wear D.M i else D.M } ∧ DFr w w' d g sb fb := by
  obtain ⟨c0, c1, c2, c3, c4, c5, c6⟩ := h.cells
  have HR := Lib.hid (wear_any h.mem i)
  have H := Lib.hid h
  unfold errOf at HR
  unfold chk
  generalize (if isAt D.M i then upd Sec.wear D.M i else D.M) = M2 at HR ⊢
  generalize (if isAt D.M i then 0 else 1 : Int) = E at HR ⊢
  clear h
  go_enter Tryd.func13, Tryd.ntmps13
  go_wp2_with (first | (go_at_call 27; refine HR.out.mono ?_; rintro e w1 ⟨rfl, hM, hg⟩))
  go_ret
  exact ⟨rfl, H.out.turn hM hg, DFr.ofGrown hg (.inr (.inl rfl))⟩
end
end Go.Proofs.YtgdpgiegiacepaaDoor
namespace Go.Proofs.YtgdpgiegiacepaaDoor
open Go.RowKit Go.Shelf
attribute [local go_sem] Oper.semAt_some

section
variable {w : World} {d b g sb sc fb fc : Nat} {D : Dev}
set_option maxRecDepth 100000 in
set_option maxHeartbeats 1600000 in
theorem dMount_any (h : IsDev w d b g sb sc fb fc D) (hf : Fine D.M) (hN : D.M.length ≤ 1048576) (v : Value) (P : List Int) (pb po : Nat) (hv : RestAt v P.length 0 pb po) (hpg : pb ≠ g)
    (hc : ∀ i x, P[i]? = some x → w.cell? ⟨pb, po + i, none⟩ = some (.int .i64 x)) :
    Calls Tryd.prog 16 #[.pointer (some ⟨d, 0, none⟩), v] w fun e w' => e = .returned (.tuple #[]) ∧ IsDev w' d b g sb sc fb fc { D with M := doneM (pick P) D.M (idxs Sec.dirty D.M), down := false, left := -1 } ∧ DFr w w' d g sb fb := by
  obtain ⟨c0, c1, c2, c3, c4, c5, c6⟩ := h.cells
  have HR := Lib.hid (Cut_any h.mem hf hN v P pb po hv hpg hc)
  have H := Lib.hid h
  generalize doneM (pick P) D.M (idxs Sec.dirty D.M) = M2 at HR ⊢
  clear h hv hc hf
  go_enter Tryd.func16, Tryd.ntmps16
  go_wp2_with (first | (go_at_call 28; refine HR.out.mono ?_; rintro e w1 ⟨rfl, hM, hg⟩; have h1 := H.out.turn hM hg; have y5 := h1.blk.cell 5; have y6 := h1.blk.cell 6; have z5 := h1.blk.frozen 5; have z6 := h1.blk.frozen 6; have H1 := Lib.hid h1; clear h1))
  go_end0
  have hg2 := grown_trans (grown_set w1 d 5 (.bool false)) (grown_set (w1.setCell ⟨d, 5, none⟩ (.bool false)) d 6 (.int .i64 (-1)))
  exact ⟨by simp, H1.out.scal hg2 rfl rfl rfl ((H1.out.blk.set_ 5 (.bool false)).set_ 6 (.int .i64 (-1))), (DFr.ofGrown hg (.inr (.inl rfl))).trans (DFr.ofGrown hg2 (.inl rfl))⟩
end
end Go.Proofs.YtgdpgiegiacepaaDoor
namespace Go.Proofs.YtgdpgiegiacepaaDoor
open Go.RowKit Go.Shelf
attribute [local go_sem] Oper.semAt_some

section
variable {w w' w2 : World} {d b g sb sc fb fc : Nat} {D : Dev}
set_option maxRecDepth 100000 in
set_option maxHeartbeats 4000000 in
theorem step_okb {Q : World → Prop} (h : IsDev w d b g sb sc fb fc D) (hd : D.down = false) (hl : D.left ≠ 0) (hr : -1 ≤ D.left ∧ D.left ≤ 9223372036854775807) (fi : Nat) (x : Value) (eg : ∀ args w, (callFunc fi args).run Tryd.prog w = .ok (.enter fi args) w)
    (HC : ∀ w2, IsDev w2 d b g sb sc fb fc { D with left := leftNext D.left } → w.grownBy w2 (some d) → Calls Tryd.prog fi #[x] w2 fun e w' => e = .returned (.tuple #[]) ∧ Q w') :
    Calls Tryd.prog 64 #[.pointer (some ⟨d, 0, none⟩), .int .i64 0, .func (.func fi) #[x] #[]] w fun e w' => e = .returned (.int .i64 0) ∧ Q w' := by
  have hf := h.blk.frozen
  obtain ⟨c0, c1, c2, c3, c4, c5, c6⟩ := h.cells
  rw [hd] at c5
  have hb : (D.left == 0) = false := beq_f hl
  have hw64 : wrap64 (D.left - 1) = D.left - 1 := by unfold wrap64; omega
  have H := Lib.hid h
  have Hc := Lib.hid HC
  clear hd hl h hr HC
  go_enter Tryd.func64, Tryd.ntmps64
  go_wp2_with fail
  have hg := grown_set w d 6 (.int .i64 (leftNext D.left))
  have hD : IsDev (w.setCell ⟨d, 6, none⟩ (.int .i64 (leftNext D.left))) d b g sb sc fb fc { D with left := leftNext D.left } := H.out.scal hg rfl rfl rfl (by
    have := H.out.blk.set_ 6 (.int .i64 (leftNext D.left))
    exact this)
  refine (Hc.out _ hD hg).mono ?_
  rintro e w' ⟨rfl, hQ⟩
  have HQ := Lib.hid hQ
  clear hQ
  go_wp2_with fail
  go_ret
  exact ⟨rfl, HQ.out⟩
theorem step_anyb (h : IsDev w d b g sb sc fb fc D) (hr : -1 ≤ D.left ∧ D.left ≤ 9223372036854775807) (check : Int) (fi : Nat) (x : Value) (eg : ∀ args w, (callFunc fi args).run Tryd.prog w = .ok (.enter fi args) w) (f : Dev → Dev)
    (HC : check = 0 → ∀ w2, IsDev w2 d b g sb sc fb fc { D with left := leftNext D.left } → w.grownBy w2 (some d) → Calls Tryd.prog fi #[x] w2 fun e w' => e = .returned (.tuple #[]) ∧ IsDev w' d b g sb sc fb fc (f { D with left := leftNext D.left }) ∧ DFr w2 w' d g sb fb) :
    Calls Tryd.prog 64 #[.pointer (some ⟨d, 0, none⟩), .int .i64 check, .func (.func fi) #[x] #[]] w fun e w' => e = .returned (.int .i64 (D.dstep check f).1) ∧ IsDev w' d b g sb sc fb fc (D.dstep check f).2 ∧ DFr w w' d g sb fb := by
  unfold Dev.dstep
  by_cases hd : D.down = true
  · rw [if_pos hd]
    refine (step_down h hd check _).mono ?_
    rintro e w' ⟨rfl, rfl⟩
    exact ⟨rfl, h, DFr.refl _⟩
  · rw [if_neg hd]
    have hd' : D.down = false := by simpa using hd
    by_cases hc : check ≠ 0
    · rw [if_pos hc]
      refine (step_chk h hd' check hc _).mono ?_
      rintro e w' ⟨rfl, rfl⟩
      exact ⟨rfl, h, DFr.refl _⟩
    · rw [if_neg hc]
      have hc' : check = 0 := by simpa using hc
      subst hc'
      by_cases hl : D.left = 0
      · rw [if_pos hl]
        refine (step_fail h hd' hl _).mono ?_
        rintro e w' ⟨rfl, h1, h2⟩
        exact ⟨rfl, h1, DFr.ofGrown h2 (.inl rfl)⟩
      · rw [if_neg hl]
        refine (step_okb (Q := fun w' => IsDev w' d b g sb sc fb fc (f { D with left := leftNext D.left }) ∧ DFr w w' d g sb fb) h hd' hl hr fi x eg (fun w2 h1 h2 => (HC rfl w2 h1 h2).mono ?_)).mono ?_
        · rintro e w' ⟨rfl, h3, h4⟩
          exact ⟨rfl, h3, (DFr.ofGrown h2 (.inl rfl)).trans h4⟩
        · rintro e w' ⟨rfl, h3, h4⟩
          exact ⟨rfl, h3, h4⟩

/-- The closures' entries. -/
theorem eg_flush (args : Array Value) (w : World) : (callFunc 68 args).run Tryd.prog w = .ok (.enter 68 args) w := by simp [go_sem]
theorem flush_step (h : IsDev w d b g sb sc fb fc D) (hr : -1 ≤ D.left ∧ D.left ≤ 9223372036854775807) (hf : Fine D.M) (hN : D.M.length ≤ 1048576) :
    Calls Tryd.prog 64 #[.pointer (some ⟨d, 0, none⟩), .int .i64 0, .func (.func 68) #[.pointer (some ⟨b, 0, none⟩)] #[]] w fun e w' => e = .returned (.int .i64 (D.dstep 0 fun D => { D with M := doneM (fun _ => 64) D.M (idxs Sec.dirty D.M) }).1) ∧
      IsDev w' d b g sb sc fb fc (D.dstep 0 fun D => { D with M := doneM (fun _ => 64) D.M (idxs Sec.dirty D.M) }).2 ∧ DFr w w' d g sb fb := by
  refine step_anyb h hr _ _ _ eg_flush _ (fun hc w2 h2 hg => ?_)
  refine (Flush_any h2.mem hf hN).mono ?_
  rintro e w' ⟨rfl, h3, h4⟩
  exact ⟨rfl, h2.turn h3 h4, DFr.ofGrown h4 (.inr (.inl rfl))⟩
set_option maxRecDepth 100000 in
set_option maxHeartbeats 1600000 in
theorem dFlush_any (h : IsDev w d b g sb sc fb fc D) (hr : -1 ≤ D.left ∧ D.left ≤ 9223372036854775807) (hf : Fine D.M) (hN : D.M.length ≤ 1048576) :
    Calls Tryd.prog 46 #[.pointer (some ⟨d, 0, none⟩)] w fun e w' => e = .returned (.int .i64 (D.dstep 0 fun D => { D with M := doneM (fun _ => 64) D.M (idxs Sec.dirty D.M) }).1) ∧
      IsDev w' d b g sb sc fb fc (D.dstep 0 fun D => { D with M := doneM (fun _ => 64) D.M (idxs Sec.dirty D.M) }).2 ∧ DFr w w' d g sb fb := by
  obtain ⟨c0, c1, c2, c3, c4, c5, c6⟩ := h.cells
  have HS := Lib.hid (flush_step h hr hf hN)
  generalize (D.dstep 0 fun D => { D with M := doneM (fun _ => 64) D.M (idxs Sec.dirty D.M) }) = R at HS ⊢
  obtain ⟨r, E⟩ := R
  dsimp only at HS ⊢
  clear h hr hf
  go_enter Tryd.func46, Tryd.ntmps46
  go_wp2_with (first | (go_at_call 64; refine HS.out.mono ?_; rintro e w' ⟨rfl, hE, hF⟩))
  go_ret
  exact ⟨rfl, hE, hF⟩
end
end Go.Proofs.YtgdpgiegiacepaaDoor
namespace Go.Proofs.YtgdpgiegiacepaaDoor
open Go.RowKit Go.Shelf
attribute [local go_sem] Oper.semAt_some

section
variable {w : World} {d b g sb sc fb fc : Nat} {D : Dev}
theorem below_drewN {B : Nat} {a w : World} (h : Below B a w) (q : Nat) : Below B a (w.drewN q) := ⟨h.os, h.tape, h.output, h.size, h.block⟩
theorem blk_drewN {w : World} {k : Nat} {t : TypeId} {cs : Array Value} (h : Blk w k t cs) (q : Nat) : Blk (w.drewN q) k t cs := h
end
end Go.Proofs.YtgdpgiegiacepaaDoor
