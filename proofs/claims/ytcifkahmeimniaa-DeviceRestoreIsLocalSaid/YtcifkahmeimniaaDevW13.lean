/-
  Layer 23 (device): Flush (a method value is its step); Raise.
-/
import Derived.Test.YtcifkahmeimniaaDevW12
namespace Go.Proofs.Ytcifkahmeimniaa
open Go.RowKit Go.Shelf
attribute [local go_sem] Oper.semAt_some

section
variable {w w' w2 : World} {d b g sb sc fb fc : Nat} {D : Dev}
set_option maxRecDepth 100000 in
set_option maxHeartbeats 4000000 in
theorem step_okb {Q : World → Prop} (h : IsDev w d b g sb sc fb fc D) (hd : D.down = false) (hl : D.left ≠ 0) (hr : -1 ≤ D.left ∧ D.left ≤ 9223372036854775807) (fi : Nat) (x : Value) (eg : ∀ args w, (callFunc fi args).run Try.prog w = .ok (.enter fi args) w)
    (HC : ∀ w2, IsDev w2 d b g sb sc fb fc { D with left := leftNext D.left } → w.grownBy w2 (some d) → Calls Try.prog fi #[x] w2 fun e w' => e = .returned (.tuple #[]) ∧ Q w') :
    Calls Try.prog 44 #[.pointer (some ⟨d, 0, none⟩), .int .i64 0, .func (.func fi) #[x] #[]] w fun e w' => e = .returned (.int .i64 0) ∧ Q w' := by
  have hf := h.blk.frozen
  obtain ⟨c0, c1, c2, c3, c4, c5, c6⟩ := h.cells
  rw [hd] at c5
  have hb : (D.left == 0) = false := beq_f hl
  have hw64 : wrap64 (D.left - 1) = D.left - 1 := by unfold wrap64; omega
  have H := Lib.hid h
  have Hc := Lib.hid HC
  clear hd hl h hr HC
  go_enter Try.func44, Try.ntmps44
  go_wp2_with fail
  have hg := grown_set w d 6 (.int .i64 (leftNext D.left))
  have hD : IsDev (w.setCell ⟨d, 6, none⟩ (.int .i64 (leftNext D.left))) d b g sb sc fb fc { D with left := leftNext D.left } := H.out.scal hg rfl rfl rfl (by
    have := H.out.blk.set_ 6 (.int .i64 (leftNext D.left))
    exact this)
  refine (Hc.out _ hD hg).mono ?_
  rintro e w' ⟨rfl, hQ⟩
  have HQ := Lib.hid hQ
  clear hQ
  go_wp2_with fail
  go_ret
  exact ⟨rfl, HQ.out⟩
theorem step_anyb (h : IsDev w d b g sb sc fb fc D) (hr : -1 ≤ D.left ∧ D.left ≤ 9223372036854775807) (check : Int) (fi : Nat) (x : Value) (eg : ∀ args w, (callFunc fi args).run Try.prog w = .ok (.enter fi args) w) (f : Dev → Dev)
    (HC : check = 0 → ∀ w2, IsDev w2 d b g sb sc fb fc { D with left := leftNext D.left } → w.grownBy w2 (some d) → Calls Try.prog fi #[x] w2 fun e w' => e = .returned (.tuple #[]) ∧ IsDev w' d b g sb sc fb fc (f { D with left := leftNext D.left }) ∧ DFr w2 w' d g sb fb) :
    Calls Try.prog 44 #[.pointer (some ⟨d, 0, none⟩), .int .i64 check, .func (.func fi) #[x] #[]] w fun e w' => e = .returned (.int .i64 (D.dstep check f).1) ∧ IsDev w' d b g sb sc fb fc (D.dstep check f).2 ∧ DFr w w' d g sb fb := by
  unfold Dev.dstep
  by_cases hd : D.down = true
  · rw [if_pos hd]
    refine (step_down h hd check _).mono ?_
    rintro e w' ⟨rfl, rfl⟩
    exact ⟨rfl, h, DFr.refl _⟩
  · rw [if_neg hd]
    have hd' : D.down = false := by simpa using hd
    by_cases hc : check ≠ 0
    · rw [if_pos hc]
      refine (step_chk h hd' check hc _).mono ?_
      rintro e w' ⟨rfl, rfl⟩
      exact ⟨rfl, h, DFr.refl _⟩
    · rw [if_neg hc]
      have hc' : check = 0 := by simpa using hc
      subst hc'
      by_cases hl : D.left = 0
      · rw [if_pos hl]
        refine (step_fail h hd' hl _).mono ?_
        rintro e w' ⟨rfl, h1, h2⟩
        exact ⟨rfl, h1, DFr.ofGrown h2 (.inl rfl)⟩
      · rw [if_neg hl]
        refine (step_okb (Q := fun w' => IsDev w' d b g sb sc fb fc (f { D with left := leftNext D.left }) ∧ DFr w w' d g sb fb) h hd' hl hr fi x eg (fun w2 h1 h2 => (HC rfl w2 h1 h2).mono ?_)).mono ?_
        · rintro e w' ⟨rfl, h3, h4⟩
          exact ⟨rfl, h3, (DFr.ofGrown h2 (.inl rfl)).trans h4⟩
        · rintro e w' ⟨rfl, h3, h4⟩
          exact ⟨rfl, h3, h4⟩

/-- The closures' entries. -/
theorem eg_flush (args : Array Value) (w : World) : (callFunc 55 args).run Try.prog w = .ok (.enter 55 args) w := by simp [go_sem]
theorem flush_step (h : IsDev w d b g sb sc fb fc D) (hr : -1 ≤ D.left ∧ D.left ≤ 9223372036854775807) (hf : Fine D.M) (hN : D.M.length ≤ 1048576) :
    Calls Try.prog 44 #[.pointer (some ⟨d, 0, none⟩), .int .i64 0, .func (.func 55) #[.pointer (some ⟨b, 0, none⟩)] #[]] w fun e w' => e = .returned (.int .i64 (D.dstep 0 fun D => { D with M := doneM (fun _ => 64) D.M (idxs Sec.dirty D.M) }).1) ∧
      IsDev w' d b g sb sc fb fc (D.dstep 0 fun D => { D with M := doneM (fun _ => 64) D.M (idxs Sec.dirty D.M) }).2 ∧ DFr w w' d g sb fb := by
  refine step_anyb h hr _ _ _ eg_flush _ (fun hc w2 h2 hg => ?_)
  refine (Flush_any h2.mem hf hN).mono ?_
  rintro e w' ⟨rfl, h3, h4⟩
  exact ⟨rfl, h2.turn h3 h4, DFr.ofGrown h4 (.inr (.inl rfl))⟩
set_option maxRecDepth 100000 in
set_option maxHeartbeats 1600000 in
theorem dFlush_any (h : IsDev w d b g sb sc fb fc D) (hr : -1 ≤ D.left ∧ D.left ≤ 9223372036854775807) (hf : Fine D.M) (hN : D.M.length ≤ 1048576) :
    Calls Try.prog 34 #[.pointer (some ⟨d, 0, none⟩)] w fun e w' => e = .returned (.int .i64 (D.dstep 0 fun D => { D with M := doneM (fun _ => 64) D.M (idxs Sec.dirty D.M) }).1) ∧
      IsDev w' d b g sb sc fb fc (D.dstep 0 fun D => { D with M := doneM (fun _ => 64) D.M (idxs Sec.dirty D.M) }).2 ∧ DFr w w' d g sb fb := by
  obtain ⟨c0, c1, c2, c3, c4, c5, c6⟩ := h.cells
  have HS := Lib.hid (flush_step h hr hf hN)
  generalize (D.dstep 0 fun D => { D with M := doneM (fun _ => 64) D.M (idxs Sec.dirty D.M) }) = R at HS ⊢
  obtain ⟨r, E⟩ := R
  dsimp only at HS ⊢
  clear h hr hf
  go_enter Try.func34, Try.ntmps34
  go_wp2_with (first | (go_at_call 44; refine HS.out.mono ?_; rintro e w' ⟨rfl, hE, hF⟩))
  go_ret
  exact ⟨rfl, hE, hF⟩
end
end Go.Proofs.Ytcifkahmeimniaa
