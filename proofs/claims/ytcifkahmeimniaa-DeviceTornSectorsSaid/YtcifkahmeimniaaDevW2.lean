/-
  Layer 23 (device): step.
-/
import Derived.Test.YtcifkahmeimniaaDevW1
namespace Go.Proofs.Ytcifkahmeimniaa
open Go.RowKit Go.Shelf
attribute [local go_sem] Oper.semAt_some

section
variable {w : World} {d b g sb sc fb fc : Nat} {D : Dev}
set_option maxRecDepth 100000 in
theorem step_down (h : IsDev w d b g sb sc fb fc D) (hd : D.down = true) (check : Int) (v : Value) :
    Calls Try.prog 44 #[.pointer (some ⟨d, 0, none⟩), .int .i64 check, v] w fun e w' => e = .returned (.int .i64 14) ∧ w = w' := by
  obtain ⟨c0, c1, c2, c3, c4, c5, c6⟩ := h.cells
  rw [hd] at c5
  clear hd
  go_enter Try.func44, Try.ntmps44
  go_wp2_with fail
  go_ret
  exact ⟨rfl, rfl⟩
set_option maxRecDepth 100000 in
theorem step_chk (h : IsDev w d b g sb sc fb fc D) (hd : D.down = false) (check : Int) (hc : check ≠ 0) (v : Value) :
    Calls Try.prog 44 #[.pointer (some ⟨d, 0, none⟩), .int .i64 check, v] w fun e w' => e = .returned (.int .i64 check) ∧ w = w' := by
  obtain ⟨c0, c1, c2, c3, c4, c5, c6⟩ := h.cells
  rw [hd] at c5
  have hb : (check == 0) = false := beq_f hc
  clear hd hc
  go_enter Try.func44, Try.ntmps44
  go_wp2_with fail
  go_ret
  exact ⟨rfl, rfl⟩
theorem IsDev.scal {w' : World} {D' : Dev} (h : IsDev w d b g sb sc fb fc D) (hg : w.grownBy w' (some d)) (e1 : D'.slots = D.slots) (e2 : D'.fuses = D.fuses) (e3 : D'.M = D.M)
    (hb : Blk w' d 64 #[.slice (some ⟨sb, 0, none⟩) D.slots.length sc, .slice (some ⟨fb, 0, none⟩) D.fuses.length fc, .int .i64 D'.counter, .int .i64 D'.clock, .pointer (some ⟨b, 0, none⟩), .bool D'.down, .int .i64 D'.left]) : IsDev w' d b g sb sc fb fc D' := by
  obtain ⟨cap, cur, hbb, hgb, _⟩ := h.mem.body
  have n1 := hbb.ne_ h.blk (by decide)
  have n2 := hgb.ne_ h.blk (by decide)
  refine ⟨by rw [e1, e2]; exact hb, by rw [e3]; exact h.mem.grown hg (fun e => n1 (by cases e; rfl)) (fun e => n2 (by cases e; rfl)), ?_, ?_⟩
  · rw [e1]; exact h.srow.kept hg (.inr (own_blk_ne h.srow h.blk (by decide)))
  · rw [e2]; exact h.frow.kept hg (.inr (own_blk_ne h.frow h.blk (by decide)))
set_option maxRecDepth 100000 in
set_option maxHeartbeats 4000000 in
theorem step_fail (h : IsDev w d b g sb sc fb fc D) (hd : D.down = false) (hl : D.left = 0) (v : Value) :
    Calls Try.prog 44 #[.pointer (some ⟨d, 0, none⟩), .int .i64 0, v] w fun e w' => e = .returned (.int .i64 14) ∧ IsDev w' d b g sb sc fb fc { D with down := true, left := -1 } ∧ w.grownBy w' (some d) := by
  have hf := h.blk.frozen
  obtain ⟨c0, c1, c2, c3, c4, c5, c6⟩ := h.cells
  rw [hd] at c5
  rw [hl] at c6
  have H := Lib.hid h
  clear hd hl h
  go_enter Try.func44, Try.ntmps44
  go_wp2_with fail
  go_ret
  have hg := grown_trans (grown_set w d 5 (.bool true)) (grown_set (w.setCell ⟨d, 5, none⟩ (.bool true)) d 6 (.int .i64 (-1)))
  exact ⟨rfl, H.out.scal hg rfl rfl rfl ((H.out.blk.set_ 5 (.bool true)).set_ 6 (.int .i64 (-1))), hg⟩
/-- The number of steps that are left behind a step. -/
def leftNext (l : Int) : Int := max (l - 1) (-1)
set_option maxRecDepth 100000 in
set_option maxHeartbeats 4000000 in
theorem step_ok {Q : World → Prop} (h : IsDev w d b g sb sc fb fc D) (hd : D.down = false) (hl : D.left ≠ 0) (hr : -1 ≤ D.left ∧ D.left ≤ 9223372036854775807) (fi : Nat) (caps : Array Value) (eg : ∀ args w, (callFunc fi args).run Try.prog w = .ok (.enter fi args) w)
    (HC : ∀ w2, IsDev w2 d b g sb sc fb fc { D with left := leftNext D.left } → w.grownBy w2 (some d) → Calls Try.prog fi caps w2 fun e w' => e = .returned (.tuple #[]) ∧ Q w') :
    Calls Try.prog 44 #[.pointer (some ⟨d, 0, none⟩), .int .i64 0, .func (.func fi) #[] caps] w fun e w' => e = .returned (.int .i64 0) ∧ Q w' := by
  have hf := h.blk.frozen
  obtain ⟨c0, c1, c2, c3, c4, c5, c6⟩ := h.cells
  rw [hd] at c5
  have hb : (D.left == 0) = false := beq_f hl
  have hw64 : wrap64 (D.left - 1) = D.left - 1 := by unfold wrap64; omega
  have H := Lib.hid h
  have Hc := Lib.hid HC
  clear hd hl h hr HC
  go_enter Try.func44, Try.ntmps44
  go_wp2_with fail
  have hg := grown_set w d 6 (.int .i64 (leftNext D.left))
  have hD : IsDev (w.setCell ⟨d, 6, none⟩ (.int .i64 (leftNext D.left))) d b g sb sc fb fc { D with left := leftNext D.left } := H.out.scal hg rfl rfl rfl (by
    have := H.out.blk.set_ 6 (.int .i64 (leftNext D.left))
    exact this)
  refine (Hc.out _ hD hg).mono ?_
  rintro e w' ⟨rfl, hQ⟩
  have HQ := Lib.hid hQ
  clear hQ
  go_wp2_with fail
  go_ret
  exact ⟨rfl, HQ.out⟩
end
end Go.Proofs.Ytcifkahmeimniaa
