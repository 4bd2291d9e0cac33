/-
  Layer 33 (zero): Begin.
-/
import Derived.Test.YtgenifcikfbfhaaZerW5
namespace Go.Proofs.Ytgenifcikfbfhaa
open Go.RowKit Go.Shelf
attribute [local go_sem] Oper.semAt_some

section
variable {w : World} {d b g sb sc fb fc s n f : Nat} {D : Dev}
set_option maxRecDepth 100000 in
set_option maxHeartbeats 1600000 in
theorem zBegin_any (h : IsDev w d b g sb sc fb fc D) (hok : D.Ok n s f) (hn : n ≤ 1048576) (hs : s ≤ 1048576) :
    Calls Try.prog 14 #[.pointer (some ⟨d, 0, none⟩)] w fun e w' => e = .returned (.int .i64 (zbegin D).1) ∧ IsDev w' d b g sb sc fb fc (zbegin D).2 ∧ DFr w w' d g sb fb := by
  have HB : Hid (Calls Try.prog 19 #[.pointer (some ⟨d, 0, none⟩), .int .i64 0] w fun e w' => e = .returned (.int .i64 (D.dstep (chk (inS D.fuses (0 : Int))) fun D => { D with fuses := D.fuses.set 0 true }).1) ∧ IsDev w' d b g sb sc fb fc (D.dstep (chk (inS D.fuses (0 : Int))) fun D => { D with fuses := D.fuses.set 0 true }).2 ∧ DFr w w' d g sb fb) := dBurn_any h hok.left 0
  have hok2 : (D.dstep (chk (inS D.fuses (0 : Int))) fun D => { D with fuses := D.fuses.set 0 true }).2.Ok n s f := by
    refine dstep_ok hok _ _ (fun hc h2 => ?_)
    exact ⟨hok.M, hok.slots, by dsimp only; rw [List.length_set]; exact hok.fuses, hok.fine, h2.left, hok.counter, hok.clock⟩
  unfold zbegin
  generalize (D.dstep (chk (inS D.fuses (0 : Int))) fun D => { D with fuses := D.fuses.set 0 true }) = R at HB hok2 ⊢
  obtain ⟨e0, R2⟩ := R
  dsimp only at HB hok2 ⊢
  by_cases h0 : e0 = 0
  · subst h0
    rw [if_neg (by decide)]
    have HR := Lib.hid (fun (w1 : World) (h1 : IsDev w1 d b g sb sc fb fc R2) => zResume_any h1 hok2 hn hs)
    clear h hok hok2
    go_enter Try.func14, Try.ntmps14
    go_wp2_with (first | (go_at_call 19; refine HB.out.mono ?_; rintro e w1 ⟨rfl, h1, hF1⟩; have HR1 := Lib.hid (HR.out w1 h1)) | (go_at_call 18; refine HR1.out.mono ?_; rintro e w2 ⟨rfl, h2, hF2⟩))
    go_ret
    exact ⟨rfl, h2, DFr.trans (w' := w1) hF1 hF2⟩
  · rw [if_pos h0]
    have dz : (e0 == 0) = false := by simpa using h0
    clear h hok hok2 h0
    go_enter Try.func14, Try.ntmps14
    go_wp2_with (go_at_call 19; refine HB.out.mono ?_; rintro e w1 ⟨rfl, h1, hF1⟩)
    go_ret
    exact ⟨rfl, h1, hF1⟩
end
end Go.Proofs.Ytgenifcikfbfhaa
