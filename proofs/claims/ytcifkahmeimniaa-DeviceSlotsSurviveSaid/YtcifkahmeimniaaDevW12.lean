/-
  Layer 23 (device): Tick, Image, Restore, Mount, Raise.
-/
import Derived.Test.YtcifkahmeimniaaDevW11
namespace Go.Proofs.Ytcifkahmeimniaa
open Go.RowKit Go.Shelf
attribute [local go_sem] Oper.semAt_some

section
variable {w : World} {d b g sb sc fb fc : Nat} {D : Dev}
set_option maxRecDepth 100000 in
set_option maxHeartbeats 1600000 in
theorem dTick_any (h : IsDev w d b g sb sc fb fc D) (hc : 0 ≤ D.clock ∧ D.clock ≤ 1099511627776) (n : Int) :
    Calls Try.prog 28 #[.pointer (some ⟨d, 0, none⟩), .int .i64 n] w fun e w' => e = .returned (.int .i64 (if n < 0 ∨ 1099511627776 - D.clock < n then 1 else 0)) ∧ IsDev w' d b g sb sc fb fc (if n < 0 ∨ 1099511627776 - D.clock < n then D else { D with clock := D.clock + n }) ∧ DFr w w' d g sb fb := by
  have hf := h.blk.frozen 3
  have c3 := h.blk.cell 3
  have H := Lib.hid h
  clear h
  have hw1 : wrap64 (1099511627776 - D.clock) = 1099511627776 - D.clock := by unfold wrap64; omega
  by_cases h1 : n < 0
  · rw [if_pos (.inl h1), if_pos (.inl h1)]
    have d1 : decide (n < 0) = true := decide_eq_true h1
    clear h1 hc
    go_enter Try.func28, Try.ntmps28
    go_wp2_with fail
    go_ret
    exact ⟨rfl, H.out, DFr.refl _⟩
  · have d1 : decide (n < 0) = false := decide_eq_false h1
    by_cases h2 : 1099511627776 - D.clock < n
    · rw [if_pos (.inr h2), if_pos (.inr h2)]
      have d2 : decide (1099511627776 - D.clock < n) = true := decide_eq_true h2
      clear h1 h2 hc
      go_enter Try.func28, Try.ntmps28
      go_wp2_with fail
      go_ret
      exact ⟨rfl, H.out, DFr.refl _⟩
    · have hno : ¬ (n < 0 ∨ 1099511627776 - D.clock < n) := by omega
      rw [if_neg hno, if_neg hno]
      have d2 : decide (1099511627776 - D.clock < n) = false := decide_eq_false h2
      have hw2 : wrap64 (D.clock + n) = D.clock + n := by unfold wrap64; omega
      clear h1 h2 hc hno
      go_enter Try.func28, Try.ntmps28
      go_wp2_with fail
      go_ret
      have hg := grown_set w d 3 (.int .i64 (D.clock + n))
      exact ⟨rfl, H.out.scal hg rfl rfl rfl (H.out.blk.set_ 3 (.int .i64 (D.clock + n))), DFr.ofGrown hg (.inl rfl)⟩
set_option maxRecDepth 100000 in
set_option maxHeartbeats 1600000 in
theorem dImage_any (h : IsDev w d b g sb sc fb fc D) (hN : D.M.length ≤ 1048576) :
    Calls Try.prog 18 #[.pointer (some ⟨d, 0, none⟩)] w fun e w' => ∃ v, e = .returned v ∧ NewTexts w w' v (D.M.map Sec.now) := by
  obtain ⟨c0, c1, c2, c3, c4, c5, c6⟩ := h.cells
  have HR := Lib.hid (Image_any h.mem hN)
  clear h
  go_enter Try.func18, Try.ntmps18
  go_wp2_with (first | (go_at_call 38; refine HR.out.mono ?_; rintro e w1 ⟨v, rfl, hT⟩; have HT := Lib.hid hT; clear hT))
  go_ret
  exact ⟨_, rfl, HT.out⟩
set_option maxRecDepth 100000 in
set_option maxHeartbeats 1600000 in
theorem dRestore_any (h : IsDev w d b g sb sc fb fc D) (v : Value) (I : List ByteArray) (hv : Texts w v I) (hN : I.length ≤ 1048576) :
    Calls Try.prog 24 #[.pointer (some ⟨d, 0, none⟩), v] w fun e w' => e = .returned (.int .i64 (if loadErr I D.M then 1 else 0)) ∧ IsDev w' d b g sb sc fb fc { D with M := if loadErr I D.M then D.M else loadM I D.M } ∧ DFr w w' d g sb fb := by
  obtain ⟨c0, c1, c2, c3, c4, c5, c6⟩ := h.cells
  have HR := Lib.hid (Load_any h.mem v I hv hN)
  have H := Lib.hid h
  generalize (if loadErr I D.M then D.M else loadM I D.M) = M2 at HR ⊢
  generalize (if loadErr I D.M then 1 else 0 : Int) = E at HR ⊢
  clear h hv
  go_enter Try.func24, Try.ntmps24
  go_wp2_with (first | (go_at_call 43; refine HR.out.mono ?_; rintro e w1 ⟨rfl, hM, hg⟩))
  go_ret
  exact ⟨rfl, H.out.turn hM hg, DFr.ofGrown hg (.inr (.inl rfl))⟩
set_option maxRecDepth 100000 in
set_option maxHeartbeats 1600000 in
theorem dMount_any (h : IsDev w d b g sb sc fb fc D) (hf : Fine D.M) (hN : D.M.length ≤ 1048576) (v : Value) (P : List Int) (pb po : Nat) (hv : RestAt v P.length 0 pb po) (hpg : pb ≠ g)
    (hc : ∀ i x, P[i]? = some x → w.cell? ⟨pb, po + i, none⟩ = some (.int .i64 x)) :
    Calls Try.prog 16 #[.pointer (some ⟨d, 0, none⟩), v] w fun e w' => e = .returned (.tuple #[]) ∧ IsDev w' d b g sb sc fb fc { D with M := doneM (pick P) D.M (idxs Sec.dirty D.M), down := false, left := -1 } ∧ DFr w w' d g sb fb := by
  obtain ⟨c0, c1, c2, c3, c4, c5, c6⟩ := h.cells
  have HR := Lib.hid (Cut_any h.mem hf hN v P pb po hv hpg hc)
  have H := Lib.hid h
  generalize doneM (pick P) D.M (idxs Sec.dirty D.M) = M2 at HR ⊢
  clear h hv hc hf
  go_enter Try.func16, Try.ntmps16
  go_wp2_with (first | (go_at_call 37; refine HR.out.mono ?_; rintro e w1 ⟨rfl, hM, hg⟩; have h1 := H.out.turn hM hg; have y5 := h1.blk.cell 5; have y6 := h1.blk.cell 6; have z5 := h1.blk.frozen 5; have z6 := h1.blk.frozen 6; have H1 := Lib.hid h1; clear h1))
  go_end0
  have hg2 := grown_trans (grown_set w1 d 5 (.bool false)) (grown_set (w1.setCell ⟨d, 5, none⟩ (.bool false)) d 6 (.int .i64 (-1)))
  exact ⟨by simp, H1.out.scal hg2 rfl rfl rfl ((H1.out.blk.set_ 5 (.bool false)).set_ 6 (.int .i64 (-1))), (DFr.ofGrown hg (.inr (.inl rfl))).trans (DFr.ofGrown hg2 (.inl rfl))⟩
end
end Go.Proofs.Ytcifkahmeimniaa
