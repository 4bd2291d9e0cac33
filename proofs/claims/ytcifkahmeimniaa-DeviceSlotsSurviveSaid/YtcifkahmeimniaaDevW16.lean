/-
  Layer 23 (device): slices.Clone of texts and of bools. (Written by a small program.)
-/
import Derived.Test.YtcifkahmeimniaaDevW15
namespace Go.Proofs.Ytcifkahmeimniaa
open Go.RowKit Go.Shelf
attribute [local go_sem] Oper.semAt_some

theorem infoBool : (Try.prog.info? 4).map (fun i => (i.zero, i.size, i.bytes)) = some (some (.bool false), 1, 1) := by kernel_rfl
set_option maxHeartbeats 4000000 in
set_option maxRecDepth 100000 in
theorem slCloneS_any (w : World) (n cap gb : Nat) (xs : List Value) (h : w.ownsRow 0 9 1 (.slice (some ⟨gb, 0, none⟩) n cap) n xs) (h1 : ∀ u ∈ xs, u.oneCell' = true) (hN : n ≤ 1048576) (hn0 : 0 < n) :
    Calls Try.prog 41 #[.slice (some ⟨gb, 0, none⟩) n cap] w fun e w' => ∃ g' cap', e = .returned (.slice (some ⟨g', 0, none⟩) n cap') ∧ w'.ownsRow w.heap.size 9 1 (.slice (some ⟨g', 0, none⟩) n cap') n xs ∧ Below w.heap.size w w' := by
  obtain ⟨i0, hi, hz0, hz1, hz2⟩ := info_parts infoString
  have hle : Hid (0 + n ≤ maxLen) := by unfold Hid maxLen; omega
  have Hxs := Lib.hid h.1
  have H := Lib.hid h
  have H1 := Lib.hid h1
  clear h h1
  have hnil : ∀ wx, (binOp .eql 31 (.slice (some ⟨gb, 0, none⟩) n cap) (.slice none 0 0)).run Try.prog wx = .ok (.bool false) wx := fun wx => by
    have := Lib.run_eql_slice_nil (P := Try.prog) wx 31 9 (some ⟨gb, 0, none⟩) n cap 0 0 Try.underlying31
    simpa using this
  go_enter Try.func41, Try.ntmps41
  go_wp2_with (at_builtin; refine wpList_append_own _ rfl _ _ 31 rfl w.heap.size 9 i0 _ 1 16 Try.underlying31 hi hz0 hz1 hz2 rfl (by decide) _ 0 [] rfl ?c0 ⟨gb, 0, none⟩ n cap xs rfl Hxs.out ?c1 H1.out hle.out ?c4 ?c5 ?_)
  case c0 => exact ⟨rfl, .inr ⟨w.heap.size, 0, #[], rfl, Nat.le_refl _, Blk.new w _ _, Nat.le_refl _, by unfold maxLen; omega, rfl, rfl⟩⟩
  case c1 =>
    intro j u hu
    have hj := (List.getElem?_eq_some_iff.1 hu).1
    rw [Hxs.out] at hj
    have := (H.out.alloc (.cells #[] 9)).cellAt j hj
    rw [hu] at this
    rw [← this]
    congr 1
    simp [Addr.add]
    intro e; exact e.symm
  case c4 => omega
  case c5 => simp
  intro v' w' hown hg _
  have hB : Below w.heap.size w w' := ((Below.refl _ w).alloc (Nat.le_refl _) _).grown hg (by simp) (fun k e => by cases e; exact Nat.le_refl _)
  have hown2 : w'.ownsRow w.heap.size 9 1 v' n xs := by simpa using hown
  obtain ⟨g', cap', rfl⟩ : ∃ g' cap', v' = .slice (some ⟨g', 0, none⟩) n cap' := by
    rcases hown2.2 with ⟨_, h0⟩ | ⟨g', cap', _, e, _⟩
    · omega
    · exact ⟨_, _, e⟩
  have Hown := Lib.hid hown2
  clear hg hown hown2
  go_wp2_with fail
  go_ret
  exact ⟨_, _, rfl, Hown.out, hB⟩

set_option maxHeartbeats 4000000 in
set_option maxRecDepth 100000 in
theorem slCloneB_any (w : World) (n cap gb : Nat) (xs : List Value) (h : w.ownsRow 0 4 1 (.slice (some ⟨gb, 0, none⟩) n cap) n xs) (h1 : ∀ u ∈ xs, u.oneCell' = true) (hN : n ≤ 1048576) (hn0 : 0 < n) :
    Calls Try.prog 42 #[.slice (some ⟨gb, 0, none⟩) n cap] w fun e w' => ∃ g' cap', e = .returned (.slice (some ⟨g', 0, none⟩) n cap') ∧ w'.ownsRow w.heap.size 4 1 (.slice (some ⟨g', 0, none⟩) n cap') n xs ∧ Below w.heap.size w w' := by
  obtain ⟨i0, hi, hz0, hz1, hz2⟩ := info_parts infoBool
  have hle : Hid (0 + n ≤ maxLen) := by unfold Hid maxLen; omega
  have Hxs := Lib.hid h.1
  have H := Lib.hid h
  have H1 := Lib.hid h1
  clear h h1
  have hnil : ∀ wx, (binOp .eql 33 (.slice (some ⟨gb, 0, none⟩) n cap) (.slice none 0 0)).run Try.prog wx = .ok (.bool false) wx := fun wx => by
    have := Lib.run_eql_slice_nil (P := Try.prog) wx 33 4 (some ⟨gb, 0, none⟩) n cap 0 0 Try.underlying33
    simpa using this
  go_enter Try.func42, Try.ntmps42
  go_wp2_with (at_builtin; refine wpList_append_own _ rfl _ _ 33 rfl w.heap.size 4 i0 _ 1 1 Try.underlying33 hi hz0 hz1 hz2 rfl (by decide) _ 0 [] rfl ?c0 ⟨gb, 0, none⟩ n cap xs rfl Hxs.out ?c1 H1.out hle.out ?c4 ?c5 ?_)
  case c0 => exact ⟨rfl, .inr ⟨w.heap.size, 0, #[], rfl, Nat.le_refl _, Blk.new w _ _, Nat.le_refl _, by unfold maxLen; omega, rfl, rfl⟩⟩
  case c1 =>
    intro j u hu
    have hj := (List.getElem?_eq_some_iff.1 hu).1
    rw [Hxs.out] at hj
    have := (H.out.alloc (.cells #[] 4)).cellAt j hj
    rw [hu] at this
    rw [← this]
    congr 1
    simp [Addr.add]
    intro e; exact e.symm
  case c4 => omega
  case c5 => simp
  intro v' w' hown hg _
  have hB : Below w.heap.size w w' := ((Below.refl _ w).alloc (Nat.le_refl _) _).grown hg (by simp) (fun k e => by cases e; exact Nat.le_refl _)
  have hown2 : w'.ownsRow w.heap.size 4 1 v' n xs := by simpa using hown
  obtain ⟨g', cap', rfl⟩ : ∃ g' cap', v' = .slice (some ⟨g', 0, none⟩) n cap' := by
    rcases hown2.2 with ⟨_, h0⟩ | ⟨g', cap', _, e, _⟩
    · omega
    · exact ⟨_, _, e⟩
  have Hown := Lib.hid hown2
  clear hg hown hown2
  go_wp2_with fail
  go_ret
  exact ⟨_, _, rfl, Hown.out, hB⟩

end Go.Proofs.Ytcifkahmeimniaa
