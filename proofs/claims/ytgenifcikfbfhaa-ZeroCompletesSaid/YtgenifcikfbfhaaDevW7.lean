/-
  Layer 23 (device): what Store, Burn and Raise do in their steps.
-/
import Derived.Test.YtgenifcikfbfhaaDevW6
import Derived.Laws.OwnMore
import Derived.StillTailTactics
namespace Go.Proofs.Ytgenifcikfbfhaa
open Go.RowKit Go.Shelf
attribute [local go_sem] Oper.semAt_some

section
variable {w : World} {d b g sb sc fb fc : Nat} {D : Dev}
theorem row_blk {e : TypeId} {xs : List Value} {n c r : Nat} {base size : Nat} (h : w.ownsRow base e size (.slice (some ⟨r, 0, none⟩) n c) n xs) : ∃ cur, Blk w r e cur := by
  rcases h.2 with ⟨h0, _⟩ | ⟨g', cap, cur, h0, _, hg, _⟩
  · cases h0
  · cases h0
    exact ⟨cur, hg⟩
theorem strCells_set (l : List ByteArray) (i : Nat) (t : ByteArray) : strCells (l.set i t) = (strCells l).set i (.string t) := by simp [strCells, List.map_set]
theorem boolCells_set (l : List Bool) (i : Nat) (t : Bool) : boolCells (l.set i t) = (boolCells l).set i (.bool t) := by simp [boolCells, List.map_set]
/-- A slot is set. -/
theorem IsDev.slotSet (h : IsDev w d b g sb sc fb fc D) (i : Nat) (t : ByteArray) : IsDev (w.setCell ⟨sb, i, none⟩ (.string t)) d b g sb sc fb fc { D with slots := D.slots.set i t } ∧ w.grownBy (w.setCell ⟨sb, i, none⟩ (.string t)) (some sb) := by
  obtain ⟨cap, cur, hbb, hgb, _⟩ := h.mem.body
  obtain ⟨fcur, hfb⟩ := row_blk h.frow
  obtain ⟨k1, k2⟩ := h.srow.stored i (.string t)
  refine ⟨⟨?_, h.mem.grown k2 (fun e => own_blk_ne h.srow hbb (by decide) (by rw [e]; rfl)) (fun e => own_blk_ne h.srow hgb (by decide) (by rw [e]; rfl)), ?_, ?_⟩, k2⟩
  · have := h.blk.grown k2 (fun e => own_blk_ne h.srow h.blk (by decide) (by rw [e]; rfl))
    simpa using this
  · dsimp only
    rw [List.length_set, strCells_set]
    exact k1
  · exact h.frow.kept k2 (.inr (fun e => own_blk_ne h.srow hfb (by decide) (by have e' : some fb = some sb := e; rw [e']; rfl)))
/-- A fuse is set. -/
theorem IsDev.fuseSet (h : IsDev w d b g sb sc fb fc D) (i : Nat) (t : Bool) : IsDev (w.setCell ⟨fb, i, none⟩ (.bool t)) d b g sb sc fb fc { D with fuses := D.fuses.set i t } ∧ w.grownBy (w.setCell ⟨fb, i, none⟩ (.bool t)) (some fb) := by
  obtain ⟨cap, cur, hbb, hgb, _⟩ := h.mem.body
  obtain ⟨fcur, hfb⟩ := row_blk h.srow
  obtain ⟨k1, k2⟩ := h.frow.stored i (.bool t)
  refine ⟨⟨?_, h.mem.grown k2 (fun e => own_blk_ne h.frow hbb (by decide) (by rw [e]; rfl)) (fun e => own_blk_ne h.frow hgb (by decide) (by rw [e]; rfl)), ?_, ?_⟩, k2⟩
  · have := h.blk.grown k2 (fun e => own_blk_ne h.frow h.blk (by decide) (by rw [e]; rfl))
    simpa using this
  · exact h.srow.kept k2 (.inr (fun e => own_blk_ne h.frow hfb (by decide) (by have e' : some sb = some fb := e; rw [e']; rfl)))
  · dsimp only
    rw [List.length_set, boolCells_set]
    exact k1
theorem grown_drew_sb (w : World) (r : Option Nat) : w.grownBy w.drew r := grown_drewN w 1 r
set_option maxRecDepth 100000 in
set_option maxHeartbeats 4000000 in
theorem store1_any (h : IsDev w d b g sb sc fb fc D) (bd bi bt : Nat) (i : Nat) (hi : i < D.slots.length) (t : ByteArray) (k1 : Blk w bd 26 #[.pointer (some ⟨d, 0, none⟩)]) (k2 : Blk w bi 3 #[.int .i64 i]) (k3 : Blk w bt 9 #[.string t]) :
    Calls Try.prog 52 #[.pointer (some ⟨bt, 0, none⟩), .pointer (some ⟨bd, 0, none⟩), .pointer (some ⟨bi, 0, none⟩)] w fun e w' => e = .returned (.tuple #[]) ∧
      IsDev w' d b g sb sc fb fc { D with slots := D.slots.set i t } ∧ w.grownBy w' (some sb) := by
  have hD := h.below (Below.refl _ w).drew
  have hset := hD.slotSet i t
  have c0 := hD.blk.cell 0
  have h1 := k1.drew.cell 0
  have h2 := k2.drew.cell 0
  have h3 := k3.drew.cell 0
  obtain ⟨o, ho⟩ : ∃ o, D.slots[i]? = some o := ⟨_, List.getElem?_eq_getElem hi⟩
  have hc : w.drew.cell? ⟨sb, i, none⟩ = some (.string o) := by
    rw [hD.srow.cellAt i (by omega)]
    unfold strCells
    rw [List.getElem?_map, ho]
    rfl
  have hf := hD.srow.frozenAt i
  have hi0 : (0 : Int) ≤ (i : Int) := by omega
  have hi1 : (i : Int) < D.slots.length := by omega
  have HS := Lib.hid hset
  clear hset hD h k1 k2 k3 ho
  go_enter Try.func52, Try.ntmps52
  go_wp2_with fail
  refine wp_region_still_tail 8 (by kernel_rfl) (by kernel_rfl) ?_
  change wpStill _ _ w.drew (fun a' => wpList _ _ _ _ a' w.drew) _ _
  have HG := Lib.hid (grown_drew_sb w (some sb))
  generalize w.drew = W2 at c0 h1 h2 h3 hc hf HS HG ⊢
  simp only [List.take_succ_cons, List.take_zero, List.drop_succ_cons, List.drop_zero]
  repeat still_step
  refine wpStill_nil ?_
  change wpList _ _ _ _ _ W2
  go_wp2_with fail
  go_end0
  exact ⟨by simp, HS.out.1, grown_trans HG.out HS.out.2⟩
set_option maxRecDepth 100000 in
set_option maxHeartbeats 4000000 in
theorem burn1_any (h : IsDev w d b g sb sc fb fc D) (bd bi : Nat) (i : Nat) (hi : i < D.fuses.length) (k1 : Blk w bd 26 #[.pointer (some ⟨d, 0, none⟩)]) (k2 : Blk w bi 3 #[.int .i64 i]) :
    Calls Try.prog 41 #[.pointer (some ⟨bd, 0, none⟩), .pointer (some ⟨bi, 0, none⟩)] w fun e w' => e = .returned (.tuple #[]) ∧
      IsDev w' d b g sb sc fb fc { D with fuses := D.fuses.set i true } ∧ w.grownBy w' (some fb) := by
  have hD := h.below (Below.refl _ w).drew
  have hset := hD.fuseSet i true
  have c1 := hD.blk.cell 1
  have h1 := k1.drew.cell 0
  have h2 := k2.drew.cell 0
  obtain ⟨o, ho⟩ : ∃ o, D.fuses[i]? = some o := ⟨_, List.getElem?_eq_getElem hi⟩
  have hc : w.drew.cell? ⟨fb, i, none⟩ = some (.bool o) := by
    rw [hD.frow.cellAt i (by omega)]
    unfold boolCells
    rw [List.getElem?_map, ho]
    rfl
  have hf := hD.frow.frozenAt i
  have hi0 : (0 : Int) ≤ (i : Int) := by omega
  have hi1 : (i : Int) < D.fuses.length := by omega
  have HS := Lib.hid hset
  clear hset hD h k1 k2 ho
  go_enter Try.func41, Try.ntmps41
  go_wp2_with fail
  refine wp_region_still_tail 7 (by kernel_rfl) (by kernel_rfl) ?_
  change wpStill _ _ w.drew (fun a' => wpList _ _ _ _ a' w.drew) _ _
  have HG := Lib.hid (grown_drew_sb w (some fb))
  generalize w.drew = W2 at c1 h1 h2 hc hf HS HG ⊢
  simp only [List.take_succ_cons, List.take_zero, List.drop_succ_cons, List.drop_zero]
  repeat still_step
  refine wpStill_nil ?_
  change wpList _ _ _ _ _ W2
  go_wp2_with fail
  go_end0
  exact ⟨by simp, HS.out.1, grown_trans HG.out HS.out.2⟩
set_option maxRecDepth 100000 in
set_option maxHeartbeats 4000000 in
theorem raise1_any (h : IsDev w d b g sb sc fb fc D) (bd bi : Nat) (n : Int) (k1 : Blk w bd 26 #[.pointer (some ⟨d, 0, none⟩)]) (k2 : Blk w bi 3 #[.int .i64 n]) :
    Calls Try.prog 57 #[.pointer (some ⟨bi, 0, none⟩), .pointer (some ⟨bd, 0, none⟩)] w fun e w' => e = .returned (.tuple #[]) ∧
      IsDev w' d b g sb sc fb fc { D with counter := n } ∧ w.grownBy w' (some d) := by
  have hf := h.blk.frozen 2
  have c2 := h.blk.cell 2
  have h1 := k1.cell 0
  have h2 := k2.cell 0
  have H := Lib.hid h
  clear h k1 k2
  go_enter Try.func57, Try.ntmps57
  go_wp2_with fail
  go_end0
  have hg := grown_set w d 2 (.int .i64 n)
  exact ⟨by simp, H.out.scal hg rfl rfl rfl (H.out.blk.set_ 2 (.int .i64 n)), hg⟩
end
end Go.Proofs.Ytgenifcikfbfhaa
