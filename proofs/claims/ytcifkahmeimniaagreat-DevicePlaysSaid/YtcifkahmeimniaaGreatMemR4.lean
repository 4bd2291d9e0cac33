/-
  Layer 22 (memory): the reference's Clone.
-/
import Derived.Test.YtcifkahmeimniaaGreatMemR3
import Derived.Deep.RegionHeld3
import Derived.Deep.RegionLaw
import Derived.Deep.AppendLies
namespace Go.Proofs.YtcifkahmeimniaaGreat
open Go.RowKit Go.Shelf
attribute [local go_sem] Oper.semAt_some

theorem infoRSec : (Tryz.prog.info? 92).map (fun i => (i.zero, i.size, i.bytes)) = some (some (.agg #[.string ⟨#[]⟩, .string ⟨#[]⟩, .string ⟨#[]⟩, .bool false, .bool false]), 5, 56) := by kernel_rfl

section
variable {w : World} {b g : Nat} {M : List Sec}
theorem frozen_on {w w' : World} {a : Addr} {v : Bool} (hg : w.drew.grownBy w' none) (h : w.frozen? a = v) (hlt : a.block < w.heap.size) : w'.frozen? a = v := (hg.frozen_far a hlt (by simp)).trans h
theorem rclone_end {w1 w3 : World} {g' cap' : Nat} (hp : 0 < M.length) (hb1 : Blk w1 w.heap.size 90 #[.slice none 0 0]) (hB1 : Below w.heap.size w w1) (hs1 : w1.heap.size = w.heap.size + 1)
    (hown1 : w3.ownsRow (w.heap.size + 1) 92 5 (.slice (some ⟨g', 0, none⟩) (0 + M.length) cap') (0 + M.length) ([] ++ memCells M)) (hgrow : w1.drew.grownBy w3 (Value.slice none 0 0).ownBlock) :
    ∃ b' g2, Ending.returned (.pointer (some ⟨w.heap.size, 0, none⟩)) = Ending.returned (.pointer (some ⟨b', 0, none⟩)) ∧ w.heap.size ≤ b' ∧ w.heap.size ≤ g2 ∧ RMem (w3.setCell ⟨w.heap.size, 0, none⟩ (.slice (some ⟨g', 0, none⟩) M.length cap')) b' g2 M ∧ Below w.heap.size w (w3.setCell ⟨w.heap.size, 0, none⟩ (.slice (some ⟨g', 0, none⟩) M.length cap')) := by
  rw [Nat.zero_add, List.nil_append] at hown1
  have hb3 : Blk w3 w.heap.size 90 #[.slice none 0 0] := Blk.grown (w := w1.drew) hb1 hgrow (by simp [Value.ownBlock])
  have hB3 : Below w.heap.size w w3 := (hB1.drew).grown hgrow (by show w.heap.size ≤ w1.heap.size; omega) (fun k e => by simp [Value.ownBlock] at e)
  have hgs := grownBy_setCell' w3 w.heap.size (.slice (some ⟨g', 0, none⟩) M.length cap')
  have hg1 : w.heap.size + 1 ≤ g' := (hown1.lt g' rfl).1
  obtain ⟨g2, hg2, hM2⟩ := isMem_of_row (tM := 90) hp (hown1.kept hgs (.inr (by simp [Value.ownBlock]; omega))) (hb3.set_ 0 (.slice (some ⟨g', 0, none⟩) M.length cap')) (by decide)
  exact ⟨_, g2, rfl, Nat.le_refl _, by omega, hM2, hB3.setCell (p := ⟨w.heap.size, 0, none⟩) (Nat.le_refl _) _⟩

set_option maxRecDepth 100000 in
set_option maxHeartbeats 4000000 in
theorem rClone_any (h : RMem w b g M) (hN : M.length ≤ 1048576) :
    Calls Tryz.prog 34 #[.pointer (some ⟨b, 0, none⟩)] w fun e w' => ∃ b' g', e = .returned (.pointer (some ⟨b', 0, none⟩)) ∧ w.heap.size ≤ b' ∧ w.heap.size ≤ g' ∧ RMem w' b' g' M ∧ Below w.heap.size w w' := by
  obtain ⟨i0, hi, hz0, hz1, hz2⟩ := info_parts infoRSec
  obtain ⟨cap, hc, h1, h2, h3⟩ := h.row
  have hp := h.pos
  have hlt := h.lt
  have H3 := Lib.hid h3
  have hle : Hid (0 + M.length ≤ maxLen) := by unfold Hid maxLen; omega
  clear h3
  go_enter Tryz.func34, Tryz.ntmps34
  go_wp2_with fail
  have hb1 : Blk (w.alloc (.cells #[.slice none 0 0] 90)) w.heap.size 90 #[.slice none 0 0] := Blk.new w _ _
  have hB1 : Below w.heap.size w (w.alloc (.cells #[.slice none 0 0] 90)) := (Below.refl _ w).alloc (Nat.le_refl _) _
  have hs1 : (w.alloc (.cells #[.slice none 0 0] 90)).heap.size = w.heap.size + 1 := by simp
  have h31 : Hid ((w.alloc (.cells #[.slice none 0 0] 90)).ownsRow 0 92 5 (.slice (some ⟨g, 0, none⟩) M.length cap) M.length (memCells M)) := H3.out.alloc _
  have hcb : (w.alloc (.cells #[.slice none 0 0] 90)).cell? ⟨b, 0, none⟩ = some (.slice (some ⟨g, 0, none⟩) M.length cap) := (hB1.cell (p := ⟨b, 0, none⟩) hlt.1).trans hc
  generalize (w.alloc (.cells #[.slice none 0 0] 90)) = w1 at hb1 hB1 hs1 h31 hcb ⊢
  have hc1 : w1.cell? ⟨w.heap.size, 0, none⟩ = some (.slice none 0 0) := hb1.cell 0
  have hbl : b < w1.heap.size := by omega
  have hf1 := hb1.frozen 0
  have hl := memCells_len M
  have hm1 := memCells_one M
  have hnews : ∀ j u, (memCells M)[j]? = some u → w1.drew.cell? ((⟨g, 0, none⟩ : Addr).add j) = some u := by
    intro j u hu
    have hj := (List.getElem?_eq_some_iff.1 hu).1
    rw [memCells_len] at hj
    have := h31.out.cellAt j hj
    rw [hu] at this
    rw [show w1.drew.cell? = w1.cell? from rfl, ← this]
    congr 1
    simp [Addr.add]
    intro e; exact e.symm
  have Hnews := Lib.hid hnews
  clear hnews
  go_region_law ((refine step_append_lies _ (by rfl) _ _ _ (by rfl) (w.heap.size + 1) 92 i0 _ 5 56 Tryz.underlying88 hi hz0 hz1 hz2 rfl (by omega) (.slice none 0 0) 0 [] (by rfl) (World.ownsRow_nil _ _ _ _) ⟨g, 0, none⟩ M.length cap (memCells M) (by rfl) hl Hnews.out hm1 hp hle.out (by omega) (by simp; omega) (w.heap.size + 1) (by simpa using hs1) ?_; intro g' cap' w3 hown1 hgrow hat hlt3; have hc3 := hgrow.cell hc1 (by simp [Value.ownBlock]); have hf3 := frozen_on hgrow hf1 (by simp; omega)))
  all_goals go_wp2
  all_goals go_ret
  all_goals exact rclone_end hp hb1 hB1 hs1 hown1 hgrow
end
end Go.Proofs.YtcifkahmeimniaaGreat
