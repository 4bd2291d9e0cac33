/-
  Layer 23 (device): Clone.
-/
import Derived.Test.YtgenifcikfbfhaaG5
import Derived.Deep.RegionHeld3
namespace Go.Proofs.Ytgenifcikfbfhaa
open Go.RowKit Go.Shelf
attribute [local go_sem] Oper.semAt_some

section
variable {w : World} {a : DAt} {D : Dev}
theorem DevIs.sizes (h : DevIs w a D) : a.d < w.heap.size ∧ a.g < w.heap.size ∧ a.sb < w.heap.size ∧ a.fb < w.heap.size := by
  obtain ⟨_, q2⟩ := h.gblk
  obtain ⟨_, q3⟩ := h.sblk
  obtain ⟨_, q4⟩ := h.fblk
  exact ⟨h.blk.lt, q2.lt, q3.lt, q4.lt⟩
theorem ownsRow_zero {w : World} {base : Nat} {e : TypeId} {size : Nat} {v : Value} {n : Nat} {xs : List Value} (h : w.ownsRow base e size v n xs) : w.ownsRow 0 e size v n xs := by
  refine ⟨h.1, ?_⟩
  rcases h.2 with h2 | ⟨g, cap, cur, hv, hg, r⟩
  · exact .inl h2
  · exact .inr ⟨g, cap, cur, hv, Nat.zero_le _, r⟩
theorem one_str (l : List ByteArray) : ∀ u ∈ strCells l, u.oneCell' = true := by
  intro u hu
  obtain ⟨t, _, rfl⟩ := List.mem_map.1 hu
  rfl
theorem one_bool (l : List Bool) : ∀ u ∈ boolCells l, u.oneCell' = true := by
  intro u hu
  obtain ⟨t, _, rfl⟩ := List.mem_map.1 hu
  rfl
set_option maxRecDepth 100000 in
set_option maxHeartbeats 4000000 in
theorem dClone_any (h : DevIs w a D) (hN : D.M.length ≤ 1048576) (hs : 0 < D.slots.length ∧ D.slots.length ≤ 1048576) (hf : 0 < D.fuses.length ∧ D.fuses.length ≤ 1048576) :
    Calls Try.prog 26 #[.pointer (some ⟨a.d, 0, none⟩)] w fun e w' => ∃ c : DAt, e = .returned (.pointer (some ⟨c.d, 0, none⟩)) ∧ DevIs w' c D ∧ (w.heap.size ≤ c.d ∧ w.heap.size ≤ c.g ∧ w.heap.size ≤ c.sb ∧ w.heap.size ≤ c.fb) ∧ Below w.heap.size w w' := by
  obtain ⟨c0, c1, c2, c3, c4, c5, c6⟩ := IsDev.cells h
  have hk := Blk.new w 62 #[.slice (some ⟨a.sb, 0, none⟩) D.slots.length a.sc, .slice (some ⟨a.fb, 0, none⟩) D.fuses.length a.fc, .int .i64 D.counter, .int .i64 D.clock, .pointer (some ⟨a.b, 0, none⟩), .bool D.down, .int .i64 D.left]
  have hB1 : Below w.heap.size w (w.alloc (.cells #[.slice (some ⟨a.sb, 0, none⟩) D.slots.length a.sc, .slice (some ⟨a.fb, 0, none⟩) D.fuses.length a.fc, .int .i64 D.counter, .int .i64 D.clock, .pointer (some ⟨a.b, 0, none⟩), .bool D.down, .int .i64 D.left] 62)) := (Below.refl _ w).alloc (Nat.le_refl _) _
  have h1 := h.below hB1
  have HS := Lib.hid hs
  have HF := Lib.hid hf
  have HM := Lib.hid (Clone_any h1.mem hN)
  have HBB := Lib.hid hB1
  have H1 := Lib.hid h1
  have H := Lib.hid h
  have hlt := h.blk.lt
  clear h hN hs hf
  clear h1 hB1
  go_enter Try.func26, Try.ntmps26
  go_wp2_with (go_at_call 48; refine HM.out.mono ?_; rintro e w1 ⟨b', g', rfl, l1, l2, hM, hB⟩; have hk2 := hk.below hB hk.lt; have y4 := hk2.cell 4; have z4 := hk2.frozen 4)
  have hg := grown_set w1 w.heap.size 4 (.pointer (some ⟨b', 0, none⟩))
  have hk3 := hk2.set_ 4 (.pointer (some ⟨b', 0, none⟩))
  obtain ⟨cap', cur', hb1, hb2, _⟩ := hM.body
  have hM3 := hM.grown hg (fun e => by cases e; exact hb1.ne_ hk2 (by decide) rfl) (fun e => by cases e; exact hb2.ne_ hk2 (by decide) rfl)
  have hBx : Below w.heap.size w w1 := HBB.out.trans (hB.mono HBB.out.size)
  have hB3 : Below w.heap.size w (w1.setCell ⟨w.heap.size, 4, none⟩ (.pointer (some ⟨b', 0, none⟩))) := hBx.setCell (p := ⟨w.heap.size, 4, none⟩) (Nat.le_refl _) _
  generalize w1.setCell ⟨w.heap.size, 4, none⟩ (.pointer (some ⟨b', 0, none⟩)) = w2 at hk3 hM3 hB3 ⊢
  have h2 : DevIs w2.drew a D := H.out.below hB3.drew
  have HB3 := Lib.hid hB3.drew
  have H2 := Lib.hid h2
  have Hk3 := Lib.hid hk3.drew
  have HM3 := Lib.hid (hM3.below (Below.refl _ _).drew hM3.lt.1 hM3.lt.2)
  have v0 : w2.cell? ⟨a.d, 0, none⟩ = some (.slice (some ⟨a.sb, 0, none⟩) D.slots.length a.sc) := h2.blk.cell 0
  have v1 : w2.cell? ⟨a.d, 1, none⟩ = some (.slice (some ⟨a.fb, 0, none⟩) D.fuses.length a.fc) := h2.blk.cell 1
  have HcS := Lib.hid (slCloneS_any w2.drew D.slots.length a.sc a.sb (strCells D.slots) h2.srow (one_str _) HS.out.2 HS.out.1)
  have hlt2 := Lib.hid (h2.sizes)
  clear c0 c1 c2 c3 c4 c5 c6 hk hk2 y4 z4 hg hk3 hb1 hb2 hM hM3 hB hBx hB3 h2 l1 HM HBB H1 H
  have hne : w.heap.size ≠ a.d := by omega
  have hne2 : a.d ≠ w.heap.size := by omega
  clear hlt
  go_region_held3 (fun w' => w'.cell? ⟨a.d, 0, none⟩ = some (.slice (some ⟨a.sb, 0, none⟩) D.slots.length a.sc) ∧ w'.cell? ⟨a.d, 1, none⟩ = some (.slice (some ⟨a.fb, 0, none⟩) D.fuses.length a.fc)) (go_keep)
    (first
    | (go_at_call 49; refine HcS.out.mono ?_; rintro e w3 ⟨gs, cs, rfl, hrs, hB4⟩; have h3 := H2.out.below hB4; have i0 : w3.cell? ⟨a.d, 0, none⟩ = some (.slice (some ⟨a.sb, 0, none⟩) D.slots.length a.sc) := h3.blk.cell 0; have i1 : w3.cell? ⟨a.d, 1, none⟩ = some (.slice (some ⟨a.fb, 0, none⟩) D.fuses.length a.fc) := h3.blk.cell 1; have H3 := Lib.hid h3; have HcB := Lib.hid (slCloneB_any w3 D.fuses.length a.fc a.fb (boolCells D.fuses) h3.frow (one_bool _) HF.out.2 HF.out.1); have Hrs := Lib.hid hrs; have HB4 := Lib.hid hB4; clear h3 hrs hB4)
    | (go_at_call 50; refine HcB.out.mono ?_; rintro e w4 ⟨gf, cf, rfl, hrf, hB5⟩; have h4 := H3.out.below hB5; have j0 : w4.cell? ⟨a.d, 0, none⟩ = some (.slice (some ⟨a.sb, 0, none⟩) D.slots.length a.sc) := h4.blk.cell 0; have j1 : w4.cell? ⟨a.d, 1, none⟩ = some (.slice (some ⟨a.fb, 0, none⟩) D.fuses.length a.fc) := h4.blk.cell 1; have k4 := (Hk3.out.below HB4.out Hk3.out.lt).below hB5 (Hk3.out.below HB4.out Hk3.out.lt).lt; have m0 := k4.cell 0; have m1 := k4.cell 1; have f0 := k4.frozen 0; have f1 := k4.frozen 1; have Hrf := Lib.hid hrf; have HB5 := Lib.hid hB5; have K4 := Lib.hid k4; clear h4 hrf hB5 k4))
  go_wp2_with fail
  go_ret
  have hg := grown_trans (grown_set w4 w.heap.size 0 (.slice (some ⟨gs, 0, none⟩) D.slots.length cs)) (grown_set (w4.setCell ⟨w.heap.size, 0, none⟩ (.slice (some ⟨gs, 0, none⟩) D.slots.length cs)) w.heap.size 1 (.slice (some ⟨gf, 0, none⟩) D.fuses.length cf))
  have hk := (K4.out.set_ 0 (.slice (some ⟨gs, 0, none⟩) D.slots.length cs)).set_ 1 (.slice (some ⟨gf, 0, none⟩) D.fuses.length cf)
  have hm3 := HM3.out.below HB4.out HM3.out.lt.1 HM3.out.lt.2
  have hm4 := hm3.below HB5.out hm3.lt.1 hm3.lt.2
  obtain ⟨cap', cur', hb1, hb2, _⟩ := hm4.body
  have hm5 := hm4.grown hg (fun e => by cases e; exact hb1.ne_ K4.out (by decide) rfl) (fun e => by cases e; exact hb2.ne_ K4.out (by decide) rfl)
  have hs5 := ownsRow_below Hrs.out HB5.out (Nat.le_refl _)
  have hB4 : Below w.heap.size w w4 := (HB3.out.trans (HB4.out.mono HB3.out.size)).trans (HB5.out.mono (Nat.le_trans HB3.out.size HB4.out.size))
  have hB5 := (hB4.setCell (p := ⟨w.heap.size, 0, none⟩) (Nat.le_refl _) (.slice (some ⟨gs, 0, none⟩) D.slots.length cs)).setCell (p := ⟨w.heap.size, 1, none⟩) (Nat.le_refl _) (.slice (some ⟨gf, 0, none⟩) D.fuses.length cf)
  have l3 := (Hrs.out.lt gs rfl).1
  have l4 := (Hrf.out.lt gf rfl).1
  have z3 := HB3.out.size
  have z4 := HB4.out.size
  have l2' : w.heap.size ≤ g' := by simp at l2; omega
  refine ⟨⟨w.heap.size, b', g', gs, cs, gf, cf⟩, rfl, ⟨hk, hm5, ?_, ?_⟩, ⟨Nat.le_refl _, l2', by dsimp only; omega, by dsimp only; omega⟩, hB5⟩
  · exact (ownsRow_zero hs5).kept hg (.inr (own_blk_ne hs5 K4.out (by decide)))
  · exact (ownsRow_zero Hrf.out).kept hg (.inr (own_blk_ne Hrf.out K4.out (by decide)))
end
end Go.Proofs.Ytgenifcikfbfhaa
