/-
  Layer 22 (memory): Clone.
-/
import Derived.Test.YtgenifcikfbfhaaMemW8
namespace Go.Proofs.Ytgenifcikfbfhaa
open Go.RowKit Go.Shelf
attribute [local go_sem] Oper.semAt_some

theorem infoSec : (Try.prog.info? 84).map (fun i => (i.zero, i.size, i.bytes)) = some (some (.agg #[.string ⟨#[]⟩, .string ⟨#[]⟩, .string ⟨#[]⟩, .bool false, .bool false]), 5, 56) := by kernel_rfl

section
variable {tM tS : TypeId} {w w' : World} {b g : Nat} {M : List Sec}
theorem IsMem.row (h : IsMem tM tS w b g M) : ∃ cap, w.cell? ⟨b, 0, none⟩ = some (.slice (some ⟨g, 0, none⟩) M.length cap) ∧ cap ≤ maxLen ∧ M.length ≤ cap ∧ w.ownsRow 0 tS 5 (.slice (some ⟨g, 0, none⟩) M.length cap) M.length (memCells M) := by
  obtain ⟨cap, cur, h1, h2, h3, h4, h5, h6⟩ := h.body
  exact ⟨cap, by rw [h1.cell]; rfl, h4, h3, memCells_len M, .inr ⟨g, cap, cur, rfl, Nat.zero_le _, h2, h3, h4, h5, h6⟩⟩
/-- A struct over a fresh row of sectors. -/
theorem isMem_of_row {base : Nat} {v : Value} (hp : 0 < M.length) (hv : w.ownsRow base tS 5 v M.length (memCells M)) (hb : Blk w b tM #[v]) (ht : tM ≠ tS) : ∃ g, base ≤ g ∧ IsMem tM tS w b g M := by
  rcases hv.2 with ⟨_, h0⟩ | ⟨g, cap, cur, rfl, h1, h2, h3, h4, h5, h6⟩
  · omega
  · exact ⟨g, h1, hb.ne_ h2 ht, hp, cap, cur, hb, h2, h3, h4, h5, h6⟩
end

section
variable {w : World} {b g : Nat} {M : List Sec}
theorem secCells_one (s : Sec) : ∀ u ∈ secCells s, u.oneCell' = true := by
  intro u hu
  simp [secCells] at hu
  rcases hu with rfl | rfl | rfl | rfl | rfl <;> rfl
theorem memCells_one (M : List Sec) : ∀ u ∈ memCells M, u.oneCell' = true := by
  intro u hu
  simp only [memCells, List.mem_flatMap] at hu
  obtain ⟨s, _, hs⟩ := hu
  exact secCells_one s u hs

set_option maxHeartbeats 4000000 in
set_option maxRecDepth 100000 in
theorem slClone_any (w : World) (n cap gb : Nat) (xs : List Value) (h : w.ownsRow 0 84 5 (.slice (some ⟨gb, 0, none⟩) n cap) n xs) (h1 : ∀ u ∈ xs, u.oneCell' = true) (hN : n ≤ 1048576) (hn0 : 0 < n) :
    Calls Try.prog 71 #[.slice (some ⟨gb, 0, none⟩) n cap] w fun e w' => ∃ g' cap', e = .returned (.slice (some ⟨g', 0, none⟩) n cap') ∧ w'.ownsRow w.heap.size 84 5 (.slice (some ⟨g', 0, none⟩) n cap') n xs ∧ Below w.heap.size w w' := by
  obtain ⟨i0, hi, hz0, hz1, hz2⟩ := info_parts infoSec
  have hle : Hid (0 + n ≤ maxLen) := by unfold Hid maxLen; omega
  have Hxs := Lib.hid h.1
  have H := Lib.hid h
  have H1 := Lib.hid h1
  clear h h1
  have hnil : ∀ wx, (binOp .eql 80 (.slice (some ⟨gb, 0, none⟩) n cap) (.slice none 0 0)).run Try.prog wx = .ok (.bool false) wx := fun wx => by
    have := Lib.run_eql_slice_nil (P := Try.prog) wx 80 84 (some ⟨gb, 0, none⟩) n cap 0 0 Try.underlying80
    simpa using this
  go_enter Try.func71, Try.ntmps71
  go_wp2_with (at_builtin; refine wpList_append_own _ rfl _ _ 80 rfl w.heap.size 84 i0 _ 5 56 Try.underlying80 hi hz0 hz1 hz2 rfl (by decide) _ 0 [] rfl ?c0 ⟨gb, 0, none⟩ n cap xs rfl Hxs.out ?c1 H1.out hle.out ?c4 ?c5 ?_)
  case c0 => exact ⟨rfl, .inr ⟨w.heap.size, 0, #[], rfl, Nat.le_refl _, Blk.new w _ _, Nat.le_refl _, by unfold maxLen; omega, rfl, rfl⟩⟩
  case c1 =>
    intro j u hu
    have hj := (List.getElem?_eq_some_iff.1 hu).1
    rw [Hxs.out] at hj
    have := (H.out.alloc (.cells #[] 84)).cellAt j hj
    rw [hu] at this
    rw [← this]
    congr 1
    simp [Addr.add]
    intro e; exact e.symm
  case c4 => omega
  case c5 => simp
  intro v' w' hown hg _
  have hB : Below w.heap.size w w' := ((Below.refl _ w).alloc (Nat.le_refl _) _).grown hg (by simp) (fun k e => by cases e; exact Nat.le_refl _)
  have hown2 : w'.ownsRow w.heap.size 84 5 v' n xs := by simpa using hown
  obtain ⟨g', cap', rfl⟩ : ∃ g' cap', v' = .slice (some ⟨g', 0, none⟩) n cap' := by
    rcases hown2.2 with ⟨_, h0⟩ | ⟨g', cap', _, e, _⟩
    · omega
    · exact ⟨_, _, e⟩
  have Hown := Lib.hid hown2
  clear hg hown hown2
  go_wp2_with fail
  go_ret
  exact ⟨_, _, rfl, Hown.out, hB⟩

set_option maxHeartbeats 4000000 in
theorem Clone_any (h : PMem w b g M) (hN : M.length ≤ 1048576) :
    Calls Try.prog 48 #[.pointer (some ⟨b, 0, none⟩)] w fun e w' => ∃ b' g', e = .returned (.pointer (some ⟨b', 0, none⟩)) ∧ w.heap.size ≤ b' ∧ w.heap.size ≤ g' ∧ PMem w' b' g' M ∧ Below w.heap.size w w' := by
  obtain ⟨cap, hc, h1, h2, h3⟩ := h.row
  have hp := h.pos
  have HC := Lib.hid (slClone_any w M.length cap g (memCells M) h3 (memCells_one M) hN hp)
  clear h3
  go_enter Try.func48, Try.ntmps48
  go_wp2_with (go_at_call 71; refine HC.out.mono ?_; rintro e w' ⟨g', cap', rfl, hv, hB⟩)
  go_ret
  have hBs := hB.size
  obtain ⟨g2, hg2, hM2⟩ := isMem_of_row (tM := 82) hp (hv.alloc (.cells #[.slice (some ⟨g', 0, none⟩) M.length cap'] 82)) (Blk.new w' 82 #[.slice (some ⟨g', 0, none⟩) M.length cap']) (by decide)
  exact ⟨_, g2, rfl, hBs, hg2, hM2, hB.alloc (by omega) _⟩
end
end Go.Proofs.Ytgenifcikfbfhaa
