/-
  Layer 24 (sector): SectorJoinMatchesSpec, the walk.
-/
import Derived.Test.YtcifkahmeimniabDoorSecW13
namespace Go.Proofs.YtcifkahmeimniabDoor
open Go.RowKit Go.Shelf
attribute [local go_sem] Oper.semAt_some
section
variable {W : World}
set_option maxRecDepth 100000 in
set_option maxHeartbeats 4000000 in
theorem l24join_any {v : Value} {l : List ByteArray} (h : StrsAt W v l) :
    Calls Tryd.prog 4 #[v] W fun e w' => e = .returned (.bool true) ∧ Below W.heap.size W w' := by
  have HF := Lib.hid (few_any h)
  cases hf : fewB l with
  | false =>
    rw [hf] at HF
    clear hf
    go_enter Tryd.func4, Tryd.ntmps4
    go_wp2_with (first
      | (go_at_call 17; refine HF.out.mono ?_; rintro e w0 ⟨rfl, rfl⟩)
      | (go_at_call 9; refine (sanity_true _).mono ?_; rintro e w1 ⟨rfl, hB⟩))
    go_ret
    exact ⟨rfl, hB⟩
  | true =>
    rw [hf] at HF
    have HJ := Lib.hid (Join_any h)
    have HK := fun (w : World) (hw : StrsAt w v l) => Lib.hid (rJoin_any hw)
    have HS := Lib.hid h
    generalize joinE l = J at HJ HK
    obtain ⟨jn, jt, ju, je⟩ := J
    unfold joinV at HJ
    unfold joinA at HK
    dsimp only at HJ HK
    clear hf h
    go_enter Tryd.func4, Tryd.ntmps4
    go_wp2_with (first
      | (go_at_call 17; refine HF.out.mono ?_; rintro e w0 ⟨rfl, rfl⟩)
      | (go_at_call 18; refine HJ.out.mono ?_; rintro e w1 ⟨rfl, hB1⟩)
      | (go_at_call 19; refine (HK _ (HS.out.below hB1 (Nat.le_refl _))).out.mono ?_; rintro e w2 ⟨rfl, hB2⟩; have k2 := bel_trans hB1 hB2; have b2 := Blk.new w2 38 #[.int .i64 jn, .string ⟨jt.toArray⟩, .int .i64 ju, .int .i64 je])
      | (go_at_call 9; refine (sanity_true _).mono ?_; rintro e w3 ⟨rfl, hB3⟩; have b3 := b2.below hB3 b2.lt; have k3 := bel_trans (below_grow k2 (.cells #[.int .i64 jn, .string ⟨jt.toArray⟩, .int .i64 ju, .int .i64 je] 38)) hB3; have x0 := b3.cell 0; have x1 := b3.cell 1; have x2 := b3.cell 2; have x3 := b3.cell 3))
    go_ret
    exact ⟨rfl, k3⟩
end
end Go.Proofs.YtcifkahmeimniabDoor
