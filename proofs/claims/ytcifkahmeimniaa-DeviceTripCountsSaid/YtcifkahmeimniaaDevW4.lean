/-
  Layer 23 (device): what Write does in its step.
-/
import Derived.Test.YtcifkahmeimniaaDevW3
import Derived.Deep.RegionHeld3
namespace Go.Proofs.Ytcifkahmeimniaa
open Go.RowKit Go.Shelf
attribute [local go_sem] Oper.semAt_some

section
variable {w : World} {d b g sb sc fb fc : Nat} {D : Dev}
set_option maxRecDepth 100000 in
set_option maxHeartbeats 4000000 in
theorem write1_any (h : IsDev w d b g sb sc fb fc D) (bd bi bt : Nat) (i : Int) (t : ByteArray) (k1 : Blk w bd 27 #[.pointer (some ⟨d, 0, none⟩)]) (k2 : Blk w bi 3 #[.int .i64 i]) (k3 : Blk w bt 9 #[.string t]) :
    Calls Try.prog 53 #[.pointer (some ⟨bd, 0, none⟩), .pointer (some ⟨bi, 0, none⟩), .pointer (some ⟨bt, 0, none⟩)] w fun e w' => e = .returned (.tuple #[]) ∧
      IsDev w' d b g sb sc fb fc { D with M := if isAt D.M i ∧ t.size = 64 then upd (fun s => s.write t) D.M i else D.M } ∧ w.grownBy w' (some g) := by
  have c4 := h.blk.cell 4
  have h1 := k1.cell 0
  have h2 := k2.cell 0
  have h3 := k3.cell 0
  obtain ⟨cap, cur, _, hgb, _⟩ := h.mem.body
  have hK : Hid (∀ w', w.drew.grownBy w' (some g) → Blk w' bd 27 #[.pointer (some ⟨d, 0, none⟩)] ∧ Blk w' bi 3 #[.int .i64 i] ∧ Blk w' bt 9 #[.string t] ∧ w'.cell? ⟨d, 4, none⟩ = some (.pointer (some ⟨b, 0, none⟩))) := fun w' hg =>
    ⟨k1.drew.grown hg (fun e => k1.ne_ hgb (by decide) (by cases e; rfl)), k2.drew.grown hg (fun e => k2.ne_ hgb (by decide) (by cases e; rfl)), k3.drew.grown hg (fun e => k3.ne_ hgb (by decide) (by cases e; rfl)), (h.blk.drew.grown hg (fun e => h.blk.ne_ hgb (by decide) (by cases e; rfl))).cell 4⟩
  have H := Lib.hid (h.below (Below.refl _ w).drew)
  have HW := Lib.hid (write_any H.out.mem i t)
  have HG := Lib.hid (grown_drewN w 1 (some g))
  generalize (if isAt D.M i ∧ t.size = 64 then upd (fun s => s.write t) D.M i else D.M) = M2 at HW ⊢
  generalize errOf (isAt D.M i ∧ t.size = 64) = ev at HW
  clear h k1 k2 k3 hgb
  go_enter Try.func53, Try.ntmps53
  go_wp2_with fail
  go_region_held3 (fun w' => w'.cell? ⟨bd, 0, none⟩ = some (.pointer (some ⟨d, 0, none⟩)) ∧ w'.cell? ⟨bi, 0, none⟩ = some (.int .i64 i) ∧ w'.cell? ⟨bt, 0, none⟩ = some (.string t) ∧ w'.cell? ⟨d, 4, none⟩ = some (.pointer (some ⟨b, 0, none⟩))) (go_keep)
    (first
    | (go_at_call 54; refine HW.out.mono ?_; rintro e w' ⟨rfl, hM, hg⟩; obtain ⟨j1, j2, j3, j4⟩ := hK.out _ hg; have x1 := j1.cell 0; have x2 := j2.cell 0; have x3 := j3.cell 0))
  go_wp2_with fail
  go_end0
  exact ⟨by simp, H.out.turn hM hg, grown_trans HG.out hg⟩
end
end Go.Proofs.Ytcifkahmeimniaa
