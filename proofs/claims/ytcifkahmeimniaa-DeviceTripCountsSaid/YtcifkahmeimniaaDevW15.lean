/-
  Layer 23 (device): an empty slot; Battery.
-/
import Derived.Test.YtcifkahmeimniaaDevW14
namespace Go.Proofs.Ytcifkahmeimniaa
open Go.RowKit Go.Shelf
attribute [local go_sem] Oper.semAt_some

theorem rep32 (w : World) : Calls Try.prog 50 #[.string ⟨#[0]⟩, .int .i64 32] w fun e w' => e = .returned (.string zero32) ∧ Below w.heap.size w w' := by
  refine (Try.strings_Repeat ⟨#[0]⟩ 32 w (by omega) (by show 1 * 32 ≤ 140737488355328; omega)).mono ?_
  rintro e w' ⟨rfl, hB⟩
  refine ⟨?_, hB⟩
  have h : (⟨(Lib.repeatL (⟨#[0]⟩ : ByteArray).data.toList 32).toArray⟩ : ByteArray) = zero32 := by kernel_rfl
  rw [h]
set_option maxRecDepth 100000 in
set_option maxHeartbeats 1600000 in
theorem empty_any (w : World) : Calls Try.prog 52 #[] w fun e w' => e = .returned (.string zero32) ∧ Below w.heap.size w w' := by
  go_enter Try.func52, Try.ntmps52
  go_wp2_with (first | (go_at_call 50; refine (rep32 _).mono ?_; rintro e w1 ⟨rfl, hB1⟩))
  go_ret
  exact ⟨rfl, hB1⟩
/-- The slots behind k rounds of Battery. -/
def emptied (l : List ByteArray) (k : Nat) : List ByteArray := List.replicate k zero32 ++ l.drop k
theorem emptied_len (l : List ByteArray) (k : Nat) (h : k ≤ l.length) : (emptied l k).length = l.length := by simp [emptied]; omega
theorem emptied_set (l : List ByteArray) (k : Nat) (h : k < l.length) : (emptied l k).set k zero32 = emptied l (k + 1) := by
  unfold emptied
  rw [List.set_append_right _ _ (by simp), List.length_replicate, Nat.sub_self, List.drop_eq_getElem_cons h, List.set_cons_zero, List.replicate_succ', List.append_assoc]
  rfl
section
variable {w : World} {d b g sb sc fb fc : Nat} {D : Dev}
set_option maxRecDepth 100000 in
set_option maxHeartbeats 1600000 in
theorem dBattery_any (h : IsDev w d b g sb sc fb fc D) (hN : D.slots.length ≤ 1048576) :
    Calls Try.prog 32 #[.pointer (some ⟨d, 0, none⟩)] w fun e w' => e = .returned (.tuple #[]) ∧ IsDev w' d b g sb sc fb fc { D with slots := List.replicate D.slots.length zero32 } ∧ DFr w w' d g sb fb := by
  obtain ⟨c0, c1, c2, c3, c4, c5, c6⟩ := h.cells
  have H := Lib.hid h
  obtain ⟨N, hNN⟩ : ∃ N, D.slots.length = N := ⟨_, rfl⟩
  rw [hNN] at c0 hN
  have HN := Lib.hid hNN
  clear h hNN
  go_enter Try.func32, Try.ntmps32
  go_wp2_with fail
  go_loopw [9] (fun i wr => ∃ k : Nat, k ≤ N ∧ i = .int .i64 k ∧ IsDev wr d b g sb sc fb fc { D with slots := emptied D.slots k } ∧ DFr w wr d g sb fb) (fun i _ => N - (intOf i).toNat)
  case atStart => exact ⟨0, Nat.zero_le _, rfl, H.out, DFr.refl _⟩
  case round =>
    obtain ⟨k, hk, rfl, hD, hF⟩ := hrel
    by_cases hkN : k < N
    · have hd : decide (k < N) = true := decide_eq_true hkN
      have hkl : k < D.slots.length := by have := HN.out; omega
      have hel : (emptied D.slots k).length = N := (emptied_len _ _ (by omega)).trans HN.out
      have HD := Lib.hid hD
      have HF := Lib.hid hF
      have hk0 : (0 : Int) ≤ (k : Int) := by omega
      have hk1 : (k : Int) < (N : Int) := by omega
      have hwk : wrap64 ((k : Int) + 1) = (k : Int) + 1 := by unfold wrap64; omega
      have y0 := hD.blk.cell 0
      dsimp only at y0
      rw [hel] at y0
      have hstep : Hid (∀ w1, Below wr.heap.size wr.drew w1 → w1.cell? ⟨d, 0, none⟩ = some (.slice (some ⟨sb, 0, none⟩) N sc) ∧ (∃ o, w1.cell? ⟨sb, k, none⟩ = some o) ∧ w1.frozen? ⟨sb, k, none⟩ = false ∧ (w1.setCell ⟨sb, k, none⟩ (.string zero32)).cell? ⟨d, 0, none⟩ = some (.slice (some ⟨sb, 0, none⟩) N sc) ∧
          IsDev (w1.setCell ⟨sb, k, none⟩ (.string zero32)) d b g sb sc fb fc { D with slots := emptied D.slots (k + 1) } ∧ DFr w (w1.setCell ⟨sb, k, none⟩ (.string zero32)) d g sb fb) := by
        intro w1 hB
        have hb : Below wr.heap.size wr w1 := (Below.refl _ wr).drew.trans hB
        have h1 := HD.out.below hb
        obtain ⟨s1, s2⟩ := h1.slotSet k zero32
        dsimp only at s1
        rw [emptied_set _ _ hkl] at s1
        have z0 := h1.blk.cell 0
        have z1 := s1.blk.cell 0
        dsimp only at z0 z1
        rw [hel] at z0
        rw [emptied_len _ _ (by omega), HN.out] at z1
        have zc : w1.cell? ⟨sb, k, none⟩ = some (.string ((emptied D.slots k).getD k ⟨#[]⟩)) := by
          have e1 := h1.srow.cellAt k (by dsimp only; rw [hel]; omega)
          have e2 : (emptied D.slots k)[k]? = some ((emptied D.slots k).getD k ⟨#[]⟩) := by
            rw [List.getD_eq_getElem?_getD, List.getElem?_eq_getElem (by omega)]
            rfl
          rw [e1]
          dsimp only
          unfold strCells
          rw [List.getElem?_map, e2]
          rfl
        exact ⟨z0, ⟨_, zc⟩, h1.srow.frozenAt k, z1, s1, DFr.trans (w' := wr) HF.out (DFr.trans (w' := w1) (DFr.ofBelow hb) (DFr.ofGrown s2 (.inr (.inr (.inl rfl)))))⟩
      have Hel := Lib.hid hel
      clear hD hF hel hkl
      go_wp2_with fail
      go_region_held3 (fun w' => w'.cell? ⟨d, 0, none⟩ = some (.slice (some ⟨sb, 0, none⟩) N sc)) (go_keep)
        (first | (go_at_call 52; refine (empty_any _).mono ?_; rintro e w1 ⟨rfl, hB1⟩; obtain ⟨a0, ⟨o1, a1⟩, a2, a3, hI, hFr⟩ := hstep.out _ hB1))
      go_wp2_with fail
      go_roundw
      case rel => exact ⟨k + 1, by omega, by go_num, hI, hFr⟩
      case measure => simp [intOf]; omega
    · have hd : decide (k < N) = false := decide_eq_false hkN
      have hkN2 : k = N := by omega
      go_wp2_with fail
      go_end0
      refine ⟨by simp, ?_, hF⟩
      have e : emptied D.slots k = List.replicate D.slots.length zero32 := by
        unfold emptied
        rw [hkN2, ← HN.out, List.drop_length, List.append_nil]
      rw [e] at hD
      exact hD
end
end Go.Proofs.Ytcifkahmeimniaa
