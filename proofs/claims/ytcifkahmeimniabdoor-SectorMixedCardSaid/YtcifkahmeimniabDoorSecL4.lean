/-
  Layer 24 (sector): SectorInjective, the walk.
-/
import Derived.Test.YtcifkahmeimniabDoorSecW13
namespace Go.Proofs.YtcifkahmeimniabDoor
open Go.RowKit Go.Shelf
attribute [local go_sem] Oper.semAt_some

theorem packE_ok {n : Int} {rec : ByteArray} {l : List ByteArray} (h : packE n rec = (l, 0)) : 1 ≤ n ∧ n ≤ mostN ∧ rec.size ≤ 8000 ∧ l = (List.range (countN rec.size)).map (secText n.toNat rec) := by
  unfold packE at h
  split at h
  · cases h
  · split at h
    · cases h
    · cases h
      exact ⟨by omega, by unfold mostN; omega, by omega, rfl⟩
theorem packE_list (n : Nat) (rec : ByteArray) : ((List.range (countN rec.size)).map (secText n rec)).map (fun s => s.data.toList) = packL n rec.data.toList := by
  have hl : rec.data.toList.length = rec.size := Array.length_toList
  rw [List.map_map]
  unfold packL
  rw [hl]
  apply List.map_congr_left
  intro i _
  exact secText_list n rec i
theorem inj_plain {a b : Int} {x y : ByteArray} {l m : List ByteArray} (h1 : packE a x = (l, 0)) (h2 : packE b y = (m, 0)) : l = m ↔ a = b ∧ x = y := by
  constructor
  · rintro rfl
    obtain ⟨a1, a2, a3, a4⟩ := packE_ok h1
    obtain ⟨b1, b2, b3, b4⟩ := packE_ok h2
    have hx : x.data.toList.length = x.size := Array.length_toList
    have hy : y.data.toList.length = y.size := Array.length_toList
    have e := packE_list b.toNat y
    rw [← b4, a4, packE_list] at e
    obtain ⟨p, q⟩ := pack_inj (by omega) (by omega) (by omega) (by omega) (by rw [hx]; exact a3) (by rw [hy]; exact b3) e
    refine ⟨by omega, ?_⟩
    apply ByteArray.ext
    exact Array.ext' q
  · rintro ⟨rfl, rfl⟩
    rw [h1] at h2
    cases h2
    rfl
section
variable {W : World}
set_option maxRecDepth 100000 in
set_option maxHeartbeats 4000000 in
theorem l24inj_any (a b : Int) (x y : ByteArray) :
    Calls Tryd.prog 6 #[.int .i64 a, .string x, .int .i64 b, .string y] W fun e w' => e = .returned (.bool true) ∧ Below W.heap.size W w' := by
  by_cases hs : (decide (8000 < (x.size : Int)) || decide (8000 < (y.size : Int))) = true
  · go_enter Tryd.func6, Tryd.ntmps6
    go_wp2_with (first | (go_at_call 9; refine (sanity_true _).mono ?_; rintro e w1 ⟨rfl, hB⟩))
    all_goals
      go_ret
      exact ⟨rfl, hB⟩
  simp only [Bool.or_eq_true, not_or, Bool.not_eq_true] at hs
  obtain ⟨d1, d2⟩ := hs
  have HP := fun w => Lib.hid (pack_any w a x)
  have HQ := fun w => Lib.hid (pack_any w b y)
  obtain ⟨L, hL⟩ : ∃ L, packE a x = L := ⟨_, rfl⟩
  obtain ⟨M, hM⟩ : ∃ M, packE b y = M := ⟨_, rfl⟩
  rw [hL] at HP
  rw [hM] at HQ
  obtain ⟨l, e⟩ := L
  obtain ⟨m, f⟩ := M
  dsimp only at HP HQ
  have fin : (e ≠ 0 ∨ e = 0 ∧ f ≠ 0) ∨ (e = 0 ∧ f = 0) := by
    by_cases he : e = 0
    · by_cases hf : f = 0
      · exact .inr ⟨he, hf⟩
      · exact .inl (.inr ⟨he, hf⟩)
    · exact .inl (.inl he)
  rcases fin with (he | ⟨rfl, hf⟩) | ⟨rfl, rfl⟩
  · have he1 := bne_t he
    clear hL hM he
    go_enter Tryd.func6, Tryd.ntmps6
    go_wp2_with (first
      | (go_at_call 10; refine (HP _).out.mono ?_; rintro e w1 ⟨v1, rfl, hT1⟩; have hB1 := hT1.2.2; clear HP)
      | (go_at_call 10; refine (HQ _).out.mono ?_; rintro e w2 ⟨v2, rfl, hT2⟩; have hB2 := hT2.2.2)
      | (go_at_call 9; refine (sanity_true _).mono ?_; rintro e w3 ⟨rfl, hB⟩))
    go_ret
    exact ⟨rfl, bel_trans hB1 (bel_trans hB2 hB)⟩
  · have hf1 := bne_t hf
    clear hL hM hf
    go_enter Tryd.func6, Tryd.ntmps6
    go_wp2_with (first
      | (go_at_call 10; refine (HP _).out.mono ?_; rintro e w1 ⟨v1, rfl, hT1⟩; have hB1 := hT1.2.2; clear HP)
      | (go_at_call 10; refine (HQ _).out.mono ?_; rintro e w2 ⟨v2, rfl, hT2⟩; have hB2 := hT2.2.2)
      | (go_at_call 9; refine (sanity_true _).mono ?_; rintro e w3 ⟨rfl, hB⟩))
    go_ret
    exact ⟨rfl, bel_trans hB1 (bel_trans hB2 hB)⟩
  have hI := inj_plain hL hM
  obtain ⟨D, hD⟩ : ∃ D, decide (l = m) = D := ⟨_, rfl⟩
  have hD2 : D = decide (a = b ∧ x = y) := by
    rw [← hD]
    by_cases h : l = m
    · rw [decide_eq_true h, decide_eq_true (hI.1 h)]
    · rw [decide_eq_false h, decide_eq_false (fun h2 => h (hI.2 h2))]
  have HD := Lib.hid hD2
  have HS := fun (w : World) (v u : Value) (hv : StrsAt w v l) (hu : StrsAt w u m) => Lib.hid (Same_any hv hu)
  rw [hD] at HS
  clear hI hL hM hD hD2
  go_enter Tryd.func6, Tryd.ntmps6
  go_wp2_with (first
    | (go_at_call 10; refine (HP _).out.mono ?_; rintro e w1 ⟨v1, rfl, hT1⟩; have hB1 := hT1.2.2; have hS1 := strsAt_of_row hT1.1; clear hT1 HP)
    | (go_at_call 10; refine (HQ _).out.mono ?_; rintro e w2 ⟨v2, rfl, hT2⟩; have hB2 := hT2.2.2; have hS2 := strsAt_of_row hT2.1; clear hT2)
    | (go_at_call 9; refine (sanity_true _).mono ?_; rintro e w3 ⟨rfl, hB3⟩; have hS23 := hS2.below hB3 (Nat.le_refl _); have hS13 := (hS1.below hB2 (Nat.le_refl _)).below hB3 (Nat.le_refl _))
    | (go_at_call 16; refine (HS _ _ _ hS13 hS23).out.mono ?_; rintro e w4 ⟨rfl, q, rfl⟩))
  · go_ret
    refine ⟨?_, below_drewN (bel_trans hB1 (bel_trans hB2 hB3)) q⟩
    have hd := HD.out
    have e : D = (x.toList == y.toList) := by
      have hab : a = b := by assumption
      rw [hd, toList_data, toList_data]
      by_cases h : x = y
      · subst h; simp [hab]
      · have : ¬ x.data = y.data := fun h2 => h (ByteArray.ext h2)
        simp [h, this]
    rw [e]
    simp
  · go_ret
    refine ⟨?_, below_drewN (bel_trans hB1 (bel_trans hB2 hB3)) q⟩
    have hd := HD.out
    have hne : ¬ a = b := by assumption
    rw [hd]
    simp [hne]
end
end Go.Proofs.YtcifkahmeimniabDoor
