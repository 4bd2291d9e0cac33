/-
  Layer 24 (sector): SectorRoundTrip, the walk.
-/
import Derived.Test.YtcifkahmeimniabDoorSecW13
import Derived.Laws.OwnMore
namespace Go.Proofs.YtcifkahmeimniabDoor
open Go.RowKit Go.Shelf
attribute [local go_sem] Oper.semAt_some

theorem append_texts {w : World} {base : Nat} {v u : Value} {l m : List ByteArray} (hown : w.ownsRow base 9 1 v l.length (strCells l)) (hat : StrsAt w u m) (hl : l.length + m.length ≤ 1000) (hb : base ≤ w.heap.size) :
    ∃ v' w', (Builtin.append_ #[23, 23] 23 #[v, u]).run Tryd.prog w = .ok v' w' ∧ (w'.ownsRow base 9 1 v' (l ++ m).length (strCells (l ++ m)) ∧ Below base w w') := by
  obtain ⟨i0, hi, hz0, hz1, hz2⟩ := info_parts infoString
  obtain ⟨A, c, rfl, hc, hm, hcells⟩ := hat
  by_cases h0 : 0 < m.length
  · obtain ⟨b, o, rfl, hbl, hcell⟩ := hcells h0
    obtain ⟨v', w', hr, h2, h3, _⟩ := run_append_own (P := Tryd.prog) w base 23 23 9 i0 _ 1 16 Tryd.underlying23 hi hz0 hz1 hz2 rfl (by omega) v l.length (strCells l) hown ⟨b, o, none⟩ m.length c (strCells m) (by rw [strCells_len]; omega)
      (by
        intro j x hj
        unfold strCells at hj
        rw [List.getElem?_map] at hj
        cases ht : m[j]? with
        | none => rw [ht] at hj; cases hj
        | some t =>
          rw [ht] at hj
          cases hj
          rw [Addr.add_lit]
          exact hcell j t ht)
      (by
        intro x hx
        unfold strCells at hx
        obtain ⟨t, _, rfl⟩ := List.mem_map.1 hx
        rfl)
      (by unfold maxLen; omega) (by omega) hb
    refine ⟨v', w', hr, ?_, (Below.refl base w).grown h3 hb (fun g e => (hown.lt g e).1)⟩
    rw [List.length_append, show strCells (l ++ m) = strCells l ++ strCells m from by simp [strCells]]
    exact h2
  · have hm0 : m = [] := List.eq_nil_of_length_eq_zero (by omega)
    subst hm0
    rw [List.append_nil]
    refine ⟨v, w, ?_, hown, Below.refl _ _⟩
    rcases hown.2 with ⟨rfl, _⟩ | ⟨g, cap, cur, rfl, _, _, hnc, _⟩
    · cases A <;> simp [Builtin.append_, run_underlying Tryd.underlying23, sizeOf, typeInfo, hi, Builtin.lenOf, Builtin.firstCells, loadCells, loadCellsFrom]
    · cases A <;> simp [Builtin.append_, run_underlying Tryd.underlying23, sizeOf, typeInfo, hi, Builtin.lenOf, Builtin.firstCells, hnc, storeCells, loadCells, loadCellsFrom]
section
variable {W : World}
theorem round_plain {n : Int} {rec : ByteArray} {L : List ByteArray} {e : Int} (h : packE n rec = (L, e)) : e ≠ 0 ∧ L = [] ∧ (n < 1 ∨ 4611686018427387904 < n ∨ 8000 < rec.size) ∨
    e = 0 ∧ 0 < L.length ∧ L.length ≤ 182 ∧ L.length = countN rec.size ∧ rec.size ≤ 8000 ∧ ∀ more, joinE (L ++ more) = ⟨n.toNat, rec.data.toList, L.length, 0⟩ ∧ (n.toNat : Int) = n := by
  unfold packE at h
  split at h
  · rename_i hc
    cases h
    refine .inl ⟨by decide, rfl, ?_⟩
    rcases hc with h | h
    · exact .inl h
    · exact .inr (.inl h)
  · split at h
    · cases h
      exact .inl ⟨by decide, rfl, .inr (.inr (by assumption))⟩
    · rename_i h1 h2
      cases h
      have hl : rec.data.toList.length = rec.size := Array.length_toList
      have hp := count_pos rec.size
      have hc : countN rec.size ≤ 182 := by unfold countN; omega
      refine .inr ⟨rfl, by simp; omega, by simp; omega, by simp, by omega, fun more => ⟨?_, by omega⟩⟩
      unfold joinE
      have he : ((List.range (countN rec.size)).map (secText n.toNat rec) ++ more).map (fun s => s.data.toList) = packL n.toNat rec.data.toList ++ more.map (fun s => s.data.toList) := by
        rw [List.map_append, List.map_map]
        unfold packL
        rw [hl]
        congr 1
      rw [he, join_pack _ _ _ (by omega) (by unfold mostN; omega) (by rw [hl]; omega), hl]
      simp
set_option maxRecDepth 100000 in
set_option maxHeartbeats 4000000 in
theorem l24round_any (n : Int) (rec : ByteArray) {v : Value} {more : List ByteArray} (h : StrsAt W v more) :
    Calls Tryd.prog 5 #[.int .i64 n, .string rec, v] W fun e w' => e = .returned (.bool true) ∧ Below W.heap.size W w' := by
  have HF := Lib.hid (few_any h)
  cases hf : fewB more with
  | false =>
    rw [hf] at HF
    clear hf
    go_enter Tryd.func5, Tryd.ntmps5
    go_wp2_with (first
      | (go_at_call 17; refine HF.out.mono ?_; rintro e w0 ⟨rfl, rfl⟩)
      | (go_at_call 9; refine (sanity_true _).mono ?_; rintro e w1 ⟨rfl, hB⟩))
    go_ret
    exact ⟨rfl, hB⟩
  | true =>
    rw [hf] at HF
    have hfl : more.length ≤ 200 := by unfold fewB at hf; simp at hf; exact hf.1
    clear hf
    by_cases hs : 9000 < rec.size
    · have hd : decide (9000 < (rec.size : Int)) = true := decide_eq_true (by omega)
      go_enter Tryd.func5, Tryd.ntmps5
      go_wp2_with (first
        | (go_at_call 17; refine HF.out.mono ?_; rintro e w0 ⟨rfl, rfl⟩)
        | (go_at_call 9; refine (sanity_true _).mono ?_; rintro e w1 ⟨rfl, hB⟩))
      go_ret
      exact ⟨rfl, hB⟩
    · have hd : decide (9000 < (rec.size : Int)) = false := decide_eq_false (by omega)
      have HP := fun w => Lib.hid (pack_any w n rec)
      obtain ⟨L, hL⟩ : ∃ L, packE n rec = L := ⟨_, rfl⟩
      rw [hL] at HP
      obtain ⟨l, pe⟩ := L
      dsimp only at HP
      have HS := Lib.hid h
      clear h
      rcases round_plain hL with ⟨h0, rfl, hbad⟩ | ⟨rfl, hl0, hl1, hl2, hl3, hJ⟩
      · have he : (pe != 0) = true := bne_t h0
        have hall : ((decide (n < 1) || decide (4611686018427387904 < n)) || decide (8000 < (rec.size : Int))) = true := by
          rcases hbad with h | h | h
          · rw [decide_eq_true h]; rfl
          · rw [decide_eq_true h]; simp
          · rw [decide_eq_true (show 8000 < (rec.size : Int) by omega)]; simp
        clear hbad h0 hL
        go_enter Tryd.func5, Tryd.ntmps5
        go_wp2_with (first
          | (go_at_call 17; refine HF.out.mono ?_; rintro e w0 ⟨rfl, rfl⟩)
          | (go_at_call 10; refine (HP _).out.mono ?_; rintro e w1 ⟨v1, rfl, hT⟩; have hv := hT.2.1.2 rfl; subst hv; have hB1 := hT.2.2)
          | (go_at_call 9; refine (sanity_true _).mono ?_; rintro e w2 ⟨rfl, hB⟩))
        all_goals
          go_ret
          exact ⟨rfl, bel_trans hB1 hB⟩
      · have HJ : ∀ w v, StrsAt w v (l ++ more) → Hid (Calls Tryd.prog 18 #[v] w fun e2 w' => e2 = .returned (.tuple #[.int .i64 n, .string rec, .int .i64 l.length, .int .i64 0]) ∧ Below w.heap.size w w') := fun w v hw => by
          have := join_at hw (hJ more).1
          rw [(hJ more).2] at this
          exact Lib.hid this
        have HC := fun w => Lib.hid (count_nat rec.size hl3 w)
        rw [← hl2] at HC
        clear hJ hL hl2
        go_enter Tryd.func5, Tryd.ntmps5
        go_wp2_with (first
          | (go_at_call 17; refine HF.out.mono ?_; rintro e w0 ⟨rfl, rfl⟩)
          | (go_at_call 10; refine (HP _).out.mono ?_; rintro e w1 ⟨v1, rfl, hT⟩; have hS1 := strsAt_of_row hT.1; have hB1 := hT.2.2; obtain ⟨A1, c1, rfl⟩ := hS1.form; have hb1 := hB1.size; clear hT)
          | (at_builtin; refine wpList_append_some _ rfl _ _ 23 23 rfl _ _ rfl rfl _ (append_texts (l := []) (base := W.heap.size) (World.ownsRow_nil _ _ _ _) hS1 (by simp; omega) hb1) ?_; intro v2 w2 hh2; obtain ⟨hr2, hB2⟩ := hh2; have hb2 := Nat.le_trans hb1 hB2.size; have hv2 := HS.out.below (hB1.trans hB2) (Nat.le_refl _))
          | (at_builtin; refine wpList_append_some _ rfl _ _ 23 23 rfl _ _ rfl rfl _ (append_texts (l := l) (base := W.heap.size) hr2 hv2 (by omega) hb2) ?_; intro v3 w3 hh3; obtain ⟨hr3, hB3⟩ := hh3; have hB13 := hB1.trans (hB2.trans hB3))
          | (go_at_call 18; refine (HJ _ _ (strsAt_of_row hr3)).out.mono ?_; rintro e w4 ⟨rfl, hB4⟩)
          | (go_at_call 14; refine (HC _).out.mono ?_; rintro e w6 ⟨rfl, rfl⟩)
          | (go_at_call 9; refine (sanity_true _).mono ?_; rintro e w5 ⟨rfl, hB5⟩))
        go_ret
        exact ⟨rfl, bel_trans hB13 (bel_trans hB4 hB5)⟩
end
end Go.Proofs.YtcifkahmeimniabDoor
