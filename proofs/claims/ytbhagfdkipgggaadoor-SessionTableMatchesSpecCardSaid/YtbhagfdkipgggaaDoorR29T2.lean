/-
  Layer 29 (session), the specification: Remove, Put.
-/
import Derived.Test.YtbhagfdkipgggaaDoorR29T1
import Derived.Test.YtbhagfdkipgggaaDoorMQ
import Derived.Test.YtbhagfdkipgggaaDoorRowG
namespace Go.Proofs.YtbhagfdkipgggaaDoor
open Go.RowKit Go.Shelf
attribute [local go_sem] Oper.semAt_some
/-- The beginning of a table. -/
theorem tab_to (A : Option Addr) (n c k : Nat) (hk : k ≤ c) (w : World) : (Instr.slice 55 (.slice A n c) none (some (.int .i64 (k : Int))) none).run Tryd.prog w = .ok (.slice A k c) w := by
  have e0 : ∀ a : Addr, a.add 0 = a := fun a => rfl
  have e1 : (fun x : Addr => x) = id := rfl
  simp [go_sem, hk, e0, e1]
/-- The rest of a table. -/
theorem tab_from (A : Option Addr) (n c k : Nat) (hk : k ≤ n) (hn : n ≤ c) (w : World) : (Instr.slice 55 (.slice A n c) (some (.int .i64 (k : Int))) none none).run Tryd.prog w = .ok (.slice (if c = k then A else A.map (·.add (k * 7))) (n - k) (c - k)) w := by
  have e2 : k ≤ c := by omega
  simp [go_sem, hk]
theorem tab_cell (L : List Ses) {w : World} {A : Option Addr} {c : Nat} (h : TabAt w (.slice A L.length c) L) : ∀ ad, A = some ad → ∀ j u, (tabC L)[j]? = some u → w.cell? (ad.add j) = some u := by
  intro ad e j u hj
  have hl := (List.getElem?_eq_some_iff.1 hj).1
  rw [tabC_len] at hl
  obtain ⟨A2, c2, e2, _, _, h4⟩ := h
  cases e2
  obtain ⟨b, o, e3, _, h5⟩ := h4 (by omega)
  rw [e3] at e
  cases e
  rw [Addr.add_lit]
  exact h5 j u hj
theorem tab_take_cell (L : List Ses) (k : Nat) {w : World} {A : Option Addr} {c : Nat} (h : TabAt w (.slice A L.length c) L) : ∀ ad, A = some ad → ∀ j u, (tabC (L.take k))[j]? = some u → w.cell? (ad.add j) = some u := by
  intro ad e j u hj
  refine tab_cell L h ad e j u ?_
  rw [tabC_take, List.getElem?_take] at hj
  split at hj
  · exact hj
  · cases hj
theorem tab_drop_cell (L : List Ses) (k : Nat) {w : World} {A : Option Addr} {c : Nat} (hc : L.length ≤ c) (h : TabAt w (.slice A L.length c) L) : ∀ ad, (if c = k then A else A.map (·.add (k * 7))) = some ad → ∀ j u, (tabC (L.drop k))[j]? = some u → w.cell? (ad.add j) = some u := by
  intro ad e j u hj
  have hl := (List.getElem?_eq_some_iff.1 hj).1
  rw [tabC_len, List.length_drop] at hl
  rw [if_neg (by omega)] at e
  obtain ⟨a0, ha0, rfl⟩ := Option.map_eq_some_iff.1 e
  rw [tabC_drop, List.getElem?_drop] at hj
  have := tab_cell L h a0 ha0 (k * 7 + j) u hj
  rw [Addr.add_add]
  exact this
theorem tab_none {L : List Ses} {w : World} {A : Option Addr} {c : Nat} (h : TabAt w (.slice A L.length c) L) : A = none → L.length = 0 := by
  intro e
  obtain ⟨A2, c2, e2, _, _, h4⟩ := h
  cases e2
  rcases Nat.eq_zero_or_pos L.length with h0 | h0
  · exact h0
  · obtain ⟨b, o, e3, _⟩ := h4 h0
    rw [e3] at e
    cases e
set_option maxRecDepth 100000 in
set_option maxHeartbeats 4000000 in
theorem rremove_any (w : World) (v : Value) (L : List Ses) (id : Int) (hT : TabAt w v L) (hN : L.length ≤ 1000) :
    Calls Tryd.prog 32 #[v, .int .i64 id] w fun e w' => ∃ v', e = .returned (.tuple #[v', .int .i64 ((removeP L id).2 : Nat)]) ∧ w'.ownsRow w.heap.size 32 7 v' (removeP L id).1.length (tabC (removeP L id).1) ∧ Below w.heap.size w w' := by
  have HPL : Hid (∀ wx, Below w.heap.size w wx → Calls Tryd.prog 55 #[v, .int .i64 id] wx fun e w' => e = .returned (.int .i64 (idxI (hasId id) L)) ∧ Below wx.heap.size wx w') := fun wx hB => rplace_any wx v L id (hT.below hB (Nat.le_refl _))
  obtain ⟨A, c, rfl, hlc, hcm, h4⟩ := hT
  have HT : Hid (TabAt w (.slice A L.length c) L) := ⟨A, c, rfl, hlc, hcm, h4⟩
  have HL := Lib.hid hlc
  clear h4 hcm
  have HB0 := Lib.hid (Below.refl w.heap.size w)
  rcases idx_cases (hasId id) L with ⟨hf, hi⟩ | ⟨k, x, hf, hi, hk, _⟩
  · have hJ : removeP L id = ([], 11) := by unfold removeP; rw [hf]
    rw [hJ]
    rw [hi] at HPL
    clear hJ hf hi HT hlc
    go_enter Tryd.func32, Tryd.ntmps32
    go_wp2_with (first | (go_at_call 55; refine ((HPL.out _ HB0.out).mono ?_); rintro e w1 ⟨rfl, hB⟩; have HB1 := Lib.hid hB; clear hB) | fail)
    go_ret2
    exact ⟨_, rfl, World.ownsRow_nil _ _ _ _, HB1.out⟩
  · have hkl := (List.getElem?_eq_some_iff.1 hk).1
    have hJ : removeP L id = (L.take k ++ L.drop (k + 1), 0) := by unfold removeP; rw [hf]
    rw [hJ]
    dsimp only
    rw [hi] at HPL
    have q0 : decide ((k : Int) < 0) = false := decide_eq_false (by omega)
    have r1 := fun wx => tab_to A L.length c k (by omega) wx
    have w9 : wrap64 ((k : Int) + 1) = (k : Int) + 1 := by rw [wrap64]; omega
    obtain ⟨A2, hA2⟩ : ∃ A2, (if c = k + 1 then A else A.map (·.add ((k + 1) * 7))) = A2 := ⟨_, rfl⟩
    have r2 : ∀ wx, (Instr.slice 55 (.slice A L.length c) (some (.int .i64 ((k : Int) + 1))) none none).run Tryd.prog wx = .ok (.slice A2 (L.length - (k + 1)) (c - (k + 1))) wx := fun wx => by
      have h := tab_from A L.length c (k + 1) hkl hlc wx
      rw [hA2, Int.natCast_add] at h
      exact h
    have HD : Hid (∀ wx, TabAt wx (.slice A L.length c) L → ∀ ad, A2 = some ad → ∀ j u, (tabC (L.drop (k + 1)))[j]? = some u → wx.cell? (ad.add j) = some u) := fun wx h ad e => tab_drop_cell L (k + 1) hlc h ad (hA2.trans e)
    have hl1 : Hid ((tabC (L.take k)).length = k * 7) := by unfold Hid; rw [tabC_len, List.length_take, Nat.min_eq_left (by omega)]
    have hl2 : Hid ((tabC (L.drop (k + 1))).length = (L.length - (k + 1)) * 7) := by unfold Hid; rw [tabC_len, List.length_drop]
    have hb1 : Hid (0 + k ≤ 1000000) := by unfold Hid; omega
    have hb2 : Hid (0 + k + (L.length - (k + 1)) ≤ 1000000) := by unfold Hid; omega
    have hlen : Hid ((L.take k ++ L.drop (k + 1)).length = 0 + k + (L.length - (k + 1))) := by unfold Hid; rw [List.length_append, List.length_take, List.length_drop, Nat.min_eq_left (by omega)]; omega
    have hA : Hid (A ≠ none) := fun e => by have := tab_none HT.out e; omega
    have hAA : Hid (A2 ≠ none) := fun e => by
      rw [← hA2] at e
      split at e
      · exact hA.out e
      · exact hA.out (Option.map_eq_none_iff.1 e)
    clear hA2
    clear hJ hf hi hk hkl hlc
    go_enter Tryd.func32, Tryd.ntmps32
    go_wp2_with (first
      | (refine wp_gcat_any 55 32 (.agg #[.int .i64 0, .int .i64 0, .int .i64 0, .string ⟨#[]⟩, .int .i64 0, .int .i64 0, .int .u64 0]) 7 64 Tryd.underlying55 infoSes3 rfl (by decide) (by decide) rfl _ _ rfl w.heap.size v1 _ _ rfl hP1.row A2 (L.length - (k + 1)) (c - (k + 1)) (tabC (L.drop (k + 1))) rfl hl2.out (fun e => absurd e hAA.out) (HD.out _ (HT.out.below (hP1.bel _ _ (Nat.le_refl _) HB1.out.size HB1.out) (Nat.le_refl _))) (tabC_one _) hb2.out (hP1.bel _ _ (Nat.le_refl _) HB1.out.size HB1.out).size ?_; intro v2 w3 hP2)
      | (refine wp_gcat_any 55 32 (.agg #[.int .i64 0, .int .i64 0, .int .i64 0, .string ⟨#[]⟩, .int .i64 0, .int .i64 0, .int .u64 0]) 7 64 Tryd.underlying55 infoSes3 rfl (by decide) (by decide) rfl _ _ rfl w.heap.size (.slice none 0 0) 0 [] rfl (World.ownsRow_nil _ _ _ _) A k c (tabC (L.take k)) rfl hl1.out (fun e => absurd e hA.out) (tab_take_cell L k (HT.out.below HB1.out (Nat.le_refl _))) (tabC_one _) hb1.out HB1.out.size ?_; intro v1 w2 hP1)
      | (go_at_call 55; refine ((HPL.out _ HB0.out).mono ?_); rintro e w1 ⟨rfl, hB⟩; have HB1 := Lib.hid hB; clear hB)
      | fail)
    try simp only [Act.put, List.setIfInBounds_toArray, List.set_cons_zero, List.set_cons_succ]
    go_wp2_with fail
    go_ret2
    refine ⟨_, rfl, ?_, hP2.bel _ _ (Nat.le_refl _) (hP1.bel _ _ (Nat.le_refl _) HB1.out.size HB1.out).size (hP1.bel _ _ (Nat.le_refl _) HB1.out.size HB1.out)⟩
    rw [hlen.out, tabC_app]
    exact hP2.row
end Go.Proofs.YtbhagfdkipgggaaDoor
