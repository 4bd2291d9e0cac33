/-
  Layer 29 (session) in plain words: the table of sessions.
  Layer 29 (session): the table: slices.IndexFunc with the two closures of place and Put.
  Layer 29 (session): the table: place, Find, slices.Clone.
-/
import Derived.Test.YtbhagfdkipgggaaDoorMK
import Derived.Test.YtbhagfdkipgggaaDoorML
import Derived.Lib.LazyBuf
namespace Go.Proofs.YtbhagfdkipgggaaDoor
open Go.RowKit
/-- The place of the first session of a kind; -1 if there is none. -/
def idxI (p : Ses → Bool) (L : List Ses) : Int := match L.findIdx? p with | some i => (i : Int) | none => -1
theorem idxI_hit {p : Ses → Bool} {L : List Ses} {k : Nat} {s : Ses} (hk : L[k]? = some s) (hp : p s = true) (hn : ∀ i t, i < k → L[i]? = some t → p t = false) : idxI p L = k := by
  obtain ⟨hl, he⟩ := List.getElem?_eq_some_iff.1 hk
  have : L.findIdx? p = some k := List.findIdx?_eq_some_iff_getElem.2 ⟨hl, by rw [he]; exact hp, fun j hj => by
    have := hn j L[j] hj (List.getElem?_eq_getElem (by omega))
    rw [this]
    decide⟩
  unfold idxI
  rw [this]
theorem idxI_none {p : Ses → Bool} {L : List Ses} (hn : ∀ (i : Nat) t, L[i]? = some t → p t = false) : idxI p L = -1 := by
  have : L.findIdx? p = none := List.findIdx?_eq_none_iff.2 fun t ht => by
    obtain ⟨i, hi⟩ := List.getElem?_of_mem ht
    exact hn i t hi
  unfold idxI
  rw [this]
/-- A place lies in the table. -/
theorem idxI_cases (p : Ses → Bool) (L : List Ses) : (idxI p L = -1 ∧ ∀ t ∈ L, p t = false) ∨ ∃ (k : Nat) (s : Ses), idxI p L = k ∧ L[k]? = some s ∧ p s = true ∧ ∀ i t, i < k → L[i]? = some t → p t = false := by
  unfold idxI
  cases h : L.findIdx? p with
  | none => exact .inl ⟨rfl, fun t ht => by simpa using List.findIdx?_eq_none_iff.1 h t ht⟩
  | some i =>
    obtain ⟨hi, hp, hn⟩ := List.findIdx?_eq_some_iff_getElem.1 h
    refine .inr ⟨i, L[i], rfl, List.getElem?_eq_getElem hi, hp, fun j t hj ht => ?_⟩
    obtain ⟨_, rfl⟩ := List.getElem?_eq_some_iff.1 ht
    simpa using hn j hj
def hasId (id : Int) (s : Ses) : Bool := decide (s.id = id)
def overId (id : Int) (s : Ses) : Bool := decide (id < s.id)
/-- Find. -/
def findP (L : List Ses) (id : Int) : Ses × Nat := match L.findIdx? (hasId id) with | some i => (L.getD i noSes, 0) | none => (noSes, 11)
/-- Where a session that is new belongs. -/
def spotP (L : List Ses) (id : Int) : Nat := match L.findIdx? (overId id) with | some i => i | none => L.length
theorem spotP_le (L : List Ses) (id : Int) : spotP L id ≤ L.length := by
  unfold spotP
  cases h : L.findIdx? (overId id) with
  | none => exact Nat.le_refl _
  | some i => exact Nat.le_of_lt (List.findIdx?_eq_some_iff_getElem.1 h).1
/-- Put. -/
def putP (L : List Ses) (s : Ses) : List Ses × Nat :=
  if validP s then
    match L.findIdx? (hasId s.id) with
    | some i => (L.set i s, 0)
    | none => if 64 ≤ L.length then ([], 15) else (L.take (spotP L s.id) ++ s :: L.drop (spotP L s.id), 0)
  else ([], 1)
/-- Remove. -/
def removeP (L : List Ses) (id : Int) : List Ses × Nat := match L.findIdx? (hasId id) with | some i => (L.take i ++ L.drop (i + 1), 0) | none => ([], 11)
/-- Free. -/
def freeP (L : List Ses) : Int × Nat := match (List.range 64).findIdx? (fun k : Nat => decide (idxI (hasId ((k : Int) + 1)) L < 0)) with | some k => ((k : Int) + 1, 0) | none => (0, 15)
def tabC (L : List Ses) : List Value := L.flatMap sesC
theorem tabC_cons (s : Ses) (r : List Ses) : tabC (s :: r) = sesC s ++ tabC r := by simp [tabC]
theorem tabC_app (a b : List Ses) : tabC (a ++ b) = tabC a ++ tabC b := by simp [tabC]
theorem sesC_seven (s : Ses) : (sesC s).length = 7 := rfl
theorem tabC_len : ∀ L : List Ses, (tabC L).length = L.length * 7
  | [] => rfl
  | s :: r => by rw [tabC_cons, List.length_append, sesC_seven, tabC_len r, List.length_cons]; omega
theorem tabC_at : ∀ (L : List Ses) (i j : Nat) (s : Ses), L[i]? = some s → j < 7 → (tabC L)[i * 7 + j]? = (sesC s)[j]?
  | a :: r, 0, j, s, h, hj => by
    simp at h; subst h
    rw [tabC_cons, Nat.zero_mul, Nat.zero_add, List.getElem?_append_left (by rw [sesC_seven]; exact hj)]
  | a :: r, i + 1, j, s, h, hj => by
    have ih := tabC_at r i j s (by simpa using h) hj
    rw [tabC_cons, List.getElem?_append_right (by rw [sesC_seven]; omega), sesC_seven, show (i + 1) * 7 + j - 7 = i * 7 + j by omega]
    exact ih
theorem tabC_one (L : List Ses) : ∀ u ∈ tabC L, u.oneCell' = true := by
  intro u hu
  simp only [tabC, List.mem_flatMap] at hu
  obtain ⟨s, _, hs⟩ := hu
  simp [sesC] at hs
  rcases hs with rfl | rfl | rfl | rfl | rfl | rfl | rfl <;> rfl
theorem tabC_take (L : List Ses) (n : Nat) : tabC (L.take n) = (tabC L).take (n * 7) := by
  induction L generalizing n with
  | nil => simp [tabC]
  | cons a r ih =>
    cases n with
    | zero => simp [tabC]
    | succ n =>
      have h7 := sesC_seven a
      rw [List.take_succ_cons, tabC_cons, ih, tabC_cons, List.take_append, h7, List.take_of_length_le (by omega : (sesC a).length ≤ (n + 1) * 7), show (n + 1) * 7 - 7 = n * 7 by omega]
theorem tabC_drop (L : List Ses) (n : Nat) : tabC (L.drop n) = (tabC L).drop (n * 7) := by
  induction L generalizing n with
  | nil => simp [tabC]
  | cons a r ih =>
    cases n with
    | zero => simp
    | succ n =>
      have h7 := sesC_seven a
      rw [List.drop_succ_cons, ih, tabC_cons, List.drop_append, h7, List.drop_of_length_le (by omega : (sesC a).length ≤ (n + 1) * 7), show (n + 1) * 7 - 7 = n * 7 by omega, List.nil_append]
/-- A table in memory, wherever it lies. -/
def TabAt (w : World) (v : Value) (L : List Ses) : Prop :=
  ∃ A c, v = .slice A L.length c ∧ L.length ≤ c ∧ c ≤ maxLen ∧ (0 < L.length → ∃ b o, A = some ⟨b, o, none⟩ ∧ b < w.heap.size ∧ ∀ j u, (tabC L)[j]? = some u → w.cell? ⟨b, o + j, none⟩ = some u)
theorem TabAt.below {w w' : World} {v : Value} {L : List Ses} {B : Nat} (h : TabAt w v L) (hB : Below B w w') (hw : w.heap.size ≤ B) : TabAt w' v L := by
  obtain ⟨A, c, h1, h2, h3, h4⟩ := h
  refine ⟨A, c, h1, h2, h3, fun h0 => ?_⟩
  obtain ⟨b, o, h5, h6, h7⟩ := h4 h0
  exact ⟨b, o, h5, Nat.lt_of_lt_of_le h6 hB.size, fun i t ht => (hB.cell (p := ⟨b, o + i, none⟩) (show b < B by omega)).trans (h7 i t ht)⟩
theorem TabAt.nil (w : World) : TabAt w (.slice none 0 0) [] := ⟨none, 0, rfl, Nat.le_refl _, Nat.zero_le _, fun h => absurd h (Nat.lt_irrefl 0)⟩
theorem tabAt_of_row {w : World} {base : Nat} {v : Value} {L : List Ses} {t : TypeId} (h : w.ownsRow base t 7 v L.length (tabC L)) : TabAt w v L := by
  rcases h.2 with ⟨rfl, h0⟩ | ⟨g, cap, cur, rfl, _, hg, hnc, hcm, hcs, ht⟩
  · exact ⟨none, 0, by rw [h0], by omega, Nat.zero_le _, fun h1 => by omega⟩
  · refine ⟨_, cap, rfl, hnc, hcm, fun _ => ⟨g, 0, rfl, Blk.lt hg, fun i t hi => ?_⟩⟩
    have := h.cells (g := g) rfl i t hi
    rw [Nat.zero_add]
    rw [Addr.add_lit, Nat.zero_add] at this
    exact this
/-- The cells of a session that lies in a table. -/
theorem tab_cells {w : World} {b o : Nat} {L : List Ses} (h : ∀ j u, (tabC L)[j]? = some u → w.cell? ⟨b, o + j, none⟩ = some u) {i : Nat} {s : Ses} (hs : L[i]? = some s) :
    w.cell? ⟨b, o + i * 7, none⟩ = some (.int .i64 s.id) ∧ w.cell? ⟨b, o + i * 7 + 1, none⟩ = some (.int .i64 s.role) ∧ w.cell? ⟨b, o + i * 7 + 2, none⟩ = some (.int .i64 s.side) ∧ w.cell? ⟨b, o + i * 7 + 3, none⟩ = some (.string s.key) ∧
    w.cell? ⟨b, o + i * 7 + 4, none⟩ = some (.int .i64 s.sent) ∧ w.cell? ⟨b, o + i * 7 + 5, none⟩ = some (.int .i64 s.top) ∧ w.cell? ⟨b, o + i * 7 + 6, none⟩ = some (.int .u64 (s.seen : Int)) := by
  have key : ∀ j u, j < 7 → (sesC s)[j]? = some u → w.cell? ⟨b, o + i * 7 + j, none⟩ = some u := fun j u hj hu => by
    have := h (i * 7 + j) u (by rw [tabC_at L i j s hs hj]; exact hu)
    rw [Nat.add_assoc]
    exact this
  exact ⟨key 0 _ (by decide) rfl, key 1 _ (by decide) rfl, key 2 _ (by decide) rfl, key 3 _ (by decide) rfl, key 4 _ (by decide) rfl, key 5 _ (by decide) rfl, key 6 _ (by decide) rfl⟩
end Go.Proofs.YtbhagfdkipgggaaDoor
namespace Go.Proofs.YtbhagfdkipgggaaDoor
open Go.RowKit Go.Shelf
attribute [local go_sem] Oper.semAt_some
theorem place1_any (w : World) (s : Ses) (pb : Nat) (id : Int) (hp : w.cell? ⟨pb, 0, none⟩ = some (.int .i64 id)) (hb : pb < w.heap.size) :
    Calls Tryd.prog 78 #[sesV s, .pointer (some ⟨pb, 0, none⟩)] w fun e w' => e = .returned (.bool (hasId id s)) ∧ Below w.heap.size w w' := by
  have hB := Lib.hid ((Below.refl w.heap.size w).alloc (Nat.le_refl _) (.cells (sesC s).toArray 32))
  obtain ⟨sid, role, side, key, sent, top, seen⟩ := s
  unfold sesV
  unfold sesC at hB ⊢
  dsimp only at hB ⊢
  have hne : pb ≠ w.heap.size := by omega
  have hc := (hB.out.cell (p := ⟨pb, 0, none⟩) hb).trans hp
  have c0 := (Blk.new w 32 #[.int .i64 sid, .int .i64 role, .int .i64 side, .string key, .int .i64 sent, .int .i64 top, .int .u64 (seen : Int)]).cell 0
  clear hp
  go_enter Tryd.func78, Tryd.ntmps78
  go_wp2_with fail
  go_ret
  exact ⟨by unfold hasId; first | rfl | (congr 2), hB.out⟩
set_option maxHeartbeats 1600000 in
theorem idx_place1 (w : World) (v : Value) (L : List Ses) (h : TabAt w v L) (pb : Nat) (id : Int) (hp : w.cell? ⟨pb, 0, none⟩ = some (.int .i64 id)) (hb : pb < w.heap.size) :
    Calls Tryd.prog 57 #[v, .func (.func 78) #[] #[.pointer (some ⟨pb, 0, none⟩)]] w fun e w' => e = .returned (.int .i64 (idxI (hasId id) L)) ∧ Below w.heap.size w w' := by
  obtain ⟨A, c, rfl, hc1, hc2, hc3⟩ := h
  unfold maxLen at hc2
  have H3 := Lib.hid hc3
  clear hc3
  have HP : Hid (∀ wx s, Below w.heap.size w wx → Calls Tryd.prog 78 #[sesV s, .pointer (some ⟨pb, 0, none⟩)] wx fun e w' => e = .returned (.bool (hasId id s)) ∧ Below wx.heap.size wx w') := fun wx s hB => place1_any wx s pb id ((hB.cell (p := ⟨pb, 0, none⟩) hb).trans hp) (by have := hB.size; omega)
  clear hp
  go_enter Tryd.func57, Tryd.ntmps57
  go_wp2_with fail
  go_loopw [5, 8] (fun _ a wr => ∃ k : Nat, k ≤ L.length ∧ a = .int .i64 k ∧ Hid (Below w.heap.size w wr) ∧ Hid (∀ (i : Nat) (t : Ses), i < k → L[i]? = some t → hasId id t = false)) (fun _ a _ => L.length - (intOf a).toNat)
  case atStart => exact ⟨0, Nat.zero_le _, rfl, Below.refl _ _, fun i t hi => absurd hi (Nat.not_lt_zero i)⟩
  case round =>
    obtain ⟨k, hk, rfl, hB, hw⟩ := hrel
    by_cases hkl : k < L.length
    · obtain ⟨s, hs⟩ : ∃ s, L[k]? = some s := ⟨_, List.getElem?_eq_getElem hkl⟩
      obtain ⟨b, o, rfl, hbb, hcells⟩ := H3.out (by omega)
      obtain ⟨c0, c1, c2, c3, c4, c5, c6⟩ := tab_cells (w := wr) (b := b) (o := o) (L := L) (fun j u hj => (hB.out.cell (p := ⟨b, o + j, none⟩) hbb).trans (hcells j u hj)) hs
      have HC := Lib.hid (HP.out wr s hB.out)
      have Hs := Lib.hid hs
      have hw1 : hasId id s = false → Hid (∀ (i : Nat) (t : Ses), i < k + 1 → L[i]? = some t → hasId id t = false) := fun e i t hi ht => by
        by_cases h : i = k
        · subst h
          rw [hs] at ht
          cases ht
          exact e
        · exact hw.out i t (by omega) ht
      have hw2 : hasId id s = true → Hid (idxI (hasId id) L = k) := fun e => idxI_hit hs e hw.out
      clear hs hcells
      unfold sesV sesC at HC
      cases hq : hasId id s
      · rw [hq] at HC
        have hw3 := hw1 hq
        clear hq hw1 hw2
        go_wp2_with fail
        refine HC.out.mono ?_
        rintro e w' ⟨rfl, hB'⟩
        have HB2 := Lib.hid (hB.out.trans (hB'.mono hB.out.size))
        clear hB'
        go_wp2_with fail
        go_round
        case rel => exact ⟨k + 1, by omega, by go_num, HB2, hw3⟩
        case measure => simp [intOf]; omega
      · rw [hq] at HC
        have hw3 := hw2 hq
        clear hq hw1 hw2
        go_wp2_with fail
        refine HC.out.mono ?_
        rintro e w' ⟨rfl, hB'⟩
        have HB2 := Lib.hid (hB.out.trans (hB'.mono hB.out.size))
        clear hB'
        go_wp2_with fail
        go_ret
        exact ⟨by rw [hw3.out]; rfl, HB2.out⟩
    · obtain rfl : k = L.length := by omega
      have hw3 : Hid (idxI (hasId id) L = -1) := idxI_none fun i t hi => hw.out i t (List.getElem?_eq_some_iff.1 hi).1 hi
      go_wp2_with fail
      go_ret
      exact ⟨by rw [hw3.out]; rfl, hB.out⟩
theorem put1_any (w : World) (s : Ses) (pb : Nat) (id : Int) (hp : w.cell? ⟨pb, 0, none⟩ = some (.int .i64 id)) (hb : pb < w.heap.size) :
    Calls Tryd.prog 58 #[sesV s, .pointer (some ⟨pb, 0, none⟩)] w fun e w' => e = .returned (.bool (overId id s)) ∧ Below w.heap.size w w' := by
  have hB := Lib.hid ((Below.refl w.heap.size w).alloc (Nat.le_refl _) (.cells (sesC s).toArray 32))
  obtain ⟨sid, role, side, key, sent, top, seen⟩ := s
  unfold sesV
  unfold sesC at hB ⊢
  dsimp only at hB ⊢
  have hne : pb ≠ w.heap.size := by omega
  have hc := (hB.out.cell (p := ⟨pb, 0, none⟩) hb).trans hp
  have c0 := (Blk.new w 32 #[.int .i64 sid, .int .i64 role, .int .i64 side, .string key, .int .i64 sent, .int .i64 top, .int .u64 (seen : Int)]).cell 0
  clear hp
  go_enter Tryd.func58, Tryd.ntmps58
  go_wp2_with fail
  go_ret
  exact ⟨by unfold overId; first | rfl | (congr 2), hB.out⟩
set_option maxHeartbeats 1600000 in
theorem idx_put1 (w : World) (v : Value) (L : List Ses) (h : TabAt w v L) (pb : Nat) (id : Int) (hp : w.cell? ⟨pb, 0, none⟩ = some (.int .i64 id)) (hb : pb < w.heap.size) :
    Calls Tryd.prog 57 #[v, .func (.func 58) #[] #[.pointer (some ⟨pb, 0, none⟩)]] w fun e w' => e = .returned (.int .i64 (idxI (overId id) L)) ∧ Below w.heap.size w w' := by
  obtain ⟨A, c, rfl, hc1, hc2, hc3⟩ := h
  unfold maxLen at hc2
  have H3 := Lib.hid hc3
  clear hc3
  have HP : Hid (∀ wx s, Below w.heap.size w wx → Calls Tryd.prog 58 #[sesV s, .pointer (some ⟨pb, 0, none⟩)] wx fun e w' => e = .returned (.bool (overId id s)) ∧ Below wx.heap.size wx w') := fun wx s hB => put1_any wx s pb id ((hB.cell (p := ⟨pb, 0, none⟩) hb).trans hp) (by have := hB.size; omega)
  clear hp
  go_enter Tryd.func57, Tryd.ntmps57
  go_wp2_with fail
  go_loopw [5, 8] (fun _ a wr => ∃ k : Nat, k ≤ L.length ∧ a = .int .i64 k ∧ Hid (Below w.heap.size w wr) ∧ Hid (∀ (i : Nat) (t : Ses), i < k → L[i]? = some t → overId id t = false)) (fun _ a _ => L.length - (intOf a).toNat)
  case atStart => exact ⟨0, Nat.zero_le _, rfl, Below.refl _ _, fun i t hi => absurd hi (Nat.not_lt_zero i)⟩
  case round =>
    obtain ⟨k, hk, rfl, hB, hw⟩ := hrel
    by_cases hkl : k < L.length
    · obtain ⟨s, hs⟩ : ∃ s, L[k]? = some s := ⟨_, List.getElem?_eq_getElem hkl⟩
      obtain ⟨b, o, rfl, hbb, hcells⟩ := H3.out (by omega)
      obtain ⟨c0, c1, c2, c3, c4, c5, c6⟩ := tab_cells (w := wr) (b := b) (o := o) (L := L) (fun j u hj => (hB.out.cell (p := ⟨b, o + j, none⟩) hbb).trans (hcells j u hj)) hs
      have HC := Lib.hid (HP.out wr s hB.out)
      have Hs := Lib.hid hs
      have hw1 : overId id s = false → Hid (∀ (i : Nat) (t : Ses), i < k + 1 → L[i]? = some t → overId id t = false) := fun e i t hi ht => by
        by_cases h : i = k
        · subst h
          rw [hs] at ht
          cases ht
          exact e
        · exact hw.out i t (by omega) ht
      have hw2 : overId id s = true → Hid (idxI (overId id) L = k) := fun e => idxI_hit hs e hw.out
      clear hs hcells
      unfold sesV sesC at HC
      cases hq : overId id s
      · rw [hq] at HC
        have hw3 := hw1 hq
        clear hq hw1 hw2
        go_wp2_with fail
        refine HC.out.mono ?_
        rintro e w' ⟨rfl, hB'⟩
        have HB2 := Lib.hid (hB.out.trans (hB'.mono hB.out.size))
        clear hB'
        go_wp2_with fail
        go_round
        case rel => exact ⟨k + 1, by omega, by go_num, HB2, hw3⟩
        case measure => simp [intOf]; omega
      · rw [hq] at HC
        have hw3 := hw2 hq
        clear hq hw1 hw2
        go_wp2_with fail
        refine HC.out.mono ?_
        rintro e w' ⟨rfl, hB'⟩
        have HB2 := Lib.hid (hB.out.trans (hB'.mono hB.out.size))
        clear hB'
        go_wp2_with fail
        go_ret
        exact ⟨by rw [hw3.out]; rfl, HB2.out⟩
    · obtain rfl : k = L.length := by omega
      have hw3 : Hid (idxI (overId id) L = -1) := idxI_none fun i t hi => hw.out i t (List.getElem?_eq_some_iff.1 hi).1 hi
      go_wp2_with fail
      go_ret
      exact ⟨by rw [hw3.out]; rfl, hB.out⟩
end Go.Proofs.YtbhagfdkipgggaaDoor
namespace Go.Proofs.YtbhagfdkipgggaaDoor
open Go.RowKit Go.Shelf
attribute [local go_sem] Oper.semAt_some
theorem idx_cases (p : Ses → Bool) (L : List Ses) : (L.findIdx? p = none ∧ idxI p L = -1) ∨ ∃ (k : Nat) (s : Ses), L.findIdx? p = some k ∧ idxI p L = k ∧ L[k]? = some s ∧ p s = true := by
  unfold idxI
  cases h : L.findIdx? p with
  | none => exact .inl ⟨rfl, rfl⟩
  | some i =>
    obtain ⟨hi, hp, _⟩ := List.findIdx?_eq_some_iff_getElem.1 h
    exact .inr ⟨i, L[i], rfl, rfl, List.getElem?_eq_getElem hi, hp⟩
theorem place_any (w : World) (v : Value) (L : List Ses) (id : Int) (h : TabAt w v L) :
    Calls Tryd.prog 54 #[v, .int .i64 id] w fun e w' => e = .returned (.int .i64 (idxI (hasId id) L)) ∧ Below w.heap.size w w' := by
  have hB0 := (Below.refl w.heap.size w).alloc (Nat.le_refl _) (.cells #[.int .i64 id] 3)
  have HC := Lib.hid (idx_place1 (w.alloc (.cells #[.int .i64 id] 3)) v L (h.below hB0 (Nat.le_refl _)) w.heap.size id ((Blk.new w 3 #[.int .i64 id]).cell 0) (by rw [World.size_alloc]; exact Nat.lt_succ_self _))
  have HB0 := Lib.hid hB0
  obtain ⟨A, c, rfl, _, _, _⟩ := h
  clear hB0
  go_enter Tryd.func54, Tryd.ntmps54
  go_wp2_with (first | (go_at_call 57; refine HC.out.mono ?_; rintro e w1 ⟨rfl, hB⟩; have HB1 := Lib.hid (HB0.out.trans (hB.mono HB0.out.size)); clear hB) | fail)
  go_ret
  exact ⟨rfl, HB1.out⟩
set_option maxHeartbeats 1600000 in
theorem find_any (w : World) (v : Value) (L : List Ses) (id : Int) (h : TabAt w v L) :
    Calls Tryd.prog 27 #[v, .int .i64 id] w fun e w' => e = .returned (.tuple #[sesV (findP L id).1, .int .i64 ((findP L id).2 : Nat)]) ∧ Below w.heap.size w w' := by
  have hB0 := (Below.refl w.heap.size w).alloc (Nat.le_refl _) (.cells #[.int .i64 0, .int .i64 0, .int .i64 0, .string ⟨#[]⟩, .int .i64 0, .int .i64 0, .int .u64 0] 32)
  have hT := h.below hB0 (Nat.le_refl _)
  have HC := Lib.hid (place_any (w.alloc (.cells #[.int .i64 0, .int .i64 0, .int .i64 0, .string ⟨#[]⟩, .int .i64 0, .int .i64 0, .int .u64 0] 32)) v L id hT)
  have HB0 := Lib.hid hB0
  have HN := Lib.hid (Blk.new w 32 #[.int .i64 0, .int .i64 0, .int .i64 0, .string ⟨#[]⟩, .int .i64 0, .int .i64 0, .int .u64 0])
  obtain ⟨A, c, rfl, hc1, _, hc3⟩ := hT
  have H3 := Lib.hid hc3
  clear hc3 h hB0
  rcases idx_cases (hasId id) L with ⟨hf, hi⟩ | ⟨k, s, hf, hi, hk, _⟩
  · have hJ : findP L id = (noSes, 11) := by unfold findP; rw [hf]
    rw [hJ]
    rw [hi] at HC
    clear hJ hf hi H3
    go_enter Tryd.func27, Tryd.ntmps27
    go_wp2_with (first | (go_at_call 54; refine HC.out.mono ?_; rintro e w1 ⟨rfl, hB⟩; have HB1 := Lib.hid (HB0.out.trans (hB.mono HB0.out.size)); have HR := Lib.hid (HN.out.below hB (by rw [World.size_alloc]; exact Nat.lt_succ_self _)); clear hB; have z0 := HR.out.cell 0; have f0 := HR.out.frozen 0; have z1 := HR.out.cell 1; have f1 := HR.out.frozen 1; have z2 := HR.out.cell 2; have f2 := HR.out.frozen 2; have z3 := HR.out.cell 3; have f3 := HR.out.frozen 3; have z4 := HR.out.cell 4; have f4 := HR.out.frozen 4; have z5 := HR.out.cell 5; have f5 := HR.out.frozen 5; have z6 := HR.out.cell 6; have f6 := HR.out.frozen 6) | fail)
    have hL1 := blk7_same HR.out
    have hBL := Below.setCell (p := ⟨w.heap.size, 6, none⟩) (Below.setCell (p := ⟨w.heap.size, 5, none⟩) (Below.setCell (p := ⟨w.heap.size, 4, none⟩) (Below.setCell (p := ⟨w.heap.size, 3, none⟩) (Below.setCell (p := ⟨w.heap.size, 2, none⟩) (Below.setCell (p := ⟨w.heap.size, 1, none⟩) (Below.setCell (p := ⟨w.heap.size, 0, none⟩) (HB1.out) (Nat.le_refl _) (.int .i64 0)) (Nat.le_refl _) (.int .i64 0)) (Nat.le_refl _) (.int .i64 0)) (Nat.le_refl _) (.string ⟨#[]⟩)) (Nat.le_refl _) (.int .i64 0)) (Nat.le_refl _) (.int .i64 0)) (Nat.le_refl _) (.int .u64 0)
    exact bodyPost_ret (v := .tuple #[.agg zSes, .int .i64 11]) (results_ct (P := Tryd.prog) (p := 4) (q := 5) rfl _ _ w.heap.size 32 zSes _ rfl hL1 Tryd.underlying32 rfl infoSes) rfl ⟨rfl, hBL⟩
  · have hkl := (List.getElem?_eq_some_iff.1 hk).1
    have hJ : findP L id = (s, 0) := by
      unfold findP
      rw [hf]
      dsimp only
      rw [List.getD_eq_getElem?_getD, hk]
      rfl
    rw [hJ]
    rw [hi] at HC
    obtain ⟨b, o, rfl, hbb, hcells⟩ := H3.out (by omega)
    have hcc := Lib.hid (tab_cells (fun j u hj => hcells j u hj) hk)
    have hne : b < w.heap.size + 1 := by rw [World.size_alloc] at hbb; exact hbb
    have q1 : decide ((k : Int) < 0) = false := decide_eq_false (by omega)
    clear hJ hf hi hcells hk H3
    go_enter Tryd.func27, Tryd.ntmps27
    go_wp2_with (first | (go_at_call 54; refine HC.out.mono ?_; rintro e w1 ⟨rfl, hB⟩; have HB1 := Lib.hid (HB0.out.trans (hB.mono HB0.out.size)); have HR := Lib.hid (HN.out.below hB (by rw [World.size_alloc]; exact Nat.lt_succ_self _)); obtain ⟨c0, c1, c2, c3, c4, c5, c6⟩ := hcc.out; have d0 := (hB.cell (p := ⟨b, o + k * 7, none⟩) hbb).trans c0; have d1 := (hB.cell (p := ⟨b, o + k * 7 + 1, none⟩) hbb).trans c1; have d2 := (hB.cell (p := ⟨b, o + k * 7 + 2, none⟩) hbb).trans c2; have d3 := (hB.cell (p := ⟨b, o + k * 7 + 3, none⟩) hbb).trans c3; have d4 := (hB.cell (p := ⟨b, o + k * 7 + 4, none⟩) hbb).trans c4; have d5 := (hB.cell (p := ⟨b, o + k * 7 + 5, none⟩) hbb).trans c5; have d6 := (hB.cell (p := ⟨b, o + k * 7 + 6, none⟩) hbb).trans c6; clear hB c0 c1 c2 c3 c4 c5 c6; have z0 := HR.out.cell 0; have f0 := HR.out.frozen 0; have z1 := HR.out.cell 1; have f1 := HR.out.frozen 1; have z2 := HR.out.cell 2; have f2 := HR.out.frozen 2; have z3 := HR.out.cell 3; have f3 := HR.out.frozen 3; have z4 := HR.out.cell 4; have f4 := HR.out.frozen 4; have z5 := HR.out.cell 5; have f5 := HR.out.frozen 5; have z6 := HR.out.cell 6; have f6 := HR.out.frozen 6) | fail)
    have hL1 := blk7_put HR.out (.int .i64 s.id) (.int .i64 s.role) (.int .i64 s.side) (.string s.key) (.int .i64 s.sent) (.int .i64 s.top) (.int .u64 (s.seen : Int))
    have hBL := Below.setCell (p := ⟨w.heap.size, 6, none⟩) (Below.setCell (p := ⟨w.heap.size, 5, none⟩) (Below.setCell (p := ⟨w.heap.size, 4, none⟩) (Below.setCell (p := ⟨w.heap.size, 3, none⟩) (Below.setCell (p := ⟨w.heap.size, 2, none⟩) (Below.setCell (p := ⟨w.heap.size, 1, none⟩) (Below.setCell (p := ⟨w.heap.size, 0, none⟩) (HB1.out) (Nat.le_refl _) (.int .i64 s.id)) (Nat.le_refl _) (.int .i64 s.role)) (Nat.le_refl _) (.int .i64 s.side)) (Nat.le_refl _) (.string s.key)) (Nat.le_refl _) (.int .i64 s.sent)) (Nat.le_refl _) (.int .i64 s.top)) (Nat.le_refl _) (.int .u64 (s.seen : Int))
    exact bodyPost_ret (v := .tuple #[.agg #[.int .i64 s.id, .int .i64 s.role, .int .i64 s.side, .string s.key, .int .i64 s.sent, .int .i64 s.top, .int .u64 (s.seen : Int)], .int .i64 0]) (results_ct (P := Tryd.prog) (p := 4) (q := 5) rfl _ _ w.heap.size 32 #[.int .i64 s.id, .int .i64 s.role, .int .i64 s.side, .string s.key, .int .i64 s.sent, .int .i64 s.top, .int .u64 (s.seen : Int)] _ rfl hL1 Tryd.underlying32 rfl infoSes) rfl ⟨rfl, hBL⟩
theorem infoSes3 : (Tryd.prog.info? 32).map (fun i => (i.zero, i.size, i.bytes)) = some (some (.agg #[.int .i64 0, .int .i64 0, .int .i64 0, .string ⟨#[]⟩, .int .i64 0, .int .i64 0, .int .u64 0]), 7, 64) := by kernel_rfl
set_option maxHeartbeats 4000000 in
set_option maxRecDepth 100000 in
theorem clone_any (w : World) (v : Value) (L : List Ses) (h : TabAt w v L) (hN : L.length ≤ 1048576) :
    Calls Tryd.prog 56 #[v] w fun e w' => ∃ v', e = .returned v' ∧ w'.ownsRow w.heap.size 32 7 v' L.length (tabC L) ∧ Below w.heap.size w w' := by
  obtain ⟨i0, hi, hz0, hz1, hz2⟩ := info_parts infoSes3
  have hle : Hid (0 + L.length ≤ maxLen) := by unfold Hid maxLen; omega
  obtain ⟨A, c, rfl, hc1, hc2, hc3⟩ := h
  have H3 := Lib.hid hc3
  clear hc3 hc2
  cases A with
  | none =>
    have hn : Hid (L.length = 0) := by
      unfold Hid
      rcases Nat.eq_zero_or_pos L.length with h | h
      · exact h
      · obtain ⟨b, o, e, _⟩ := H3.out h
        cases e
    have hnil : ∀ wx, (binOp .eql 55 (.slice none L.length c) (.slice none 0 0)).run Tryd.prog wx = .ok (.bool true) wx := fun wx => by
      have := run_eql_slice_nil (P := Tryd.prog) wx 55 32 none L.length c Tryd.underlying55
      simpa using this
    go_enter Tryd.func56, Tryd.ntmps56
    go_wp2_with fail
    go_ret
    refine ⟨_, rfl, ?_, Below.refl _ _⟩
    rw [hn.out, List.eq_nil_of_length_eq_zero hn.out]
    exact World.ownsRow_nil _ _ _ _
  | some a =>
    have hnil : ∀ wx, (binOp .eql 55 (.slice (some a) L.length c) (.slice none 0 0)).run Tryd.prog wx = .ok (.bool false) wx := fun wx => by
      have := run_eql_slice_nil (P := Tryd.prog) wx 55 32 (some a) L.length c Tryd.underlying55
      simpa using this
    have hnews : Hid (∀ j u, (tabC L)[j]? = some u → (w.alloc (.cells #[] 32)).cell? (a.add j) = some u) := fun j u hu => by
      have hj := (List.getElem?_eq_some_iff.1 hu).1
      rw [tabC_len] at hj
      obtain ⟨b, o, e, hb, hc⟩ := H3.out (by omega)
      cases e
      rw [Addr.add_lit]
      exact (((Below.refl w.heap.size w).alloc (Nat.le_refl _) _).cell (p := ⟨b, o + j, none⟩) hb).trans (hc j u hu)
    have h1 := Lib.hid (tabC_one L)
    have hl := Lib.hid (tabC_len L)
    clear H3
    go_enter Tryd.func56, Tryd.ntmps56
    go_wp2_with (at_builtin; refine wpList_append_own _ rfl _ _ 55 rfl w.heap.size 32 i0 _ 7 64 Tryd.underlying55 hi hz0 hz1 hz2 rfl (by decide) _ 0 [] rfl ?c0 a L.length c (tabC L) rfl hl.out hnews.out h1.out hle.out ?c4 ?c5 ?_)
    case c0 => exact ⟨rfl, .inr ⟨w.heap.size, 0, #[], rfl, Nat.le_refl _, Blk.new w _ _, Nat.le_refl _, by unfold maxLen; omega, rfl, rfl⟩⟩
    case c4 => omega
    case c5 => simp
    intro v' w' hown hg _
    have hB : Below w.heap.size w w' := ((Below.refl _ w).alloc (Nat.le_refl _) _).grown hg (by simp) (fun k e => by cases e; exact Nat.le_refl _)
    have hown2 : w'.ownsRow w.heap.size 32 7 v' L.length (tabC L) := by simpa using hown
    have Hown := Lib.hid hown2
    clear hg hown hown2
    go_wp2_with fail
    go_ret
    exact ⟨_, rfl, Hown.out, hB⟩
end Go.Proofs.YtbhagfdkipgggaaDoor
