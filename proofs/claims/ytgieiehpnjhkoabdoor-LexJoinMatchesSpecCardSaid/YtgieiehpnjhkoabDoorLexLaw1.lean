/-
  The walks of the first three statements of layer 11: Tokens, Spot and Join return what the specification returns.
-/
import Derived.Test.YtgieiehpnjhkoabDoorLexS
import Derived.Test.YtgieiehpnjhkoabDoorLexR6
namespace Go.Proofs.YtgieiehpnjhkoabDoor
open Go.RowKit LexP

theorem alike_refl (wh : Bool) : ∀ l : List GTok, alike wh l l
  | [] => trivial
  | _ :: r => ⟨⟨rfl, rfl, rfl, fun _ => rfl⟩, alike_refl wh r⟩
theorem toksAt_nil (w : World) : ToksAt w (.slice none 0 0) [] := ⟨none, 0, rfl, fun h => absurd h (by simp)⟩

/-- The length of a scan: no more tokens than bytes. -/
theorem scan_len (s : ByteArray) : ∀ (f a : Nat) (out l : List Tok), s.size - a < f → out.length ≤ a → scan s a out = .ok l → l.length ≤ max a s.size
  | 0, _, _, _, h, _, _ => by omega
  | f + 1, a, out, l, h, ho, hl => by
    by_cases h1 : a < s.size
    · by_cases h2 : (tokenL (s.data.toList.drop a)).2.1 = 0
      · rw [scan_syntax _ _ _ h1 h2] at hl; cases hl
      · by_cases h3 : 1099511627776 < (tokenL (s.data.toList.drop a)).2.2
        · rw [scan_limit _ _ _ h1 h2 h3] at hl; cases hl
        · rw [scan_step _ _ _ h1 h2 h3] at hl
          have hx : a < next s a := by unfold next; omega
          have := scan_len s f _ _ _ (by omega) (by simp; omega) hl
          have := next_le s a (by omega)
          omega
    · rw [scan_end _ _ _ (by omega)] at hl
      cases hl
      omega
theorem tokens_len (s : ByteArray) (l : List Tok) (h : tokens s = .ok l) : l.length ≤ s.size ∧ s.size ≤ 4000 := by
  unfold tokens at h
  split at h
  · cases h
  · have hsk := skipB_le false s.data.toList
    rw [len_bytes] at hsk
    have := scan_len s _ _ _ _ (Nat.lt_succ_self _) (Nat.zero_le _) h
    omega

set_option maxHeartbeats 4000000 in
theorem law_tokens (s : ByteArray) (w : World) (hs : s.size ≤ maxLen) (hU : UnitsAt w) :
    Calls Tryd.prog 3 #[.string s] w fun e w' => e = .returned (.bool true) ∧ Below w.heap.size w w' := by
  have hsm := Lib.hid hs
  unfold maxLen at hs
  by_cases hbig : 4100 < s.size
  · go_enter Tryd.func3, Tryd.ntmps3
    go_wp2_with fail
    refine (sanity_any _ hU).mono ?_
    rintro e w1 ⟨rfl, hb1⟩
    go_wp2_with fail
    go_ret
    exact ⟨rfl, hb1⟩
  · cases hr : tokens s with
    | ok l =>
      have hl := (tokens_len s l hr).1
      have Hr := Lib.hid hr
      clear hr
      go_enter Tryd.func3, Tryd.ntmps3
      go_wp2_with fail
      refine (sanity_any _ hU).mono ?_
      rintro e w1 ⟨rfl, hb1⟩
      go_wp2_with fail
      refine (Tokens_ok s l Hr.out _ hsm.out (hU.below hb1)).mono ?_
      rintro e w2 ⟨v, rfl, hown2, hb2⟩
      go_wp2_with fail
      refine (ref_Tokens_any s _ (by omega)).mono ?_
      rintro e w3 ⟨v', pos, err, rfl, hres, hb3⟩
      rw [Hr.out] at hres
      obtain ⟨rfl, rfl, hown3⟩ := hres
      have hB3 : Below w.heap.size w w3 := (hb1.trans (hb2.mono hb1.size)).trans (hb3.mono (Nat.le_trans hb1.size hb2.size))
      have ht2 := Lib.hid (((toksAt_own hown2).below hb3))
      have ht3 := Lib.hid (toksAt_own hown3)
      have hform := Joins.ownsRow_forms hown3
      rcases hform with ⟨rfl, _⟩ | ⟨g, cap, rfl⟩
      all_goals
        go_wp2_with (go_at_call 12; refine (Same_any _ _ _ _ true _ (ht2.out.below ((Below.refl _ _).alloc (Nat.le_refl _) _)) (ht3.out.below ((Below.refl _ _).alloc (Nat.le_refl _) _)) (alike_refl _ _) (by rw [List.length_map]; omega)).mono ?_; rintro e w4 ⟨rfl, n, rfl⟩)
        go_ret
        exact ⟨rfl, below_drewN (hB3.alloc hB3.size _) _⟩
    | err a e0 =>
      have Hr := Lib.hid hr
      clear hr
      go_enter Tryd.func3, Tryd.ntmps3
      go_wp2_with fail
      refine (sanity_any _ hU).mono ?_
      rintro e w1 ⟨rfl, hb1⟩
      go_wp2_with fail
      refine (Tokens_err s a e0 Hr.out _ hsm.out (hU.below hb1)).mono ?_
      rintro e w2 ⟨rfl, hb2⟩
      go_wp2_with fail
      refine (ref_Tokens_any s _ (by omega)).mono ?_
      rintro e w3 ⟨v', pos, err, rfl, hres, hb3⟩
      rw [Hr.out] at hres
      obtain ⟨rfl, rfl, rfl⟩ := hres
      have hB3 : Below w.heap.size w w3 := (hb1.trans (hb2.mono hb1.size)).trans (hb3.mono (Nat.le_trans hb1.size hb2.size))
      go_wp2_with (go_at_call 12; refine (Same_any _ _ _ _ true _ (toksAt_nil _) (toksAt_nil _) trivial (by simp)).mono ?_; rintro e w4 ⟨rfl, n, rfl⟩)
      go_ret
      exact ⟨rfl, below_drewN (hB3.alloc hB3.size _) _⟩

theorem law_spot (s : ByteArray) (a : Int) (w : World) (hs : s.size ≤ maxLen) (hU : UnitsAt w) :
    Calls Tryd.prog 4 #[.string s, .int .i64 a] w fun e w' => e = .returned (.bool true) ∧ Below w.heap.size w w' := by
  unfold maxLen at hs
  by_cases hbig : 4100 < s.size
  · go_enter Tryd.func4, Tryd.ntmps4
    go_wp2_with fail
    refine (sanity_any _ hU).mono ?_
    rintro e w1 ⟨rfl, hb1⟩
    go_wp2_with fail
    go_ret
    exact ⟨rfl, hb1⟩
  · go_enter Tryd.func4, Tryd.ntmps4
    go_wp2_with fail
    refine (sanity_any _ hU).mono ?_
    rintro e w1 ⟨rfl, hb1⟩
    go_wp2_with (first | (go_at_call 13; refine (Spot_any _ _ _ (by omega)).mono ?_; rintro e w' ⟨rfl, rfl⟩) | (go_at_call 14; refine (ref_Spot_any _ _ _ (by omega)).mono ?_; rintro e w' ⟨rfl, rfl⟩))
    go_ret
    exact ⟨rfl, hb1⟩

theorem joinT_len (l : List GTok) (h : ∀ T ∈ l, T.text.size ≤ 100) : (joinT l).length ≤ l.length * 101 := by
  unfold joinT
  rcases l with _ | ⟨a, r⟩
  · simp [Lib.join, List.intercalate]
  · rw [List.map_cons, Lib.join_cons]
    have ha : a.text.data.toList.length ≤ 100 := by rw [len_bytes]; exact h a (by simp)
    have hr : ∀ r : List GTok, (∀ T ∈ r, T.text.size ≤ 100) → (Lib.joinTail [32] (r.map (·.text.data.toList))).length ≤ r.length * 101 := by
      intro r
      induction r with
      | nil => intro _; simp [Lib.joinTail]
      | cons b t ih =>
        intro hb
        have h1 := ih (fun T hT => hb T (by simp [hT]))
        have h2 : b.text.data.toList.length ≤ 100 := by rw [len_bytes]; exact hb b (by simp)
        simp only [Lib.joinTail, List.map_cons, List.flatten_cons, List.length_append, List.length_cons, List.length_nil] at h1 ⊢
        omega
    have := hr r (fun T hT => h T (by simp [hT]))
    rw [List.length_append, List.length_cons]
    omega

set_option maxHeartbeats 4000000 in
theorem law_join (x : Value) (l : List GTok) (w : World) (hx : ToksAt w x l) (hl : l.length ≤ maxLen) (hU : UnitsAt w) :
    Calls Tryd.prog 5 #[x] w fun e w' => e = .returned (.bool true) ∧ Below w.heap.size w w' := by
  have Hx := Lib.hid hx
  obtain ⟨A, c, rfl, hA⟩ := hx
  have HA := Lib.hid hA
  clear hA
  unfold maxLen at hl
  by_cases hbig : 400 < l.length
  · go_enter Tryd.func5, Tryd.ntmps5
    go_wp2_with fail
    refine (sanity_any _ hU).mono ?_
    rintro e w1 ⟨rfl, hb1⟩
    go_wp2_with fail
    go_ret
    exact ⟨rfl, hb1⟩
  · go_enter Tryd.func5, Tryd.ntmps5
    go_wp2_with fail
    refine (sanity_any _ hU).mono ?_
    rintro e w1 ⟨rfl, hb1⟩
    have hx1 := Lib.hid (Hx.out.below hb1)
    go_wp2_with fail
    go_loop [4] (fun i => ∃ k : Nat, k ≤ l.length ∧ i = .int .i64 k ∧ Hid (∀ j T, j < k → l[j]? = some T → T.text.size ≤ 100)) (fun i => l.length - (intOf i).toNat)
    case atStart => exact ⟨0, Nat.zero_le _, rfl, fun j T h => by omega⟩
    case round =>
      obtain ⟨k, hk, rfl, hp⟩ := hrel
      by_cases hlt : k < l.length
      · obtain ⟨b, o, rfl, hbl, h1⟩ := HA.out (by omega)
        obtain ⟨p1, p2, p3, p4⟩ := h1 k _ (List.getElem?_eq_getElem hlt)
        clear p1 p3 p4 h1
        rw [← hb1.cell (p := ⟨b, _, none⟩) hbl] at p2
        by_cases h100 : 100 < l[k].text.size
        · go_wp2_with fail
          go_ret
          exact ⟨rfl, hb1⟩
        · go_wp2_with fail
          go_round
          case rel => exact ⟨k + 1, by omega, by go_num, fun j T hj hT => by
            by_cases e : j = k
            · subst e; rw [List.getElem?_eq_getElem hlt] at hT; cases hT; omega
            · exact hp.out j T (by omega) hT⟩
          case measure => simp [intOf]; omega
      · obtain rfl : k = l.length := by omega
        have hj : (joinT l).length ≤ l.length * 101 := joinT_len l (fun T hT => by
          obtain ⟨j, hj, rfl⟩ := List.getElem_of_mem hT
          exact hp.out j _ hj (List.getElem?_eq_getElem hj))
        have hc1 : Hid (∀ W, Below w1.heap.size w1 W → Calls Tryd.prog 15 #[.slice A l.length c] W fun e w' => e = .returned (.string ⟨(joinT l).toArray⟩) ∧ Below W.heap.size W w') := fun W hW =>
          Join_any _ l W (hx1.out.below hW) (by omega) (by omega)
        have hc2 : Hid (∀ W, Below w1.heap.size w1 W → Calls Tryd.prog 16 #[.slice A l.length c] W fun e w' => e = .returned (.string ⟨(joinT l).toArray⟩) ∧ W = w') := fun W hW =>
          ref_Join_any _ l W (hx1.out.below hW) (by omega) (by omega)
        clear hj
        go_wp2_with fail
        refine (hc1.out _ (Below.refl _ _)).mono ?_
        rintro e w2 ⟨rfl, hb2⟩
        go_wp2_with fail
        refine (hc2.out _ hb2).mono ?_
        rintro e w3 ⟨rfl, rfl⟩
        go_wp2_with fail
        go_ret
        exact ⟨rfl, hb1.trans (hb2.mono hb1.size)⟩
end Go.Proofs.YtgieiehpnjhkoabDoor
