/-
  The walk of the statement of layer 11 that the tokens lie in the text.
-/
import Derived.Test.YtgieiehpnjhkoabDoorLexLaw2
namespace Go.Proofs.YtgieiehpnjhkoabDoor
open Go.RowKit LexP

/-- The specification finds no token in a gap. -/
theorem gap_call (s : ByteArray) (a p : Nat) (hs : s.size ≤ 4000) (h : a + skipB false (s.data.toList.drop a) = p) (w : World) :
    Calls Tryd.prog 11 #[.string (s.extract a p)] w fun e w' => ∃ A c, e = .returned (.agg #[.slice A 0 c, .int .i64 0, .int .i64 0]) ∧ Below w.heap.size w w' :=
  (ref_Tokens_any _ w (by rw [ByteArray.size_extract]; omega)).mono fun e w' ⟨v, pos, err, he, hr, hb⟩ => by
    rw [gap_tokens s a p hs h] at hr
    obtain ⟨rfl, rfl, hown⟩ := hr
    rcases Joins.ownsRow_forms hown with ⟨rfl, _⟩ | ⟨g, cap, rfl⟩
    · exact ⟨none, 0, he, hb⟩
    · exact ⟨_, cap, he, hb⟩

set_option maxHeartbeats 4000000 in
set_option maxRecDepth 100000 in
theorem law_liein (s : ByteArray) (w : World) (hs : s.size ≤ maxLen) (hU : UnitsAt w) :
    Calls Tryd.prog 6 #[.string s] w fun e w' => e = .returned (.bool true) ∧ Below w.heap.size w w' := by
  have hsm := Lib.hid hs
  unfold maxLen at hs
  by_cases hbig : 4000 < s.size
  · go_enter Tryd.func6, Tryd.ntmps6
    go_wp2_with fail
    refine (sanity_any _ hU).mono ?_
    rintro e w1 ⟨rfl, hb1⟩
    go_wp2_with fail
    go_ret
    exact ⟨rfl, hb1⟩
  · cases hr : tokens s with
    | err a e0 =>
      have Hr := Lib.hid hr
      have he0 : e0 = 2 ∨ e0 = 3 := tokens_errs s a e0 hr
      clear hr
      have t0 : (e0 != 0) = true := by rw [bne_iff_ne]; omega
      clear he0
      go_enter Tryd.func6, Tryd.ntmps6
      go_wp2_with fail
      refine (sanity_any _ hU).mono ?_
      rintro e w1 ⟨rfl, hb1⟩
      go_wp2_with fail
      refine (Tokens_err s a e0 Hr.out _ hsm.out (hU.below hb1)).mono ?_
      rintro e w2 ⟨rfl, hb2⟩
      go_wp2_with fail
      go_ret
      exact ⟨rfl, hb1.trans (hb2.mono hb1.size)⟩
    | ok l =>
      have hch := Lib.hid (tokens_chain s l hr).2
      have hl := (tokens_len s l hr).1
      have Hr := Lib.hid hr
      clear hr
      go_enter Tryd.func6, Tryd.ntmps6
      go_wp2_with fail
      refine (sanity_any _ hU).mono ?_
      rintro e w1 ⟨rfl, hb1⟩
      go_wp2_with fail
      refine (Tokens_ok s l Hr.out _ hsm.out (hU.below hb1)).mono ?_
      rintro e w2 ⟨v, rfl, hown2, hb2⟩
      have hB2 : Below w.heap.size w w2 := hb1.trans (hb2.mono hb1.size)
      obtain ⟨A, c, rfl, hA⟩ := toksAt_own hown2
      rw [List.length_map] at *
      have HA := Lib.hid hA
      clear hA hown2
      go_wp2_with fail
      go_loopw [7, 8, 9, 10] (fun x i _ _ wr => ∃ (k a : Nat), k ≤ l.length + 1 ∧ a ≤ s.size ∧ i = .int .i64 k ∧ x = .int .i64 a ∧ Below w2.heap.size w2 wr ∧ Hid (k ≤ l.length → Chain s a (l.drop k))) (fun _ i _ _ _ => l.length + 1 - (intOf i).toNat)
      case atStart => exact ⟨0, 0, by omega, by omega, rfl, rfl, Below.refl _ _, fun _ => hch.out⟩
      case round =>
        obtain ⟨k, a, hk, ha, rfl, rfl, hbr, hc⟩ := hrel
        have hbs := hbr.size
        have hBr : Below w.heap.size w wr := hB2.trans (hbr.mono hB2.size)
        by_cases hlt : k < l.length
        · have hch2 := hc.out (by omega)
          have hdr := List.drop_eq_getElem_cons hlt
          rw [hdr] at hch2
          generalize hT : l[k] = T at hch2
          cases hch2 with
          | cons _ p _ hp hpl hn hv hrest =>
            have hle := tokenL_le (s.data.toList.drop p)
            rw [List.length_drop, blen] at hle
            generalize htn : (tokenL (s.data.toList.drop p)).2.1 = n at hn hrest hle
            have hap : a ≤ p := by omega
            have hgap := Lib.hid (gap_call s a p (by omega) hp)
            obtain ⟨b, o, rfl, hbl, h1⟩ := HA.out (by omega)
            obtain ⟨_, p2, _, p4⟩ := h1 k (gtok (tokAt s p)) (by rw [List.getElem?_map, List.getElem?_eq_getElem hlt, hT]; rfl)
            clear h1
            have e2 : (gtok (tokAt s p)).text = s.extract p (p + n) := by show s.extract p _ = _; rw [htn]
            have e4 : (gtok (tokAt s p)).pos = (p : Int) := rfl
            rw [e2] at p2
            rw [e4] at p4
            have q2 := p2
            have q4 := p4
            rw [← hbr.cell (p := ⟨b, _, none⟩) hbl] at q2 q4
            have hex : (s.extract p (p + n)).size = n := by rw [ByteArray.size_extract]; omega
            have Hp := Lib.hid hp
            have Htn := Lib.hid htn
            have HT := Lib.hid hT
            clear hp htn e2 e4 hdr hT
            go_wp2_with fail
            refine (hgap.out _).mono ?_
            rintro e w3 ⟨A3, c3, rfl, hb3⟩
            have hbr3 := hbr.trans (hb3.mono hbs)
            have r2 := p2
            have r4 := p4
            rw [← hbr3.cell (p := ⟨b, _, none⟩) hbl] at r2 r4
            have hb3s := hb3.size
            have hbl3 : b < w3.heap.size := by omega
            have g1 : decide ((s.size : Int) < (p : Int) + (n : Int)) = false := decide_eq_false (by omega)
            have g2 : ((n : Int) == 0) = false := beq_f (by omega)
            clear q2 q4 p2 p4
            go_wp2_with fail
            go_quiet (fail)
            go_wp2_with fail
            go_roundw
            case rel =>
              refine ⟨k + 1, p + n, by omega, by omega, by go_num, by go_num, below_drewN (hbr3.alloc (by omega) _) _, fun _ => ?_⟩
              have := hrest
              exact this
            case measure => simp [intOf]; omega
        · by_cases hle : k = l.length
          · subst hle
            have hch2 := hc.out (Nat.le_refl _)
            rw [List.drop_length] at hch2
            cases hch2 with
            | nil _ hend =>
              have hgap := Lib.hid (gap_call s a s.size (by omega) hend)
              clear hend
              go_wp2_with fail
              refine (hgap.out _).mono ?_
              rintro e w3 ⟨A3, c3, rfl, hb3⟩
              have hbr3 := hbr.trans (hb3.mono hbs)
              have hb3s := hb3.size
              go_wp2_with fail
              go_roundw
              case rel => exact ⟨l.length + 1, a, by omega, by omega, by go_num, rfl, hbr3.alloc (by omega) _, fun h => by omega⟩
              case measure => simp [intOf]
          · obtain rfl : k = l.length + 1 := by omega
            go_wp2_with fail
            go_ret
            exact ⟨rfl, hBr⟩
end Go.Proofs.YtgieiehpnjhkoabDoor
