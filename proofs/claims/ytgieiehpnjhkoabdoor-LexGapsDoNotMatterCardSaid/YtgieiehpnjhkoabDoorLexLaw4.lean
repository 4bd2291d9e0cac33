/-
  The walk of the statement of layer 11 that gaps do not matter.
-/
import Derived.Test.YtgieiehpnjhkoabDoorLexLaw3
import Derived.Maps.AppendAt
namespace Go.Proofs.YtgieiehpnjhkoabDoor
open Go.RowKit LexP

/-- The tokens of the second text when k of them have been moved. -/
def someShifted (h k : Nat) (m : List Tok) : List Tok := (m.take k).map (shift h) ++ m.drop k
theorem someShifted_zero (h : Nat) (m : List Tok) : someShifted h 0 m = m := by simp [someShifted]
theorem someShifted_all (h : Nat) (m : List Tok) : someShifted h m.length m = m.map (shift h) := by simp [someShifted]
theorem someShifted_len (h k : Nat) (m : List Tok) : (someShifted h k m).length = m.length := by
  unfold someShifted
  rw [List.length_append, List.length_map, List.length_take, List.length_drop]; omega
theorem someShifted_at (h k : Nat) (m : List Tok) (hk : k < m.length) : (someShifted h k m)[k]? = some m[k] := by
  unfold someShifted
  rw [List.getElem?_append_right (by rw [List.length_map, List.length_take]; omega), List.length_map, List.length_take, Nat.min_eq_left (by omega), Nat.sub_self, List.getElem?_drop, Nat.add_zero, List.getElem?_eq_getElem hk]

theorem toksCells_len (l : List Tok) : (toksCells l).length = l.length * 4 := by
  induction l with
  | nil => rfl
  | cons a r ih => simp only [toksCells, List.flatMap_cons, List.length_append, List.length_cons] at ih ⊢; simp [tokCells] at ih ⊢; omega

theorem toksCells_app (l m : List Tok) : toksCells (l ++ m) = toksCells l ++ toksCells m := by simp [toksCells]

theorem someShifted_succ (h k : Nat) (m : List Tok) (hk : k < m.length) :
    (toksCells (someShifted h k m)).set (k * 4 + 3) (.int .i64 ((m[k].pos : Int) + h)) = toksCells (someShifted h (k + 1) m) := by
  have e1 : someShifted h k m = (m.take k).map (shift h) ++ (m[k] :: m.drop (k + 1)) := by
    unfold someShifted; rw [List.drop_eq_getElem_cons hk]
  have e2 : someShifted h (k + 1) m = (m.take k).map (shift h) ++ (shift h m[k] :: m.drop (k + 1)) := by
    unfold someShifted; rw [List.take_add_one, List.getElem?_eq_getElem hk, List.map_append, List.append_assoc]; rfl
  have hl : (toksCells ((m.take k).map (shift h))).length = k * 4 := by
    rw [toksCells_len, List.length_map, List.length_take]; omega
  rw [e1, e2, toksCells_app, toksCells_app, List.set_append_right _ _ (by omega), hl, Nat.add_sub_cancel_left]
  congr 1
  show (tokCells m[k] ++ toksCells (m.drop (k + 1))).set 3 _ = tokCells (shift h m[k]) ++ toksCells (m.drop (k + 1))
  simp only [tokCells, shift, List.cons_append, List.nil_append, List.set_cons_succ, List.set_cons_zero]
  congr 4
  simp; omega

/-- A part of a slice of tokens, from its head. -/
theorem toksAt_take {w : World} {B : Nat} {g cap : Nat} {l m : List Tok} (h : w.ownsRow B 36 4 (.slice (some ⟨g, 0, none⟩) (l ++ m).length cap) (l ++ m).length (toksCells (l ++ m))) :
    ToksAt w (.slice (some ⟨g, 0, none⟩) l.length cap) (l.map gtok) := by
  obtain ⟨A, c, hv, hA⟩ := toksAt_own h
  injection hv with e1 e2 e3
  subst e1 e3
  refine ⟨_, _, by rw [List.length_map], fun hl => ?_⟩
  rw [List.length_map] at hl
  obtain ⟨b, o, hb, hbl, h1⟩ := hA (by simp; omega)
  refine ⟨b, o, hb, hbl, fun i T hT => h1 i T ?_⟩
  rw [List.map_append, List.getElem?_append_left (by exact (List.getElem?_eq_some_iff.1 hT).1)]
  exact hT
/-- The rest of a slice of tokens. -/
theorem toksAt_drop {w : World} {B : Nat} {g cap : Nat} {l m : List Tok} (h : w.ownsRow B 36 4 (.slice (some ⟨g, 0, none⟩) (l ++ m).length cap) (l ++ m).length (toksCells (l ++ m))) (A : Option Addr) (c : Nat)
    (hA : 0 < m.length → A = some ⟨g, l.length * 4, none⟩) :
    ToksAt w (.slice A m.length c) (m.map gtok) := by
  obtain ⟨A', c', hv, hA'⟩ := toksAt_own h
  injection hv with e1 e2 e3
  subst e1 e3
  refine ⟨_, _, by rw [List.length_map], fun hl => ?_⟩
  rw [List.length_map] at hl
  obtain ⟨b, o, hb, hbl, h1⟩ := hA' (by simp; omega)
  cases hb
  refine ⟨g, l.length * 4, hA hl, hbl, fun i T hT => ?_⟩
  have := h1 (l.length + i) T (by rw [List.map_append, List.getElem?_append_right (by simp), List.length_map, Nat.add_sub_cancel_left]; exact hT)
  rw [Nat.zero_add, Nat.add_mul] at this
  exact this

theorem chain_pos {s : ByteArray} {a : Nat} {l : List Tok} (h : Chain s a l) : ∀ t ∈ l, t.pos ≤ s.size := by
  induction h with
  | nil a h => intro t ht; cases ht
  | cons a p r hp hlt hn hv hr ih =>
    intro t ht
    rcases List.mem_cons.1 ht with rfl | ht
    · exact Nat.le_of_lt hlt
    · exact ih t ht

set_option maxRecDepth 100000 in
set_option maxHeartbeats 4000000 in
theorem law_gaps (a b c : ByteArray) (w : World) (ha : a.size ≤ maxLen) (hb : b.size ≤ maxLen) (hc : c.size ≤ maxLen) (hU : UnitsAt w) :
    Calls Tryd.prog 8 #[.string a, .string b, .string c] w fun e w' => e = .returned (.bool true) ∧ Below w.heap.size w w' := by
  have hma := Lib.hid ha
  have hmb := Lib.hid hb
  unfold maxLen at ha hb hc
  by_cases h1 : 1000 < a.size
  · go_enter Tryd.func8, Tryd.ntmps8
    go_wp2_with fail
    refine (sanity_any _ hU).mono ?_
    rintro e w1 ⟨rfl, hb1⟩
    go_wp2_with fail
    go_ret
    exact ⟨rfl, hb1⟩
  by_cases h2 : 1000 < b.size
  · go_enter Tryd.func8, Tryd.ntmps8
    go_wp2_with fail
    refine (sanity_any _ hU).mono ?_
    rintro e w1 ⟨rfl, hb1⟩
    go_wp2_with fail
    go_ret
    exact ⟨rfl, hb1⟩
  by_cases h3 : 1000 < c.size
  · go_enter Tryd.func8, Tryd.ntmps8
    go_wp2_with fail
    refine (sanity_any _ hU).mono ?_
    rintro e w1 ⟨rfl, hb1⟩
    go_wp2_with fail
    go_ret
    exact ⟨rfl, hb1⟩
  go_enter Tryd.func8, Tryd.ntmps8
  go_wp2_with fail
  refine (sanity_any _ hU).mono ?_
  rintro e w1 ⟨rfl, hb1⟩
  go_wp2_with fail
  go_loop [8] (fun i => ∃ k : Nat, k ≤ c.size ∧ i = .int .i64 k ∧ Hid (∀ j x, j < k → c.data.toList[j]? = some x → x.toNat ≠ 10)) (fun i => c.size - (intOf i).toNat)
  case atStart => exact ⟨0, Nat.zero_le _, rfl, fun j x h => by omega⟩
  case round =>
    obtain ⟨k, hk, rfl, hp⟩ := hrel
    by_cases hlt : k < c.size
    · by_cases h10 : c[k].toNat = 10
      · have t1 : ((c[k].toNat : Int) == 10) = true := beq_t (by omega)
        clear h10
        go_wp2_with fail
        go_ret
        exact ⟨rfl, hb1⟩
      · have t1 : ((c[k].toNat : Int) == 10) = false := beq_f (by omega)
        have hby := Lib.hid (byte_at c k hlt)
        go_wp2_with fail
        go_round
        case rel => exact ⟨k + 1, by omega, by go_num, fun j x hj hx => by
          by_cases e : j = k
          · subst e; rw [hby.out] at hx; cases hx; exact h10
          · exact hp.out j x (by omega) hx⟩
        case measure => simp [intOf]; omega
    · have hC : Hid (∀ x ∈ c.data.toList, x.toNat ≠ 10) := fun x hx => by
        obtain ⟨j, hj, rfl⟩ := List.getElem_of_mem hx
        rw [len_bytes] at hj
        exact hp.out j _ (by omega) (List.getElem?_eq_getElem (by rw [len_bytes]; omega))
      cases hra : tokens a with
      | err p e0 =>
        have Hr := Lib.hid hra
        have he0 : e0 = 2 ∨ e0 = 3 := tokens_errs a p e0 hra
        have t0 : (e0 != 0) = true := by rw [bne_iff_ne]; omega
        clear hra he0
        cases hrb : tokens b with
        | err p' e1 =>
          have Hr' := Lib.hid hrb
          clear hrb
          go_wp2_with fail
          refine (Tokens_err a p e0 Hr.out _ hma.out (hU.below hb1)).mono ?_
          rintro e w2 ⟨rfl, hb2⟩
          go_wp2_with fail
          refine (Tokens_err b p' e1 Hr'.out _ hmb.out ((hU.below hb1).below hb2)).mono ?_
          rintro e w3 ⟨rfl, hb3⟩
          go_wp2_with fail
          go_ret
          exact ⟨rfl, (hb1.trans (hb2.mono hb1.size)).trans (hb3.mono (Nat.le_trans hb1.size hb2.size))⟩
        | ok m =>
          have Hr' := Lib.hid hrb
          clear hrb
          go_wp2_with fail
          refine (Tokens_err a p e0 Hr.out _ hma.out (hU.below hb1)).mono ?_
          rintro e w2 ⟨rfl, hb2⟩
          go_wp2_with fail
          refine (Tokens_ok b m Hr'.out _ hmb.out ((hU.below hb1).below hb2)).mono ?_
          rintro e w3 ⟨v, rfl, _, hb3⟩
          go_wp2_with fail
          go_ret
          exact ⟨rfl, (hb1.trans (hb2.mono hb1.size)).trans (hb3.mono (Nat.le_trans hb1.size hb2.size))⟩
      | ok l =>
        have Hr := Lib.hid hra
        clear hra
        cases hrb : tokens b with
        | err p' e1 =>
          have Hr' := Lib.hid hrb
          have he0 : e1 = 2 ∨ e1 = 3 := tokens_errs b p' e1 hrb
          have t0 : (e1 != 0) = true := by rw [bne_iff_ne]; omega
          clear hrb he0
          go_wp2_with fail
          refine (Tokens_ok a l Hr.out _ hma.out (hU.below hb1)).mono ?_
          rintro e w2 ⟨v, rfl, _, hb2⟩
          go_wp2_with fail
          refine (Tokens_err b p' e1 Hr'.out _ hmb.out ((hU.below hb1).below hb2)).mono ?_
          rintro e w3 ⟨rfl, hb3⟩
          go_wp2_with fail
          go_ret
          exact ⟨rfl, (hb1.trans (hb2.mono hb1.size)).trans (hb3.mono (Nat.le_trans hb1.size hb2.size))⟩
        | ok m =>
          have Hr' := Lib.hid hrb
          clear hrb
          go_wp2_with fail
          refine (Tokens_ok a l Hr.out _ hma.out (hU.below hb1)).mono ?_
          rintro e w2 ⟨v1, rfl, hown1, hb2⟩
          go_wp2_with fail
          refine (Tokens_ok b m Hr'.out _ hmb.out ((hU.below hb1).below hb2)).mono ?_
          rintro e w3 ⟨v2, rfl, hown2, hb3⟩
          obtain ⟨H, hH⟩ : ∃ H : ByteArray, a ++ ⟨#[10, 35]⟩ ++ c ++ ⟨#[10]⟩ ++ b = H := ⟨_, rfl⟩
          have hHl : H.data.toList = (a.data.toList ++ [10, 35] ++ c.data.toList ++ [10]) ++ b.data.toList := by
            rw [← hH]; simp [ByteArray.data_append]
          have hHs : H.size ≤ 4000 := by
            rw [← blen, hHl]; simp only [List.length_append, blen, List.length_cons, List.length_nil]; omega
          have hto := Lib.hid (tokens_gap a b c H l m Hr.out Hr'.out hC.out hHl hHs)
          have hmH : Hid (H.size ≤ maxLen) := by unfold Hid maxLen; omega
          have HH := Lib.hid hH
          have hll := (tokens_len a l Hr.out).1
          have hml := (tokens_len b m Hr'.out).1
          clear hH hHl hHs
          obtain ⟨h, hh⟩ : ∃ h, a.size + 2 + c.size + 1 = h := ⟨_, rfl⟩
          rw [hh] at hto
          have Hh := Lib.hid hh
          clear hh
          go_wp2_with fail
          rw [HH.out]
          refine (Tokens_ok H _ hto.out _ hmH.out (((hU.below hb1).below hb2).below hb3)).mono ?_
          rintro e w4 ⟨v3, rfl, hown3, hb4⟩
          have hB4 : Below w.heap.size w w4 := ((hb1.trans (hb2.mono hb1.size)).trans (hb3.mono (Nat.le_trans hb1.size hb2.size))).trans (hb4.mono (Nat.le_trans (Nat.le_trans hb1.size hb2.size) hb3.size))
          have hs12 := hb2.size
          have hs23 := hb3.size
          have hs34 := hb4.size
          have hf1 := hown1.lt
          have hf2 := hown2.lt
          have hf3 := hown3.lt
          have o1 := ownsRow_below (ownsRow_below hown1 hb3 (Nat.le_refl _)) hb4 (Nat.le_refl _)
          have o2 := ownsRow_below hown2 hb4 (Nat.le_refl _)
          have F1 := Joins.ownsRow_forms hown1
          have F2 := Joins.ownsRow_forms hown2
          have F3 := Joins.ownsRow_forms hown3
          clear hown1 hown2
          rw [List.length_append, List.length_map] at F3
          obtain ⟨A1, c1, e1⟩ : ∃ A1 c1, v1 = .slice A1 l.length c1 := by
            rcases F1 with ⟨rfl, hz⟩ | ⟨g, cap, rfl⟩
            · exact ⟨none, 0, by rw [hz]⟩
            · exact ⟨_, _, rfl⟩
          obtain ⟨A2, c2, e2⟩ : ∃ A2 c2, v2 = .slice A2 m.length c2 := by
            rcases F2 with ⟨rfl, hz⟩ | ⟨g, cap, rfl⟩
            · exact ⟨none, 0, by rw [hz]⟩
            · exact ⟨_, _, rfl⟩
          obtain ⟨A3, c3, e3⟩ : ∃ A3 c3, v3 = .slice A3 (l.length + m.length) c3 := by
            rcases F3 with ⟨rfl, hz⟩ | ⟨g, cap, rfl⟩
            · exact ⟨none, 0, by rw [hz]⟩
            · exact ⟨_, _, rfl⟩
          subst e1 e2 e3
          have O1 := Lib.hid o1
          have O2 := Lib.hid o2
          have O3 := Lib.hid hown3
          have FF1 := Lib.hid F1
          have FF2 := Lib.hid F2
          have FF3 := Lib.hid F3
          have L1 := Lib.hid hf1
          have L2 := Lib.hid hf2
          have L3 := Lib.hid hf3
          clear o1 o2 hown3 F1 F2 F3 hf1 hf2 hf3
          go_wp2_with fail
          go_loopw [19] (fun i wr => ∃ k : Nat, k ≤ m.length ∧ i = .int .i64 k ∧ wr.ownsRow w2.heap.size 36 4 (.slice A2 m.length c2) m.length (toksCells (someShifted h k m)) ∧ w4.grownBy wr (Value.slice A2 m.length c2).ownBlock) (fun i _ => m.length - (intOf i).toNat)
          case atStart => exact ⟨0, Nat.zero_le _, rfl, by rw [someShifted_zero]; exact O2.out, World.grownBy.refl _ _⟩
          case round =>
            obtain ⟨j, hj, rfl, hown, hgr⟩ := hrel
            by_cases hlt2 : j < m.length
            · obtain ⟨g, cap, hv⟩ := Joins.ownsRow_form hown (by omega)
              injection hv with e1 e2 e3
              subst e1 e3
              obtain ⟨_, _, _, p4⟩ := toksCells_at (someShifted h j m) j m[j] (someShifted_at h j m hlt2)
              have hst := hown.stored (j * 4 + 3) (.int .i64 ((m[j].pos : Int) + h))
              rw [someShifted_succ h j m hlt2] at hst
              have q4 := hown.cells (g := g) rfl _ _ p4
              rw [Addr.add_lit, Nat.zero_add] at q4
              have hfz := hown.frozenAt (j * 4 + 3)
              have hPb : m[j].pos ≤ b.size := chain_pos (tokens_chain b m Hr'.out).2 _ (List.getElem_mem hlt2)
              generalize m[j].pos = P at q4 hst hPb
              have eh : (h : Int) = (a.size : Int) + 2 + (c.size : Int) + 1 := by have := Hh.out; omega
              rw [eh] at hst
              have Hst := Lib.hid hst
              clear eh hst
              go_wp2_with fail
              go_roundw
              case rel => exact ⟨j + 1, by omega, by go_num, Hst.out.1, World.grownBy.trans hgr Hst.out.2⟩
              case measure => simp [intOf]; omega
            · obtain rfl : j = m.length := by omega
              rw [someShifted_all] at hown
              have hBr : Below w.heap.size w wr := hB4.grown hgr hB4.size (fun g e => by have := (L2.out g e).1; have := hb1.size; omega)
              have hd1 : ∀ g, (Value.slice A1 l.length c1).ownBlock = some g → ∀ g', (Value.slice A2 m.length c2).ownBlock = some g' → g < g' := fun g e g' e' => by
                have := (L1.out g e).2; have := (L2.out g' e').1; omega
              have hd3 : ∀ g, (Value.slice A3 (l.length + m.length) c3).ownBlock = some g → ∀ g', (Value.slice A2 m.length c2).ownBlock = some g' → g' < g := fun g e g' e' => by
                have := (L3.out g e).1; have := (L2.out g' e').2; omega
              have k1 : wr.ownsRow w1.heap.size 36 4 (.slice A1 l.length c1) l.length (toksCells l) := O1.out.kept hgr (by
                cases hq : (Value.slice A1 l.length c1).ownBlock with
                | none => exact .inl rfl
                | some g => exact .inr (fun e => by have := hd1 g hq g e.symm; omega))
              have k3 : wr.ownsRow w3.heap.size 36 4 (.slice A3 (l.length + m.length) c3) (l ++ m.map (shift h)).length (toksCells (l ++ m.map (shift h))) := O3.out.kept hgr (by
                cases hq : (Value.slice A3 (l.length + m.length) c3).ownBlock with
                | none => exact .inl rfl
                | some g => exact .inr (fun e => by have := hd3 g hq g e.symm; omega))
              have T1 := Lib.hid (toksAt_own k1)
              have T2 : Hid (ToksAt wr (.slice A2 m.length c2) ((m.map (shift h)).map gtok)) := toksAt_own (l := m.map (shift h)) (by rw [List.length_map]; exact hown)
              have F3 := FF3.out
              have hcap : l.length + m.length ≤ c3 := by
                rcases k3.2 with ⟨e1, h0⟩ | ⟨g', cap', cur, hv, _, _, hc, _⟩
                · rw [List.length_append, List.length_map] at h0; omega
                · injection hv with e1 e2 e3; subst e3; rw [List.length_append, List.length_map] at hc; exact hc
              have T3 : Hid (ToksAt wr (.slice A3 l.length c3) (l.map gtok)) := by
                rcases F3 with ⟨hv, hz⟩ | ⟨g, cap, hv⟩
                · injection hv with e1 e2 e3
                  have hl0 : l = [] := List.length_eq_zero_iff.1 (by omega)
                  subst hl0
                  exact ⟨_, _, rfl, fun h => absurd h (by simp)⟩
                · injection hv with e1 e2 e3
                  subst e1 e3
                  exact toksAt_take (m := m.map (shift h)) (by rw [List.length_append, List.length_map] at k3 ⊢; exact k3)
              have T4 : Hid (∀ A c, (0 < m.length → ∀ g, A3 = some ⟨g, 0, none⟩ → A = some ⟨g, l.length * 4, none⟩) → ToksAt wr (.slice A m.length c) ((m.map (shift h)).map gtok)) := fun A c hA => by
                rcases F3 with ⟨hv, hz⟩ | ⟨g, cap, hv⟩
                · have hm0 : m = [] := List.length_eq_zero_iff.1 (by omega)
                  subst hm0
                  exact ⟨_, _, rfl, fun h => absurd h (by simp)⟩
                · injection hv with e1 e2 e3
                  subst e1 e3
                  have := toksAt_drop (l := l) (m := m.map (shift h)) (g := g) (cap := c3) (by rw [List.length_append, List.length_map] at k3 ⊢; exact k3) A c (by rw [List.length_map]; exact fun hm => hA hm g rfl)
                  rw [List.length_map] at this
                  exact this
              have F3' := Lib.hid F3
              clear F3 k1 k3 hd1 hd3
              go_wp2_with fail
              refine (Same_any _ _ _ _ true _ T3.out T1.out (alike_refl _ _) (by rw [List.length_map]; omega)).mono ?_
              rintro e w6 ⟨rfl, n6, rfl⟩
              go_wp2_with fail
              all_goals
                refine (Same_any _ _ _ _ true _ ((T4.out _ _ ?ad).below (below_drewN (Below.refl _ _) n6)) (T2.out.below (below_drewN (Below.refl _ _) n6)) (alike_refl _ _) (by rw [List.length_map, List.length_map]; omega)).mono ?_
                case ad => intro hm g hA3; first | (exfalso; omega) | (rw [hA3]; simp [Addr.add_lit])
                rintro e w7 ⟨rfl, n7, rfl⟩
                go_wp2_with fail
                go_ret
                exact ⟨rfl, below_drewN hBr _⟩
end Go.Proofs.YtgieiehpnjhkoabDoor
