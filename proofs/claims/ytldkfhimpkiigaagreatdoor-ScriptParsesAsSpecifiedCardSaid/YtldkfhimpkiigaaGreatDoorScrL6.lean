/-
  Layer 46 (script): the law ParsesAsSpecified.
-/
import Derived.Test.YtldkfhimpkiigaaGreatDoorScrP9
import Derived.Test.YtldkfhimpkiigaaGreatDoorScrW16
import Derived.Test.YtldkfhimpkiigaaGreatDoorR46X6
namespace Go.Proofs.YtldkfhimpkiigaaGreatDoor
open Go.RowKit ScrP
attribute [local go_sem] Oper.semAt_some

theorem sameE_self6 (s : Scr) : sameE s s = true := by unfold sameE; simp
theorem parse_at6 (text : ByteArray) (w : World) (hs : text.size ≤ 100000000) (hK : KTab w) (hL : LibAt w) (r : ParR) (hr : parseS text.data.toList = r) : Calls Tryz.prog 23 #[.string text] w fun e w' =>
    ∃ A n c A' n' c', e = .returned (.tuple #[.agg #[.slice A n c, .slice A' n' c'], .int .i64 (r.line : Int), .int .i64 r.err]) ∧ ScrAt w' w'.heap.size (.agg #[.slice A n c, .slice A' n' c']) r.scr ∧ Below w.heap.size w w' := by
  subst hr
  refine (Parse_any text w hs hK hL).mono ?_
  rintro e w' ⟨vt, vs, rfl, h, hb⟩
  have h2 := h
  obtain ⟨_, _, e1, ⟨A, c, e2, _⟩, _, _, ⟨A', c', e3, _⟩, _⟩ := h2
  cases e1
  subst e2 e3
  exact ⟨A, _, c, A', _, c', rfl, h, hb⟩
theorem chk_in6 {s : Scr} (h : ChkOk s) : ScrIn s := by
  refine ⟨by have := h.nt; omega, by have := h.ns; omega, fun t ht => by have := h.txt t ht; omega, fun x hx => ?_⟩
  have b := stpB_of (h.stp x hx)
  refine ⟨?_, fun a ha => ?_, by have := b.nargs; omega, by have := b.text; omega⟩
  · have hk := b.kind
    unfold isKindB at hk
    simp only [Bool.and_eq_true, decide_eq_true_eq] at hk
    unfold InI
    omega
  · have := b.args a ha
    unfold InI
    omega
theorem rparse_at (text : ByteArray) (w : World) (hs : text.size ≤ 100000000) (r : ParR) (hr : parseS text.data.toList = r) : Calls Tryz.prog 24 #[.string text] w fun e w' =>
    ∃ A n c A' n' c', e = .returned (.agg #[.slice A n c, .slice A' n' c', .int .i64 (r.line : Int), .int .i64 r.err]) ∧ ScrAt w' w'.heap.size (.agg #[.slice A n c, .slice A' n' c']) r.scr ∧ Below w.heap.size w w' := by
  subst hr
  refine (rParse_any text w hs).mono ?_
  rintro e w' ⟨vt, vs, rfl, h, hb⟩
  have h2 := h
  obtain ⟨_, _, e1, ⟨A, c, e2, _⟩, _, _, ⟨A', c', e3, _⟩, _⟩ := h2
  cases e1
  subst e2 e3
  exact ⟨A, _, c, A', _, c', rfl, h, hb⟩
set_option maxRecDepth 100000 in
set_option maxHeartbeats 12800000 in
theorem parses_any (t : ByteArray) (w : World) (ht : t.size ≤ 140737488351232) (hK : KTab w) (hL : LibAt w)
    (hSan : ∀ W, Below w.heap.size w W → Calls Tryz.prog 10 #[] W fun e w' => e = .returned (.bool true) ∧ Below W.heap.size W w') :
    Calls Tryz.prog 4 #[.string t] w fun e w' => e = .returned (.bool true) ∧ Below w.heap.size w w' := by
  have HS := Lib.hid hSan
  by_cases hz : 5000 < t.size
  case pos =>
    have d1 : decide ((5000 : Int) < (t.size : Int)) = true := decide_eq_true (by omega)
    have d2 : (5000 : Int) < (t.size : Int) := by omega
    clear hz hSan hK hL ht
    go_enter Tryz.func4, Tryz.ntmps4
    go_wp2_with fail
    refine (HS.out w (Below.refl _ _)).mono ?_
    rintro e w1 ⟨rfl, hb⟩
    have B1 := Lib.hid hb
    clear hb
    go_wp2_with fail
    go_ret
    exact ⟨rfl, B1.out⟩
  case neg =>
  have d1 : decide ((5000 : Int) < (t.size : Int)) = false := decide_eq_false (by omega)
  have d2 : ¬ (5000 : Int) < (t.size : Int) := by omega
  obtain ⟨R, hR⟩ : ∃ R, parseS t.data.toList = R := ⟨_, rfl⟩
  have HP := Lib.hid (parse_at6 t w (by omega) hK hL R hR)
  have HQ := Lib.hid (fun W => rparse_at t W (by omega) R hR)
  have hval : (R.err = 0 ∧ (checkS R.scr).2 = 0) ∨ (R.err ≠ 0 ∧ R.scr = noScr) := by rw [← hR]; exact readL_valid _ _ _ _ _
  have hin : Hid (ScrIn R.scr) := by
    unfold Hid
    rcases hval with ⟨_, h⟩ | ⟨_, h⟩
    · exact chk_in6 (check_ok h)
    · rw [h]; exact ⟨Nat.zero_le _, Nat.zero_le _, (fun t ht => by cases ht), (fun x hx => by cases hx)⟩
  obtain ⟨q, hq⟩ : ∃ q : Int, (R.line : Int) = q := ⟨_, rfl⟩
  obtain ⟨E, hE⟩ : ∃ E, R.err = E := ⟨_, rfl⟩
  obtain ⟨s, hs⟩ : ∃ s, R.scr = s := ⟨_, rfl⟩
  rw [hq, hE, hs] at HP HQ
  rw [hs] at hin
  have e1 : (q == q) = true := beq_self_eq_true _
  have e2 : (E == E) = true := beq_self_eq_true _
  clear hz hR hq hE hval hs hSan hK hL ht
  go_enter Tryz.func4, Tryz.ntmps4
  go_wp2_with fail
  refine HP.out.mono ?_
  rintro e w1 ⟨A, n, c, A', n', c', rfl, hsc, hb⟩
  have B1 := Lib.hid hb
  have S1 := Lib.hid hsc
  clear hb HP hsc
  go_upto_region 4 with fail
  refine world_is (P := fun W => Code.wp _ _ _ _ W) (fun W2 hW => ?_)
  have hb : Below w1.heap.size w1 W2 := by rw [← hW]; exact (Below.refl _ _).alloc (Nat.le_refl _) _
  have X2 : Hid (Blk W2 w1.heap.size 25 #[.slice A n c, .slice A' n' c']) := by unfold Hid; rw [← hW]; exact Blk.new _ _ _
  have B2 := Lib.hid (B1.out.trans (hb.mono B1.out.size))
  have S2 := Lib.hid ((S1.out.below hb).mono hb.size)
  obtain ⟨xa, hxa⟩ : ∃ g, w1.heap.size = g := ⟨_, rfl⟩
  rw [hxa] at X2
  try rw [hxa]
  clear hW B1 d1 d2 hb S1 hxa
  have HQ2 := Lib.hid (HQ.out W2)
  clear HQ
  go_wp2_with fail
  refine HQ2.out.mono ?_
  rintro e w3 ⟨C, m, d, C', m', d', rfl, htc, hb⟩
  have B3 := Lib.hid (B2.out.trans (hb.mono B2.out.size))
  have X3 := Lib.hid (X2.out.below hb X2.out.lt)
  have S3 := Lib.hid ((S2.out.below hb).mono hb.size)
  have T3 := Lib.hid htc
  clear hb htc HQ2 B2 X2 S2
  go_upto_region 5 with fail
  refine world_is (P := fun W => Code.wp _ _ _ _ W) (fun W4 hW => ?_)
  have hb : Below w3.heap.size w3 W4 := by rw [← hW]; exact (Below.refl _ _).alloc (Nat.le_refl _) _
  have Y4 : Hid (Blk W4 w3.heap.size 43 #[.slice C m d, .slice C' m' d', .int .i64 q, .int .i64 E]) := by unfold Hid; rw [← hW]; exact Blk.new _ _ _
  have B4 := Lib.hid (B3.out.trans (hb.mono B3.out.size))
  have X4 := Lib.hid (X3.out.below hb X3.out.lt)
  have S4 := Lib.hid ((S3.out.below hb).mono hb.size)
  have T4 := Lib.hid ((T3.out.below hb).mono hb.size)
  obtain ⟨ya, hya⟩ : ∃ g, w3.heap.size = g := ⟨_, rfl⟩
  rw [hya] at Y4
  try rw [hya]
  clear hW B3 hb X3 S3 T3 hya
  go_wp2_with fail
  refine (HS.out W4 B4.out).mono ?_
  rintro e w5 ⟨rfl, hb⟩
  have B5 := Lib.hid (B4.out.trans (hb.mono B4.out.size))
  have X5 := Lib.hid (X4.out.below hb X4.out.lt)
  have Y5 := Lib.hid (Y4.out.below hb Y4.out.lt)
  have S5 := (S4.out.below hb).mono hb.size
  have T5 := (T4.out.below hb).mono hb.size
  have HSm := rSame_any s s _ _ w5.heap.size w5 S5 T5 (Nat.le_refl _) hin.out hin.out
  rw [sameE_self6] at HSm
  have HSmH := Lib.hid HSm
  have x0 := X5.out.cell 0
  have x1 := X5.out.cell 1
  have y0 := Y5.out.cell 0
  have y1 := Y5.out.cell 1
  clear hb B4 X4 Y4 S4 T4 S5 T5 HSm
  go_wp2_with fail
  refine HSmH.out.mono ?_
  rintro e w6 ⟨rfl, hb⟩
  have B6 := Lib.hid (B5.out.trans (hb.mono B5.out.size))
  have Y6 := Lib.hid (Y5.out.below hb Y5.out.lt)
  clear hb B5 X5 Y5 HSmH x0 x1 y0 y1
  have y2 := Y6.out.cell 2
  have y3 := Y6.out.cell 3
  go_wp2_with fail
  go_ret
  exact ⟨rfl, B6.out⟩
end Go.Proofs.YtldkfhimpkiigaaGreatDoor
