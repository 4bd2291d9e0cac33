/-
  Layer 46 (script): the law RoundTrip.
-/
import Derived.Test.YtldkfhimpkiigaaGreatDoorScrP7
import Derived.Test.YtldkfhimpkiigaaGreatDoorScrW14
import Derived.Test.YtldkfhimpkiigaaGreatDoorScrW17
namespace Go.Proofs.YtldkfhimpkiigaaGreatDoor
open Go.RowKit ScrP
attribute [local go_sem] Oper.semAt_some

theorem flat_len {α : Type} {f : α → List UInt8} {c : Nat} : ∀ (l : List α), (∀ x ∈ l, (f x).length ≤ c) → (l.flatMap f).length ≤ l.length * c
  | [], _ => Nat.zero_le _
  | x :: l, h => by
    have h1 := h x (List.mem_cons_self ..)
    have h2 := flat_len l (fun y hy => h y (List.mem_cons_of_mem _ hy))
    rw [List.flatMap_cons, List.length_append, List.length_cons, Nat.succ_mul]
    omega
theorem textB_len {t : ByteArray} (h : t.size ≤ 4000) : (textB t).length ≤ 10000 := by
  have h1 := barB_len t.data.toList
  have h2 : t.data.toList.length = t.size := Array.length_toList
  rw [textB_bar]
  simp only [List.length_append, List.length_cons, List.length_nil]
  omega
theorem stepB_len {x : Stp} (h : stepOk x = true) : (stepB x).length ≤ 10000 := by
  have hb := stpB_of h
  have h1 := nameN_small x.kind
  have h2 : (nameN x.kind).data.toList.length = (nameN x.kind).size := Array.length_toList
  have h3 := dataB_len x.text
  have h4 := hb.text
  have h5 : (argsB x.args).length ≤ x.args.length * 22 := flat_len x.args fun a ha => by
    have h6 := hb.args a ha
    have h7 := Lib.itoa_length_le a (by omega) (by omega)
    rw [List.length_cons]
    omega
  have h8 := hb.nargs
  rw [stepB_eq]
  simp only [List.length_append, List.length_cons, List.length_nil]
  omega
theorem printB_len {s : Scr} (h : ChkOk s) : (printB s).length ≤ 5000000 := by
  have h1 := flat_len (f := textB) s.texts (fun t ht => textB_len (h.txt t ht))
  have h2 := flat_len (f := stepB) s.steps (fun x hx => stepB_len (h.stp x hx))
  have h3 := h.nt
  have h4 := h.ns
  unfold printB
  rw [List.length_append]
  omega
theorem sameE_self (s : Scr) : sameE s s = true := by unfold sameE; simp
theorem ba_of {t : ByteArray} {l : List UInt8} (h : t.data.toList = l) : t = ⟨l.toArray⟩ := ByteArray.ext (Array.ext' (by rw [h]))
theorem parse_at (text : ByteArray) (w : World) (hs : text.size ≤ 100000000) (hK : KTab w) (hL : LibAt w) (r : ParR) (hr : parseS text.data.toList = r) : Calls Tryz.prog 23 #[.string text] w fun e w' =>
    ∃ A n c A' n' c', e = .returned (.tuple #[.agg #[.slice A n c, .slice A' n' c'], .int .i64 (r.line : Int), .int .i64 r.err]) ∧ ScrAt w' w'.heap.size (.agg #[.slice A n c, .slice A' n' c']) r.scr ∧ Below w.heap.size w w' := by
  subst hr
  refine (Parse_any text w hs hK hL).mono ?_
  rintro e w' ⟨vt, vs, rfl, h, hb⟩
  have h2 := h
  obtain ⟨_, _, e1, ⟨A, c, e2, _⟩, _, _, ⟨A', c', e3, _⟩, _⟩ := h2
  cases e1
  subst e2 e3
  exact ⟨A, _, c, A', _, c', rfl, h, hb⟩
set_option maxRecDepth 100000 in
set_option maxHeartbeats 12800000 in
theorem round_any (s : Scr) (v : Value) (B : Nat) (w : World) (h : ScrAt w B v s) (hB : B ≤ w.heap.size) (hin : ScrIn s) (hK : KTab w) (hL : LibAt w)
    (hSan : ∀ W, Below w.heap.size w W → Calls Tryz.prog 10 #[] W fun e w' => e = .returned (.bool true) ∧ Below W.heap.size W w') :
    Calls Tryz.prog 5 #[v] w fun e w' => e = .returned (.bool true) ∧ Below w.heap.size w w' := by
  have hall := Lib.hid h
  obtain ⟨vt, vs, rfl, ht, hs⟩ := h
  obtain ⟨At, ct, rfl, _⟩ := id ht
  obtain ⟨_, _, ⟨As, cs, rfl, _⟩, _⟩ := id hs
  have HI := Lib.hid hin
  have HS := Lib.hid hSan
  have hBH := Lib.hid hB
  obtain ⟨T, hT⟩ : ∃ n, s.texts.length = n := ⟨_, rfl⟩
  obtain ⟨N, hN⟩ : ∃ n, s.steps.length = n := ⟨_, rfl⟩
  rw [hT, hN] at hall
  rw [hT, hN]
  have HF := Lib.hid (fun W (hb : Below w.heap.size w W) => few_any s _ B W (hall.out.below (hb.mono hB)) (Nat.le_trans hB hb.size) hin)
  have HPr := Lib.hid (fun W (hb : Below w.heap.size w W) => Print_any s _ B W (hall.out.below (hb.mono hB)) (Nat.le_trans hB hb.size) hin (hK.below hb) (hL.below hb))
  have HCh := Lib.hid (fun W (hb : Below w.heap.size w W) => Check_any s _ B W (hall.out.below (hb.mono hB)) (Nat.le_trans hB hb.size) hin (hK.below hb) (hL.below hb))
  have HPa := Lib.hid (fun W (hb : Below w.heap.size w W) t (hz : t.size ≤ 100000000) r (hr : parseS t.data.toList = r) => parse_at t W hz (hK.below hb) (hL.below hb) r hr)
  have HSm := Lib.hid (fun W (hb : Below w.heap.size w W) u (hu : ScrAt W W.heap.size u s) => rSame_any s s _ u W.heap.size W ((hall.out.below (hb.mono hB)).mono (Nat.le_trans hB hb.size)) hu (Nat.le_refl _) hin hin)
  rw [sameE_self] at HSm
  clear ht hs hin hK hL hB hT hN hSan
  go_enter Tryz.func5, Tryz.ntmps5
  go_upto_region 1 with fail
  refine world_is (P := fun W => Code.wp _ _ _ _ W) (fun W0 hW0 => ?_)
  have B0 : Hid (Below w.heap.size w W0) := by unfold Hid; rw [← hW0]; exact (Below.refl _ _).alloc (Nat.le_refl _) _
  have X0 : Hid (Blk W0 w.heap.size 25 #[.slice At T ct, .slice As N cs]) := by unfold Hid; rw [← hW0]; exact Blk.new _ _ _
  obtain ⟨g, hg⟩ : ∃ g, w.heap.size = g := ⟨_, rfl⟩
  rw [hg] at X0 ⊢
  clear hW0 hg
  have x0 := X0.out.cell 0
  have x1 := X0.out.cell 1
  go_wp2_with fail
  refine (HF.out W0 B0.out).mono ?_
  rintro e w1 ⟨b, rfl, hb⟩
  have B1 := Lib.hid (B0.out.trans (hb.mono B0.out.size))
  have X1 := Lib.hid (X0.out.below hb X0.out.lt)
  clear hb x0 x1 B0 X0 HF
  cases b
  case false =>
    go_wp2_with fail
    refine (HS.out w1 B1.out).mono ?_
    rintro e w2 ⟨rfl, hb⟩
    have B2 := Lib.hid (B1.out.trans (hb.mono B1.out.size))
    clear hb
    go_wp2_with fail
    go_ret
    exact ⟨rfl, B2.out⟩
  case true =>
  have x0 := X1.out.cell 0
  have x1 := X1.out.cell 1
  go_wp2_with fail
  refine (HPr.out w1 B1.out).mono ?_
  rintro e w2 ⟨hb, t, rfl, ht⟩
  have B2 := Lib.hid (B1.out.trans (hb.mono B1.out.size))
  have X2 := Lib.hid (X1.out.below hb X1.out.lt)
  have htH := Lib.hid ht
  clear hb ht x0 x1 B1 X1 HPr
  have x0 := X2.out.cell 0
  have x1 := X2.out.cell 1
  obtain ⟨C, hC⟩ : ∃ C, checkS s = C := ⟨_, rfl⟩
  have hPS : Hid (printS s = if C.2 = 0 then (printB s, 0) else ([], C.2)) := by unfold Hid printS; rw [hC]
  have HC := HCh.out w2 B2.out
  unfold CheckPost at HC
  rw [hC] at HC
  have HCH := Lib.hid HC
  have hCH := Lib.hid hC
  clear HC HCh hC
  go_wp2_with fail
  refine HCH.out.mono ?_
  rintro e w3 ⟨rfl, hb⟩
  have B3 := Lib.hid (B2.out.trans (hb.mono B2.out.size))
  have X3 := Lib.hid (X2.out.below hb X2.out.lt)
  clear hb x0 x1 B2 X2 HCH
  by_cases hc : C.2 = 0
  case neg =>
    have hp : printS s = ([], C.2) := by rw [hPS.out, if_neg hc]
    have ht0 : t = ⟨#[]⟩ := by rw [ba_of (htH.out), hp]
    subst ht0
    rw [hp]
    have d1 : (C.2 != 0) = true := by rw [bne_iff_ne]; exact hc
    have d2 : (C.2 == C.2) = true := beq_self_eq_true _
    clear hp hc
    go_wp2_with fail
    refine (HS.out w3 B3.out).mono ?_
    rintro e w4 ⟨rfl, hb⟩
    have B4 := Lib.hid (B3.out.trans (hb.mono B3.out.size))
    clear hb
    go_wp2_with fail
    go_ret
    exact ⟨rfl, B4.out⟩
  case pos =>
  have hp : printS s = (printB s, 0) := by rw [hPS.out, if_pos hc]
  have hc2 : (checkS s).2 = 0 := by rw [hCH.out]; exact hc
  have htp : t.data.toList = printB s := by rw [htH.out, hp]
  have htz : t.size ≤ 100000000 := by
    have h1 := printB_len (check_ok hc2)
    rw [← htp] at h1
    have h2 : t.data.toList.length = t.size := Array.length_toList
    omega
  have HP := Lib.hid (HPa.out w3 B3.out t htz ⟨s, 0, 0⟩ (by rw [htp]; exact parse_print hc2))
  rw [hp]
  have d1 : (C.2 == 0) = true := by rw [beq_iff_eq]; exact hc
  have hcH := Lib.hid hc
  clear hp hc hc2 htp htz HPa
  go_wp2_with fail
  refine HP.out.mono ?_
  rintro e w4 ⟨A, n, c, A', n', c', rfl, hsc, hb⟩
  have B4 := Lib.hid (B3.out.trans (hb.mono B3.out.size))
  have X4 := Lib.hid (X3.out.below hb X3.out.lt)
  have S4 := Lib.hid hsc
  clear hb hsc B3 X3 HP
  go_upto_region 8 with fail
  refine world_is (P := fun W => Code.wp _ _ _ _ W) (fun W5 hW5 => ?_)
  have hb : Below w4.heap.size w4 W5 := by rw [← hW5]; exact (Below.refl _ _).alloc (Nat.le_refl _) _
  have Y5 : Hid (Blk W5 w4.heap.size 25 #[.slice A n c, .slice A' n' c']) := by unfold Hid; rw [← hW5]; exact Blk.new _ _ _
  have B5 := Lib.hid (B4.out.trans (hb.mono B4.out.size))
  have X5 := Lib.hid (X4.out.below hb X4.out.lt)
  have S5 := Lib.hid ((S4.out.below hb).mono hb.size)
  obtain ⟨a, ha⟩ : ∃ a, w4.heap.size = a := ⟨_, rfl⟩
  rw [ha] at Y5 ⊢
  clear hW5 hb ha B4 X4 S4
  go_wp2_with fail
  refine (HS.out W5 B5.out).mono ?_
  rintro e w6 ⟨rfl, hb⟩
  have B6 := Lib.hid (B5.out.trans (hb.mono B5.out.size))
  have X6 := Lib.hid (X5.out.below hb X5.out.lt)
  have Y6 := Lib.hid (Y5.out.below hb Y5.out.lt)
  have S6 := Lib.hid ((S5.out.below hb).mono hb.size)
  clear hb B5 X5 Y5 S5
  have x0 := X6.out.cell 0
  have x1 := X6.out.cell 1
  have y0 := Y6.out.cell 0
  have y1 := Y6.out.cell 1
  have HSm2 := Lib.hid (HSm.out w6 B6.out _ S6.out)
  clear HSm
  go_wp2_with fail
  refine HSm2.out.mono ?_
  rintro e w7 ⟨rfl, hb⟩
  have B7 := Lib.hid (B6.out.trans (hb.mono B6.out.size))
  clear hb
  go_wp2_with fail
  go_ret
  exact ⟨rfl, B7.out⟩
end Go.Proofs.YtldkfhimpkiigaaGreatDoor
