/-
  Layer 12 (parse): a quorum.
-/
import Derived.Test.YtemhiiignamkjaaDoorParW3
import Derived.Deep.Cut
namespace Go.Proofs.YtemhiiignamkjaaDoor
open Go.RowKit LexP ParP
attribute [local go_sem] Oper.semAt_some

section
variable {w w' : World} {B g n m a : Nat} {tv nm vt vr vq vn ve : Value} {st : St} {l : List Tok}
theorem opt_yes {s : ByteArray} {z : Nat} {t : Tok} (ht : l[n]? = some t) (hp : isText s t = true) : opt s z (l.drop n) = (num (l.drop (n + 1))).bind fun l2 t => .ok l2 t.n := by
  unfold opt
  have hp' : (t.text.toList == s.toList) = true := hp
  rw [peek_at ht, if_pos hp']
  unfold expect
  rw [take_drop_yes ht hp]
  rfl
theorem opt_no {s : ByteArray} {z : Nat} (h : ¬ ∃ t, l[n]? = some t ∧ isText s t = true) (hs0 : ¬ s.data.toList = []) : opt s z (l.drop n) = .ok (l.drop n) z := by
  have hs : ¬ s.toList = (⟨#[]⟩ : ByteArray).toList := by rw [ByteArray.toList_eq, ByteArray.toList_eq]; exact hs0
  unfold opt
  rw [if_neg]
  intro hc
  by_cases hlt : n < l.length
  · have hTn := List.getElem?_eq_getElem hlt
    rw [peek_at hTn] at hc
    exact h ⟨_, hTn, hc⟩
  · rw [peek_end (Nat.le_of_not_lt hlt)] at hc
    exact hs (beq_iff_eq.1 hc).symm
end

set_option maxRecDepth 100000 in
set_option maxHeartbeats 12800000 in
theorem quorum_any {w : World} {B g n : Nat} {z : Value} {tv nm vt vr vq vn ve : Value} {st : St} {l : List Tok} (hP : PIs w B g n tv nm vt vr vq vn ve st) (hT : TkAt w B tv l) (hTB : TabsAt w B) (hg : B ≤ g) (hn : n ≤ l.length) (hl : l.length ≤ 4000) (hst : st.quos.length ≤ 4000) :
    Calls Tryd.prog 54 #[.pointer (some ⟨g, 0, none⟩), z] w (ItemPost w B g tv nm vt vr vq vn ve l ((rdQuo (l.drop n)).bind fun r x => .ok r { st with quos := st.quos ++ [x] })) := by
  have hgl := hP.blk.lt
  have hl2 : l.length ≤ 1048576 := Nat.le_trans hl (by decide)
  have hBg : Hid (B ≤ w.heap.size) := Nat.le_trans hg (Nat.le_of_lt hgl)
  have HP := Lib.hid hP
  have HT := Lib.hid hT
  have HL : Hid (Frm B g vt vr vq vn ve w w) := Frm.refl
  have hlen : Hid (st.quos.length + 1 ≤ 1000000) := Nat.le_trans (Nat.succ_le_succ hst) (by decide)
  clear hP hT hst
  go_enter Tryd.func54, Tryd.ntmps54
  go_wp2_with fail
  refine (take_command w g B n tv nm vt vr vq vn ve l HP.out.blk (hTB.commands w (Below.refl _ _)) HT.out hg hn hl2).mono ?_
  rintro e w1 (⟨t1, ht1, hpt1, rfl, hb1, hG1⟩ | ⟨hno, rfl, hb1, hG1⟩)
  case inr =>
    go_wp2_with fail
    exact ⟨rfl, item_bad (HL.out.trans (frm_grown hG1 hg HP.out.blk.lt)) hn (by unfold rdQuo; rw [take_drop_no (p := isCommand) hno]; rfl)⟩
  unfold tokAgg
  have hfd := tok_text (t1.kind : Int) t1.text (t1.n : Int) (t1.pos : Int)
  have E1 : Hid (take isCommand (l.drop n) = .ok (l.drop (n + 1)) t1) := take_drop_yes ht1 hpt1
  have L1 := Lib.hid (HL.out.trans (frm_grown hG1 hg HP.out.blk.lt))
  have HP1 := Lib.hid (HP.out.step (m := n + 1) hG1 hb1)
  have hn1 := lt_of_at ht1
  have HT1 := Lib.hid (HT.out.below L1.out.bel)
  clear hb1 hG1 ht1 hpt1
  go_wp2_with fail
  refine (Command_any t1.text w1 (hTB.commands w1 L1.out.bel)).mono ?_
  rintro e w1 ⟨rfl, rfl⟩
  clear hfd
  go_wp2_with fail
  refine (number_any' HP1.out.blk HT1.out hg hn1 hl2).mono ?_
  rintro e w2 (⟨t2, ht2, hpt2, rfl, hb2, hG2⟩ | ⟨hno, rfl, hb2, hG2⟩)
  case inr =>
    go_wp2_with fail
    exact ⟨rfl, item_bad (L1.out.trans (frm_grown hG2 hg HP1.out.blk.lt)) hn1 (by unfold rdQuo; rw [E1.out]; simp only [Rd.bind]; unfold num; rw [take_drop_no (p := isNumT) hno])⟩
  have E2 : Hid (num (l.drop (n + 1)) = .ok (l.drop (n + 1 + 1)) t2) := take_drop_yes ht2 hpt2
  have L2 := Lib.hid (L1.out.trans (frm_grown hG2 hg HP1.out.blk.lt))
  have HP2 := Lib.hid (HP1.out.step (m := n + 1 + 1) hG2 hb2)
  have hn2 := lt_of_at ht2
  have HT2 := Lib.hid (HT.out.below L2.out.bel)
  clear hb2 hG2 ht2 hpt2
  obtain ⟨cm, hcm⟩ : ∃ c, commandN t1.text = c := ⟨_, rfl⟩
  rw [hcm]
  go_upto_region 1 with fail
  refine world_is (P := fun W => Code.wp _ _ _ _ W) (fun W3 hW3 => ?_)
  have hB3 : Below w2.heap.size w2 W3 := by rw [← hW3]; exact (Below.refl _ _).alloc (Nat.le_refl _) _
  have Q3 : Hid (Blk W3 w2.heap.size 55 #[.int .i64 cm, .int .i64 t2.n, .int .i64 0, .int .i64 0, .int .i64 1]) := by unfold Hid; rw [← hW3]; exact Blk.new _ _ _
  have L3 := Lib.hid (L2.out.trans (frm_below hB3 (Nat.le_trans hBg.out L2.out.bel.size)))
  have HP3 := Lib.hid (HP2.out.below hB3)
  have HT3 := Lib.hid (HT.out.below L3.out.bel)
  obtain ⟨aq, eaq⟩ : ∃ a, w2.heap.size = a := ⟨_, rfl⟩
  rw [eaq] at Q3 ⊢
  have hgq : g ≠ aq := by rw [← eaq]; exact Nat.ne_of_lt HP2.out.blk.lt
  have hBq : B ≤ aq := by rw [← eaq]; exact Nat.le_trans hBg.out L2.out.bel.size
  have hwq : w.heap.size ≤ aq := by rw [← eaq]; exact L2.out.bel.size
  have hAp : Hid (Apart aq vt vr vq vn ve) := by unfold Hid; rw [← eaq]; exact HP.out.apart L2.out.bel.size
  clear hW3 hB3 HP2 L2 HT2 HP1 L1 HT1 eaq
  go_upto_if 13 with (go_at_call 58; refine (accept_any ⟨#[97, 102, 116, 101, 114]⟩ (by decide) HP3.out.blk HT3.out hn2 hl2).mono ?_; rintro e w11 ⟨b11, hbi11, rfl, hb11, hG11⟩)
  have L11 := Lib.hid (L3.out.trans (frm_grown hG11 hg HP3.out.blk.lt))
  have Q11 := Lib.hid (Q3.out.grown hG11 (fun e => hgq (by cases e; rfl)))
  have hbiH11 := Lib.hid hbi11
  have hbH11 := Lib.hid hb11
  have hGH11 := Lib.hid hG11
  clear hbi11 hb11 hG11
  go_cut [] from 14 (fun wx => ∃ n4 d : Nat, n4 ≤ l.length ∧ Hid (opt wAfter 0 (l.drop (n + 1 + 1)) = .ok (l.drop n4) d) ∧ Hid (PIs wx B g (n4) tv nm vt vr vq vn ve st) ∧ Hid (Blk wx aq 55 #[.int .i64 cm, .int .i64 t2.n, .int .i64 (d : Int), .int .i64 0, .int .i64 1]) ∧ Hid (Frm B g vt vr vq vn ve w wx))
  case first =>
    cases b11
    case false =>
      go_wp2_with fail
      go_meet
      exact ⟨_, 0, hn2, opt_no (fun h => by have := hbiH11.out.2 h; cases this) (by decide), HP3.out.step hGH11.out hbH11.out, Q11.out, L11.out⟩
    case true =>
      obtain ⟨u11, hu11, hpu11⟩ := hbiH11.out.1 rfl
      have hn11 := lt_of_at hu11
      have HP11 := Lib.hid (HP3.out.step (m := n + 1 + 1 + 1) hGH11.out hbH11.out)
      have HT11 := Lib.hid (HT.out.below L11.out.bel)
      have hq11 : Hid (opt wAfter 0 (l.drop (n + 1 + 1)) = (num (l.drop (n + 1 + 1 + 1))).bind fun l2 t => .ok l2 t.n) := opt_yes hu11 hpu11
      clear hu11 hpu11 hbiH11 hbH11 hGH11
      go_wp2_with fail
      refine (number_any' HP11.out.blk HT11.out hg hn11 hl2).mono ?_
      rintro e w12 (⟨t12, ht12, hpt12, rfl, hb12, hG12⟩ | ⟨hno, rfl, hb12, hG12⟩)
      case inr =>
        go_wp2_with fail
        exact ⟨rfl, item_bad (L11.out.trans (frm_grown hG12 hg HP11.out.blk.lt)) hn11 (by unfold rdQuo; rw [E1.out]; simp only [Rd.bind]; rw [E2.out]; simp only []; rw [hq11.out]; unfold num; rw [take_drop_no (p := isNumT) hno]; rfl)⟩
      have L12 := Lib.hid (L11.out.trans (frm_grown hG12 hg HP11.out.blk.lt))
      have HP12 := Lib.hid (HP11.out.step (m := n + 1 + 1 + 1 + 1) hG12 hb12)
      have Q12 := Lib.hid (Q11.out.grown hG12 (fun e => hgq (by cases e; rfl)))
      have hn12 := lt_of_at ht12
      have hE12 : Hid (opt wAfter 0 (l.drop (n + 1 + 1)) = .ok (l.drop (n + 1 + 1 + 1 + 1)) t12.n) := by unfold Hid; rw [hq11.out]; unfold num; rw [take_drop_yes ht12 hpt12]; rfl
      have cc : w12.cell? ⟨aq, 2, none⟩ = some (.int .i64 0) := Q12.out.cell 2
      have ff := Q12.out.frozen 2
      clear hb12 hG12 ht12 hpt12
      go_wp2_with fail
      go_meet
      exact ⟨_, t12.n, hn12, hE12.out, HP12.out.other (grown_ofSet _ aq 2 _) hgq hAp.out, Q12.out.set_ 2 _, L12.out.setN (a := aq) hBq hwq 2 _⟩
  case rest =>
    obtain ⟨n11, d11, hn11, E11, HP11, Q11, L11⟩ := hcut
    have HT11 := Lib.hid (HT.out.below L11.out.bel)
    obtain ⟨wa, rfl⟩ : ∃ x, x = wc := ⟨_, rfl⟩
    go_wp2_with fail
    refine (expect_any wa g B n11 ⟨#[119, 105, 116, 104, 105, 110]⟩ tv nm vt vr vq vn ve l HP11.out.blk HT11.out hg hn11 hl2).mono ?_
    rintro e w15 (⟨t15, ht15, hpt15, rfl, hb15, hG15⟩ | ⟨hno, rfl, hb15, hG15⟩)
    case inr =>
      go_wp2_with fail
      exact ⟨rfl, item_bad (L11.out.trans (frm_grown hG15 hg HP11.out.blk.lt)) hn11 (by unfold rdQuo; rw [E1.out]; simp only [Rd.bind]; rw [E2.out]; simp only []; rw [E11.out]; simp only []; unfold expect; rw [take_drop_no (p := isText wWithin) hno])⟩
    have E15 : Hid (expect wWithin (l.drop (n11)) = .ok (l.drop (n11 + 1)) t15) := take_drop_yes ht15 hpt15
    have L15 := Lib.hid (L11.out.trans (frm_grown hG15 hg HP11.out.blk.lt))
    have HP15 := Lib.hid (HP11.out.step (m := n11 + 1) hG15 hb15)
    have hn15 := lt_of_at ht15
    have Q15 := Lib.hid (Q11.out.grown hG15 (fun e => hgq (by cases e; rfl)))
    have HT15 := Lib.hid (HT.out.below L15.out.bel)
    clear hb15 hG15 ht15 hpt15
    go_wp2_with fail
    refine (number_any' HP15.out.blk HT15.out hg hn15 hl2).mono ?_
    rintro e w16 (⟨t16, ht16, hpt16, rfl, hb16, hG16⟩ | ⟨hno, rfl, hb16, hG16⟩)
    case inr =>
      go_wp2_with fail
      exact ⟨rfl, item_bad (L15.out.trans (frm_grown hG16 hg HP15.out.blk.lt)) hn15 (by unfold rdQuo; rw [E1.out]; simp only [Rd.bind]; rw [E2.out]; simp only []; rw [E11.out]; simp only []; rw [E15.out]; simp only []; unfold num; rw [take_drop_no (p := isNumT) hno])⟩
    have E16 : Hid (num (l.drop (n11 + 1)) = .ok (l.drop (n11 + 1 + 1)) t16) := take_drop_yes ht16 hpt16
    have L16 := Lib.hid (L15.out.trans (frm_grown hG16 hg HP15.out.blk.lt))
    have HP16 := Lib.hid (HP15.out.step (m := n11 + 1 + 1) hG16 hb16)
    have hn16 := lt_of_at ht16
    have Q16 := Lib.hid (Q15.out.grown hG16 (fun e => hgq (by cases e; rfl)))
    have HT16 := Lib.hid (HT.out.below L16.out.bel)
    clear hb16 hG16 ht16 hpt16
    have cc : w16.cell? ⟨aq, 3, none⟩ = some (.int .i64 0) := Q16.out.cell 3
    have ff := Q16.out.frozen 3
    go_upto_region 5 with fail
    refine world_is (P := fun W => Code.wp _ _ _ _ W) (fun W17 hW17 => ?_)
    have Q17 : Hid (Blk W17 aq 55 #[.int .i64 cm, .int .i64 t2.n, .int .i64 (d11 : Int), .int .i64 t16.n, .int .i64 1]) := by unfold Hid; rw [← hW17]; exact Q16.out.set_ 3 _
    have HP17 : Hid (PIs W17 B g (n11 + 1 + 1) tv nm vt vr vq vn ve st) := by unfold Hid; rw [← hW17]; exact HP16.out.other (grown_ofSet _ aq 3 _) hgq hAp.out
    have L17 : Hid (Frm B g vt vr vq vn ve w W17) := by unfold Hid; rw [← hW17]; exact L16.out.setN (a := aq) hBq hwq 3 _
    have HT17 := Lib.hid (HT.out.below L17.out.bel)
    clear hW17 cc ff Q16 HP16 L16 HT16
    go_upto_if 23 with (go_at_call 58; refine (accept_any ⟨#[117, 115, 101, 115]⟩ (by decide) HP17.out.blk HT17.out hn16 hl2).mono ?_; rintro e w21 ⟨b21, hbi21, rfl, hb21, hG21⟩)
    have L21 := Lib.hid (L17.out.trans (frm_grown hG21 hg HP17.out.blk.lt))
    have Q21 := Lib.hid (Q17.out.grown hG21 (fun e => hgq (by cases e; rfl)))
    have hbiH21 := Lib.hid hbi21
    have hbH21 := Lib.hid hb21
    have hGH21 := Lib.hid hG21
    clear hbi21 hb21 hG21
    go_cut [] from 24 (fun wx => ∃ n4 d : Nat, n4 ≤ l.length ∧ Hid (opt wUses 1 (l.drop (n11 + 1 + 1)) = .ok (l.drop n4) d) ∧ Hid (PIs wx B g (n4) tv nm vt vr vq vn ve st) ∧ Hid (Blk wx aq 55 #[.int .i64 cm, .int .i64 t2.n, .int .i64 (d11 : Int), .int .i64 t16.n, .int .i64 (d : Int)]) ∧ Hid (Frm B g vt vr vq vn ve w wx))
    case first =>
      cases b21
      case false =>
        go_wp2_with fail
        go_meet
        exact ⟨_, 1, hn16, opt_no (fun h => by have := hbiH21.out.2 h; cases this) (by decide), HP17.out.step hGH21.out hbH21.out, Q21.out, L21.out⟩
      case true =>
        obtain ⟨u21, hu21, hpu21⟩ := hbiH21.out.1 rfl
        have hn21 := lt_of_at hu21
        have HP21 := Lib.hid (HP17.out.step (m := n11 + 1 + 1 + 1) hGH21.out hbH21.out)
        have HT21 := Lib.hid (HT.out.below L21.out.bel)
        have hq21 : Hid (opt wUses 1 (l.drop (n11 + 1 + 1)) = (num (l.drop (n11 + 1 + 1 + 1))).bind fun l2 t => .ok l2 t.n) := opt_yes hu21 hpu21
        clear hu21 hpu21 hbiH21 hbH21 hGH21
        go_wp2_with fail
        refine (number_any' HP21.out.blk HT21.out hg hn21 hl2).mono ?_
        rintro e w22 (⟨t22, ht22, hpt22, rfl, hb22, hG22⟩ | ⟨hno, rfl, hb22, hG22⟩)
        case inr =>
          go_wp2_with fail
          exact ⟨rfl, item_bad (L21.out.trans (frm_grown hG22 hg HP21.out.blk.lt)) hn21 (by unfold rdQuo; rw [E1.out]; simp only [Rd.bind]; rw [E2.out]; simp only []; rw [E11.out]; simp only []; rw [E15.out]; simp only []; rw [E16.out]; simp only []; rw [hq21.out]; unfold num; rw [take_drop_no (p := isNumT) hno]; rfl)⟩
        have L22 := Lib.hid (L21.out.trans (frm_grown hG22 hg HP21.out.blk.lt))
        have HP22 := Lib.hid (HP21.out.step (m := n11 + 1 + 1 + 1 + 1) hG22 hb22)
        have Q22 := Lib.hid (Q21.out.grown hG22 (fun e => hgq (by cases e; rfl)))
        have hn22 := lt_of_at ht22
        have hE22 : Hid (opt wUses 1 (l.drop (n11 + 1 + 1)) = .ok (l.drop (n11 + 1 + 1 + 1 + 1)) t22.n) := by unfold Hid; rw [hq21.out]; unfold num; rw [take_drop_yes ht22 hpt22]; rfl
        have cc : w22.cell? ⟨aq, 4, none⟩ = some (.int .i64 1) := Q22.out.cell 4
        have ff := Q22.out.frozen 4
        clear hb22 hG22 ht22 hpt22
        go_wp2_with fail
        go_meet
        exact ⟨_, t22.n, hn22, hE22.out, HP22.out.other (grown_ofSet _ aq 4 _) hgq hAp.out, Q22.out.set_ 4 _, L22.out.setN (a := aq) hBq hwq 4 _⟩
    case rest =>
      obtain ⟨n21, d21, hn21, E21, HP21, Q21, L21⟩ := hcut
      have HT21 := Lib.hid (HT.out.below L21.out.bel)
      obtain ⟨wb, rfl⟩ : ∃ x, x = wc := ⟨_, rfl⟩
      go_wp2_with fail
      refine (expect_any wb g B n21 ⟨#[59]⟩ tv nm vt vr vq vn ve l HP21.out.blk HT21.out hg hn21 hl2).mono ?_
      rintro e w25 (⟨t25, ht25, hpt25, rfl, hb25, hG25⟩ | ⟨hno, rfl, hb25, hG25⟩)
      case inr =>
        go_wp2_with fail
        exact ⟨rfl, item_bad (L21.out.trans (frm_grown hG25 hg HP21.out.blk.lt)) hn21 (by unfold rdQuo; rw [E1.out]; simp only [Rd.bind]; rw [E2.out]; simp only []; rw [E11.out]; simp only []; rw [E15.out]; simp only []; rw [E16.out]; simp only []; rw [E21.out]; simp only []; unfold expect; rw [take_drop_no (p := isText wSemi) hno])⟩
      have E25 : Hid (expect wSemi (l.drop (n21)) = .ok (l.drop (n21 + 1)) t25) := take_drop_yes ht25 hpt25
      have L25 := Lib.hid (L21.out.trans (frm_grown hG25 hg HP21.out.blk.lt))
      have HP25 := Lib.hid (HP21.out.step (m := n21 + 1) hG25 hb25)
      have hn25 := lt_of_at ht25
      have Q25 := Lib.hid (Q21.out.grown hG25 (fun e => hgq (by cases e; rfl)))
      have HT25 := Lib.hid (HT.out.below L25.out.bel)
      clear hb25 hG25 ht25 hpt25
      have hres : Hid ((rdQuo (l.drop n)).bind (fun r x => .ok r { st with quos := st.quos ++ [x] }) = .ok (l.drop (n21 + 1)) { st with quos := st.quos ++ [⟨commandN t1.text, t2.n, d11, t16.n, d21⟩] }) := by
        unfold Hid rdQuo
        rw [E1.out]
        simp only [Rd.bind]
        rw [E2.out]
        simp only []
        rw [E11.out]
        simp only []
        rw [E15.out]
        simp only []
        rw [E16.out]
        simp only []
        rw [E21.out]
        simp only []
        rw [E25.out]
      rw [hcm] at hres
      go_upto_region 8 with fail
      have RQ := Lib.hid HP25.out.rq
      have RT := Lib.hid HP25.out.rt
      have RR := Lib.hid HP25.out.rr
      have RN := Lib.hid HP25.out.rn
      have RE := Lib.hid HP25.out.re
      have PB := Lib.hid HP25.out.blk
      refine Late.wp_region_late (S := fun w' => w'.cell? ⟨g, 5, none⟩ = some (vq) ∧ w'.cell? ⟨aq, 0, none⟩ = some (.int .i64 cm) ∧ w'.cell? ⟨aq, 1, none⟩ = some (.int .i64 t2.n) ∧ w'.cell? ⟨aq, 2, none⟩ = some (.int .i64 (d11 : Int)) ∧ w'.cell? ⟨aq, 3, none⟩ = some (.int .i64 t16.n) ∧ w'.cell? ⟨aq, 4, none⟩ = some (.int .i64 (d21 : Int))) [12] (by kernel_rfl) (⟨PB.out.cell 5, Q25.out.cell 0, Q25.out.cell 1, Q25.out.cell 2, Q25.out.cell 3, Q25.out.cell 4⟩) (fun hHeld => ?_)
      refine' Late.wpAnyK_take (i := 0) (v := ?v0xp) rfl (by kernel_rfl) (by kernel_rfl) (by kernel_rfl) (by kernel_rfl) (by kernel_rfl) (fun _ _ _ h => h) (Or.inl ⟨by rfl, ?hy0xp⟩) hHeld ?rest0xp
      case hy0xp => intro w hSw; (try dsimp only at hSw); go_simp; all_goals with_reducible rfl
      try simp only [Act.put, List.setIfInBounds_toArray, List.set_cons_zero, List.set_cons_succ, List.getElem_toArray, List.getElem_cons_zero]
      refine' Late.wpAnyK_take (i := 1) (v := ?v1xp) rfl (by kernel_rfl) (by kernel_rfl) (by kernel_rfl) (by kernel_rfl) (by kernel_rfl) (fun _ _ _ h => h) (Or.inl ⟨by rfl, ?hy1xp⟩) hHeld ?rest1xp
      case hy1xp => intro w hSw; (try dsimp only at hSw); go_simp; all_goals with_reducible rfl
      try simp only [Act.put, List.setIfInBounds_toArray, List.set_cons_zero, List.set_cons_succ, List.getElem_toArray, List.getElem_cons_zero, List.getElem_cons_succ]
      refine' Late.wpAnyK_take (i := 2) (v := ?v2xp) rfl (by kernel_rfl) (by kernel_rfl) (by kernel_rfl) (by kernel_rfl) (by kernel_rfl) (fun _ _ _ h => h) (Or.inl ⟨by rfl, ?hy2xp⟩) hHeld ?rest2xp
      case hy2xp => intro w hSw; (try dsimp only at hSw); go_simp; all_goals with_reducible rfl
      try simp only [Act.put, List.setIfInBounds_toArray, List.set_cons_zero, List.set_cons_succ, List.getElem_toArray, List.getElem_cons_zero, List.getElem_cons_succ]
      refine' Late.wpAnyK_take (i := 3) (v := ?v3xp) rfl (by kernel_rfl) (by kernel_rfl) (by kernel_rfl) (by kernel_rfl) (by kernel_rfl) (fun _ _ _ h => h) (Or.inl ⟨by rfl, ?hy3xp⟩) hHeld ?rest3xp
      case hy3xp => intro w hSw; (try dsimp only at hSw); go_simp; all_goals with_reducible rfl
      try simp only [Act.put, List.setIfInBounds_toArray, List.set_cons_zero, List.set_cons_succ, List.getElem_toArray, List.getElem_cons_zero, List.getElem_cons_succ]
      refine' Late.wpAnyK_take (i := 4) (v := ?v4xp) rfl (by kernel_rfl) (by kernel_rfl) (by kernel_rfl) (by kernel_rfl) (by kernel_rfl) (fun _ _ _ h => h) (Or.inl ⟨by rfl, ?hy4xp⟩) hHeld ?rest4xp
      case hy4xp => intro w hSw; (try dsimp only at hSw); go_simp; all_goals with_reducible rfl
      try simp only [Act.put, List.setIfInBounds_toArray, List.set_cons_zero, List.set_cons_succ, List.getElem_toArray, List.getElem_cons_zero, List.getElem_cons_succ]
      refine' Late.wpAnyK_take (i := 5) (v := ?v5xp) rfl (by kernel_rfl) (by kernel_rfl) (by kernel_rfl) (by kernel_rfl) (by kernel_rfl) (fun _ _ _ h => h) (Or.inl ⟨by rfl, ?hy5xp⟩) hHeld ?rest5xp
      case hy5xp => intro w hSw; (try dsimp only at hSw); go_simp; all_goals with_reducible rfl
      try simp only [Act.put, List.setIfInBounds_toArray, List.set_cons_zero, List.set_cons_succ, List.getElem_toArray, List.getElem_cons_zero, List.getElem_cons_succ]
      refine' Late.wpAnyK_take (i := 6) (v := ?v6xp) rfl (by kernel_rfl) (by kernel_rfl) (by kernel_rfl) (by kernel_rfl) (by kernel_rfl) (fun _ _ _ h => h) (Or.inl ⟨by rfl, ?hy6xp⟩) hHeld ?rest6xp
      case hy6xp => intro w hSw; (try dsimp only at hSw); go_simp; all_goals with_reducible rfl
      try simp only [Act.put, List.setIfInBounds_toArray, List.set_cons_zero, List.set_cons_succ, List.getElem_toArray, List.getElem_cons_zero, List.getElem_cons_succ]
      refine Late.wpAnyK_ready (rs := [7]) (by kernel_rfl) (by simp) ?_
      refine Late.AllReadyK.cons rfl (fun KQ hKQ => ?_) Late.AllReadyK.nil
      go_simp
      refine world_is (P := fun W => KQ _ W) (fun x1 hw9 => ?_)
      have Rx1_q : Hid (World.ownsRow x1 B 55 5 vq (st.quos.length) (quosC st.quos)) := by unfold Hid; rw [← hw9]; exact World.ownsRow.alloc RQ.out _
      have Rx1_t : Hid (World.ownsRow x1 B 51 3 vt (st.typs.length) (typsC st.typs)) := by unfold Hid; rw [← hw9]; exact World.ownsRow.alloc RT.out _
      have Rx1_r : Hid (World.ownsRow x1 B 53 3 vr (st.ruls.length) (rulsC st.ruls)) := by unfold Hid; rw [← hw9]; exact World.ownsRow.alloc RR.out _
      have Rx1_n : Hid (World.ownsRow x1 B 47 4 vn (st.typs.length) (namesC st.typs)) := by unfold Hid; rw [← hw9]; exact World.ownsRow.alloc RN.out _
      have Rx1_e : Hid (World.ownsRow x1 B 101 8 ve (st.ruls.length) (endsC st.ruls)) := by unfold Hid; rw [← hw9]; exact World.ownsRow.alloc RE.out _
      have Px1_u : Hid (Blk x1 aq 55 #[.int .i64 cm, .int .i64 t2.n, .int .i64 (d11 : Int), .int .i64 t16.n, .int .i64 (d21 : Int)]) := by unfold Hid; rw [← hw9]; exact Q25.out.alloc _
      have Px1_p : Hid (Blk x1 g 61 #[tv, .int .i64 ((n21 + 1 : Nat) : Int), nm, vt, vr, vq, vn, ve]) := by unfold Hid; rw [← hw9]; exact PB.out.alloc _
      have Fx1_q : Hid (Blk x1 w25.heap.size 55 #[.int .i64 cm, .int .i64 t2.n, .int .i64 (d11 : Int), .int .i64 t16.n, .int .i64 (d21 : Int)]) := by unfold Hid; rw [← hw9]; exact Blk.new _ _ _
      have Lx1_b : Hid (Frm B g vt vr vq vn ve w x1) := by unfold Hid; rw [← hw9]; first | exact L25.out.alloc (Nat.le_trans hBg.out L25.out.bel.size) _ | exact Frm.drew (L25.out.alloc (Nat.le_trans hBg.out L25.out.bel.size) _)
      clear hw9
      refine hKQ.out _ _ (⟨Px1_p.out.cell 5, Px1_u.out.cell 0, Px1_u.out.cell 1, Px1_u.out.cell 2, Px1_u.out.cell 3, Px1_u.out.cell 4⟩) (fun hHeld2 => ?_)
      clear hKQ KQ hHeld
      have hHeld := hHeld2
      clear hHeld2
      try simp only [Act.put, List.setIfInBounds_toArray, List.set_cons_zero, List.set_cons_succ, List.getElem_toArray, List.getElem_cons_zero, List.getElem_cons_succ]
      refine Late.wpAnyK_ready (rs := [8]) (by kernel_rfl) (by simp) ?_
      refine Late.AllReadyK.cons rfl (fun KQ hKQ => ?_) Late.AllReadyK.nil
      refine wp_gcat_op 25 55 (.agg #[.int .i64 0, .int .i64 0, .int .i64 0, .int .i64 0, .int .i64 0]) 5 40 Tryd.underlying25 (by kernel_rfl) rfl (by decide) (by decide) _ _ rfl B vq (st.quos.length) (quosC st.quos) rfl Rx1_q.out (w25.heap.size) 1 1 [.int .i64 cm, .int .i64 t2.n, .int .i64 (d11 : Int), .int .i64 t16.n, .int .i64 (d21 : Int)] rfl rfl Fx1_q.out (by intro u hu; simp only [List.mem_cons, List.not_mem_nil, or_false] at hu; rcases hu with rfl | rfl | rfl | rfl | rfl <;> rfl) hlen.out (Nat.le_trans hBg.out Lx1_b.out.bel.size) ?_
      intro vx2 x2 hP9
      obtain ⟨Ax2, Cx2, rfl⟩ := own_slice hP9.row
      have Rx2_q : Hid (World.ownsRow x2 B 55 5 (.slice Ax2 (st.quos.length + 1) Cx2) (st.quos.length + 1) (quosC st.quos ++ [.int .i64 cm, .int .i64 t2.n, .int .i64 (d11 : Int), .int .i64 t16.n, .int .i64 (d21 : Int)])) := by unfold Hid; exact hP9.row
      have Rx2_t : Hid (World.ownsRow x2 B 51 3 vt (st.typs.length) (typsC st.typs)) := by unfold Hid; exact World.ownsRow.kept Rx1_t.out hP9.grown (own_own_ne Rx1_t.out Rx1_q.out (by decide))
      have Rx2_r : Hid (World.ownsRow x2 B 53 3 vr (st.ruls.length) (rulsC st.ruls)) := by unfold Hid; exact World.ownsRow.kept Rx1_r.out hP9.grown (own_own_ne Rx1_r.out Rx1_q.out (by decide))
      have Rx2_n : Hid (World.ownsRow x2 B 47 4 vn (st.typs.length) (namesC st.typs)) := by unfold Hid; exact World.ownsRow.kept Rx1_n.out hP9.grown (own_own_ne Rx1_n.out Rx1_q.out (by decide))
      have Rx2_e : Hid (World.ownsRow x2 B 101 8 ve (st.ruls.length) (endsC st.ruls)) := by unfold Hid; exact World.ownsRow.kept Rx1_e.out hP9.grown (own_own_ne Rx1_e.out Rx1_q.out (by decide))
      have Px2_u : Hid (Blk x2 aq 55 #[.int .i64 cm, .int .i64 t2.n, .int .i64 (d11 : Int), .int .i64 t16.n, .int .i64 (d21 : Int)]) := by unfold Hid; exact Px1_u.out.grown hP9.grown (Ne.symm hAp.out.2.2.1)
      have Px2_p : Hid (Blk x2 g 61 #[tv, .int .i64 ((n21 + 1 : Nat) : Int), nm, vt, vr, vq, vn, ve]) := by unfold Hid; exact Px1_p.out.grown hP9.grown (Ne.symm (own_blk_ne Rx1_q.out Px1_p.out (by decide)))
      have Lx2_b : Hid (Frm B g vt vr vq vn ve w x2) := by unfold Hid; exact frm_push hP9 (Nat.le_refl _) (Nat.le_trans hBg.out Lx1_b.out.bel.size) (fun _ h => h.2.2.1) Lx1_b.out
      clear hP9
      refine hKQ.out _ _ (⟨Px2_p.out.cell 5, Px2_u.out.cell 0, Px2_u.out.cell 1, Px2_u.out.cell 2, Px2_u.out.cell 3, Px2_u.out.cell 4⟩) (fun hHeld2 => ?_)
      clear hKQ KQ hHeld
      have hHeld := hHeld2
      clear hHeld2
      try simp only [Act.put, List.setIfInBounds_toArray, List.set_cons_zero, List.set_cons_succ, List.getElem_toArray, List.getElem_cons_zero, List.getElem_cons_succ]
      refine' Late.wpAnyK_take (i := 9) (v := ?v9x3) rfl (by kernel_rfl) (by kernel_rfl) (by kernel_rfl) (by kernel_rfl) (by kernel_rfl) (fun _ _ _ h => h) (Or.inl ⟨by rfl, ?hy9x3⟩) hHeld ?rest9x3
      case hy9x3 => intro w hSw; (try dsimp only at hSw); go_simp; all_goals with_reducible rfl
      try simp only [Act.put, List.setIfInBounds_toArray, List.set_cons_zero, List.set_cons_succ, List.getElem_toArray, List.getElem_cons_zero, List.getElem_cons_succ]
      refine' Late.wpAnyK_take (i := 10) (v := ?v10x4) rfl (by kernel_rfl) (by kernel_rfl) (by kernel_rfl) (by kernel_rfl) (by kernel_rfl) (fun _ _ _ h => h) (Or.inl ⟨by rfl, ?hy10x4⟩) hHeld ?rest10x4
      case hy10x4 => intro w hSw; (try dsimp only at hSw); go_simp; all_goals with_reducible rfl
      try simp only [Act.put, List.setIfInBounds_toArray, List.set_cons_zero, List.set_cons_succ, List.getElem_toArray, List.getElem_cons_zero, List.getElem_cons_succ]
      refine' Late.wpAnyK_take (i := 11) (v := ?v11x5) rfl (by kernel_rfl) (by kernel_rfl) (by kernel_rfl) (by kernel_rfl) (by kernel_rfl) (fun _ _ _ h => h) (Or.inl ⟨by rfl, ?hy11x5⟩) hHeld ?rest11x5
      case hy11x5 => intro w hSw; (try dsimp only at hSw); go_simp; all_goals with_reducible rfl
      try simp only [Act.put, List.setIfInBounds_toArray, List.set_cons_zero, List.set_cons_succ, List.getElem_toArray, List.getElem_cons_zero, List.getElem_cons_succ]
      refine Late.wpAnyK_ready (rs := [12]) (by kernel_rfl) (by simp) ?_
      refine Late.AllReadyK.late rfl (by kernel_rfl) (fun KQ hKQ => ?_)
      have c9 : x2.cell? ⟨g, 5, none⟩ = some (vq) := Px2_p.out.cell 5
      have f9 := Px2_p.out.frozen 5
      go_simp
      clear c9 f9
      refine world_is (P := fun W => KQ _ W) (fun x6 hw9 => ?_)
      have Rx6_q : Hid (World.ownsRow x6 B 55 5 (.slice Ax2 (st.quos.length + 1) Cx2) (st.quos.length + 1) (quosC st.quos ++ [.int .i64 cm, .int .i64 t2.n, .int .i64 (d11 : Int), .int .i64 t16.n, .int .i64 (d21 : Int)])) := by unfold Hid; rw [← hw9]; exact World.ownsRow.kept Rx2_q.out (grown_ofSet _ _ _ _) (.inr (own_blk_ne Rx2_q.out Px2_p.out (by decide)))
      have Rx6_t : Hid (World.ownsRow x6 B 51 3 vt (st.typs.length) (typsC st.typs)) := by unfold Hid; rw [← hw9]; exact World.ownsRow.kept Rx2_t.out (grown_ofSet _ _ _ _) (.inr (own_blk_ne Rx2_t.out Px2_p.out (by decide)))
      have Rx6_r : Hid (World.ownsRow x6 B 53 3 vr (st.ruls.length) (rulsC st.ruls)) := by unfold Hid; rw [← hw9]; exact World.ownsRow.kept Rx2_r.out (grown_ofSet _ _ _ _) (.inr (own_blk_ne Rx2_r.out Px2_p.out (by decide)))
      have Rx6_n : Hid (World.ownsRow x6 B 47 4 vn (st.typs.length) (namesC st.typs)) := by unfold Hid; rw [← hw9]; exact World.ownsRow.kept Rx2_n.out (grown_ofSet _ _ _ _) (.inr (own_blk_ne Rx2_n.out Px2_p.out (by decide)))
      have Rx6_e : Hid (World.ownsRow x6 B 101 8 ve (st.ruls.length) (endsC st.ruls)) := by unfold Hid; rw [← hw9]; exact World.ownsRow.kept Rx2_e.out (grown_ofSet _ _ _ _) (.inr (own_blk_ne Rx2_e.out Px2_p.out (by decide)))
      have Px6_u : Hid (Blk x6 aq 55 #[.int .i64 cm, .int .i64 t2.n, .int .i64 (d11 : Int), .int .i64 t16.n, .int .i64 (d21 : Int)]) := by unfold Hid; rw [← hw9]; exact Px2_u.out.other (a := ⟨g, 5, none⟩) (Ne.symm hgq) _
      have Px6_p : Hid (Blk x6 g 61 #[tv, .int .i64 ((n21 + 1 : Nat) : Int), nm, vt, vr, (.slice Ax2 (st.quos.length + 1) Cx2), vn, ve]) := by unfold Hid; rw [← hw9]; exact Px2_p.out.set_ 5 _
      have Lx6_b : Hid (Frm B g vt vr vq vn ve w x6) := by unfold Hid; rw [← hw9]; exact Lx2_b.out.setG hg 5 _
      clear hw9
      refine hKQ.out _ _ ?_
      clear hKQ KQ
      try simp only [Act.put, List.setIfInBounds_toArray, List.set_cons_zero, List.set_cons_succ, List.getElem_toArray, List.getElem_cons_zero, List.getElem_cons_succ]
      refine Late.wpAnyK_done (by kernel_rfl) ?_ _
      go_wp2_with fail
      go_end0
      refine item_ok _ hres.out ?_
      refine ⟨Lx6_b.out, (by simp), n21 + 1, vt, vr, _, vn, ve, hn25, rfl, ⟨Px6_p.out, Rx6_t.out, Rx6_r.out, ?_, Rx6_n.out, Rx6_e.out⟩⟩
      exact own_cast Rx6_q.out (by simp) (by rw [quosC_snoc])
end Go.Proofs.YtemhiiignamkjaaDoor
