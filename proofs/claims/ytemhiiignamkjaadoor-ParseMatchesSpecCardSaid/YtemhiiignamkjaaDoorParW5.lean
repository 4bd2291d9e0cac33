/-
  Layer 12 (parse): a type.
-/
import Derived.Test.YtemhiiignamkjaaDoorParW4
import Derived.Deep.RegionHeld3
namespace Go.Proofs.YtemhiiignamkjaaDoor
open Go.RowKit LexP ParP
attribute [local go_sem] Oper.semAt_some

theorem grown_drew {a b : World} {r : Option Nat} (h : a.grownBy b r) : a.grownBy b.drew r := ⟨h.os, h.tape, h.output, h.size, h.block⟩
theorem toList_life : wLife.toList = [108, 105, 102, 101] := by rw [ByteArray.toList_eq]; rfl
theorem flag_bits {fl k : Nat} (hf : fl < 128) (hk : k < 7) : (bits BinOp.and IntKind.i64 ((fl : Int) / 2 ^ k) 1 == 0) = !fl.testBit k := by
  have h : ((List.range 128).all fun f => (List.range 7).all fun j => (bits BinOp.and IntKind.i64 ((f : Int) / 2 ^ j) 1 == 0) == !f.testBit j) = true := by kernel_rfl
  have h1 := List.all_eq_true.1 (List.all_eq_true.1 h fl (List.mem_range.2 hf)) k (List.mem_range.2 hk)
  exact beq_iff_eq.1 h1
theorem flag_or {fl k : Nat} (hf : fl < 128) (hk : k < 7) (hb : fl.testBit k = false) : bits BinOp.or IntKind.i64 (fl : Int) (wrap64 (2 ^ k)) = ((fl + 2 ^ k : Nat) : Int) ∧ fl + 2 ^ k < 128 := by
  have h : ((List.range 128).all fun f => (List.range 7).all fun j => f.testBit j || (decide (bits BinOp.or IntKind.i64 (f : Int) (wrap64 (2 ^ j)) = ((f + 2 ^ j : Nat) : Int)) && decide (f + 2 ^ j < 128))) = true := by kernel_rfl
  have h1 := List.all_eq_true.1 (List.all_eq_true.1 h fl (List.mem_range.2 hf)) k (List.mem_range.2 hk)
  rw [hb] at h1
  simpa using h1
theorem flag_life : findW flagWords wLife = 7 := by kernel_rfl
theorem typLoop_end {l : List Tok} {n : Nat} (fl lf : Nat) (lb : Bool) (h : l.length ≤ n) : typLoop (l.drop n) fl lf lb = .bad (l.drop n) := by
  rw [List.drop_eq_nil_of_le h]
  unfold typLoop
  rfl
theorem typLoop_close {l : List Tok} {n : Nat} {t : Tok} (fl lf : Nat) (lb : Bool) (ht : l[n]? = some t) (hp : isText wClose t = true) : typLoop (l.drop n) fl lf lb = .ok (l.drop (n + 1)) (fl, lf) := by
  rw [drop_at_ ht, typLoop.eq_def]; dsimp only; rw [if_pos hp]
theorem typLoop_life {l : List Tok} {n : Nat} {t : Tok} (fl lf : Nat) (lb : Bool) (ht : l[n]? = some t) (hc : isText wClose t = false) (hp : isText wLife t = true) (hb : lb = false) :
    typLoop (l.drop n) fl lf lb = (num (l.drop (n + 1))).bind fun r u => (expect wSemi r).bind fun r2 _ => typLoop r2 fl u.n true := by
  subst hb
  rw [drop_at_ ht, typLoop.eq_def]; dsimp only; rw [if_neg (by rw [hc]; decide), if_pos (by rw [hp]; rfl)]
  cases hr : l.drop (n + 1) with
  | nil => rfl
  | cons u r2 =>
    simp only [num, take]
    split
    · simp only [Rd.bind, expect]
      cases r2 with
      | nil => rfl
      | cons v r3 =>
        simp only [take]
        split <;> rfl
    · rfl
theorem typLoop_flag {l : List Tok} {n k : Nat} {t : Tok} (fl lf : Nat) (lb : Bool) (ht : l[n]? = some t) (hc : isText wClose t = false) (hp : (isText wLife t && !lb) = false) (hk : findW flagWords t.text = k) (hk7 : k < 7) (hb : fl.testBit k = false) :
    typLoop (l.drop n) fl lf lb = (expect wSemi (l.drop (n + 1))).bind fun r2 _ => typLoop r2 (fl + 2 ^ k) lf lb := by
  subst hk
  rw [drop_at_ ht, typLoop.eq_def]; dsimp only; rw [if_neg (by rw [hc]; decide), if_neg (by rw [hp]; decide), if_pos (by rw [hb]; simp [hk7])]
  cases l.drop (n + 1) with
  | nil => rfl
  | cons v r3 =>
    simp only [expect, take]
    split <;> rfl
theorem typLoop_bad {l : List Tok} {n : Nat} {t : Tok} (fl lf : Nat) (lb : Bool) (ht : l[n]? = some t) (hc : isText wClose t = false) (hp : (isText wLife t && !lb) = false) (hb : (decide (findW flagWords t.text < 7) && !fl.testBit (findW flagWords t.text)) = false) :
    typLoop (l.drop n) fl lf lb = .bad (l.drop n) := by
  rw [drop_at_ ht, typLoop.eq_def]; dsimp only; rw [if_neg (by rw [hc]; decide), if_neg (by rw [hp]; decide), if_neg (by rw [hb]; decide)]
theorem typLoop_stuck {l : List Tok} {m : Nat} {u : ByteArray} (fl lf : Nat) (lb : Bool) (hu : peek (l.drop m) = u) (hc : ∀ t, l[m]? = some t → isText wClose t = false) (hp : ∀ t, l[m]? = some t → (isText wLife t && !lb) = false) (hb : (decide (findW flagWords u < 7) && !fl.testBit (findW flagWords u)) = false) :
    typLoop (l.drop m) fl lf lb = .bad (l.drop m) := by
  by_cases hlt : m < l.length
  · have ht := List.getElem?_eq_getElem hlt
    rw [peek_at ht] at hu
    exact typLoop_bad fl lf lb ht (hc _ ht) (hp _ ht) (by rw [hu]; exact hb)
  · exact typLoop_end fl lf lb (Nat.le_of_not_lt hlt)
theorem flag_none : findW flagWords ⟨#[]⟩ = 7 := by kernel_rfl
theorem peek_flag {l : List Tok} {m k : Nat} {u : ByteArray} (hu : peek (l.drop m) = u) (hk : findW flagWords u = k) (h7 : k < 7) : ∃ t, l[m]? = some t ∧ t.text = u := by
  by_cases hlt : m < l.length
  · have ht := List.getElem?_eq_getElem hlt
    exact ⟨_, ht, (peek_at ht).symm.trans hu⟩
  · rw [peek_end (Nat.le_of_not_lt hlt)] at hu
    rw [← hu, flag_none] at hk
    omega
theorem peek_text {l : List Tok} {m : Nat} {u s : ByteArray} (hu : peek (l.drop m) = u) (hk : (u.toList == s.toList) = true) (hs : ¬ s.data.toList = []) : ∃ t, l[m]? = some t ∧ isText s t = true := by
  by_cases hlt : m < l.length
  · have ht := List.getElem?_eq_getElem hlt
    refine ⟨_, ht, ?_⟩
    rw [peek_at ht] at hu
    unfold isText
    rw [hu]
    exact hk
  · rw [peek_end (Nat.le_of_not_lt hlt)] at hu
    rw [← hu, beq_iff_eq, ByteArray.toList_eq, ByteArray.toList_eq] at hk
    exact absurd hk.symm hs

set_option maxRecDepth 100000 in
set_option maxHeartbeats 12800000 in
theorem typ_any {w : World} {B g n : Nat} {z : Value} {tv nm vt vr vq vn ve : Value} {st : St} {l : List Tok} (hP : PIs w B g n tv nm vt vr vq vn ve st) (hT : TkAt w B tv l) (hTB : TabsAt w B) (hg : B ≤ g) (hn : n ≤ l.length) (hl : l.length ≤ 4000) (hst : st.typs.length ≤ 4000) :
    Calls Tryd.prog 53 #[.pointer (some ⟨g, 0, none⟩), z] w (ItemPost w B g tv nm vt vr vq vn ve l ((rdTyp (l.drop n)).bind fun r x => .ok r { st with typs := st.typs ++ [x] })) := by
  have hgl := hP.blk.lt
  have hl2 : l.length ≤ 1048576 := Nat.le_trans hl (by decide)
  have hBg : Hid (B ≤ w.heap.size) := Nat.le_trans hg (Nat.le_of_lt hgl)
  have HP := Lib.hid hP
  have HT := Lib.hid hT
  have HL : Hid (Frm B g vt vr vq vn ve w w) := Frm.refl
  have hlen : Hid (st.typs.length + 1 ≤ 1000000) := Nat.le_trans (Nat.succ_le_succ hst) (by decide)
  clear hP hT hst
  go_enter Tryd.func53, Tryd.ntmps53
  go_wp2_with fail
  refine (name_any HP.out.blk HT.out hg hn hl2).mono ?_
  rintro e w1 (⟨t1, ht1, hp1, rfl, hb1, hG1⟩ | ⟨hno, rfl, hb1, hG1⟩)
  case inr =>
    go_wp2_with fail
    exact ⟨rfl, item_bad (frm_grown hG1 hg hgl) hn (by unfold rdTyp word; rw [take_drop_no (p := isWordT) hno]; rfl)⟩
  unfold tokAgg
  have E1 : Hid (word (l.drop n) = .ok (l.drop (n + 1)) t1) := take_drop_yes ht1 hp1
  have L1 : Hid (Frm B g vt vr vq vn ve w w1) := frm_grown hG1 hg hgl
  have HP1 := Lib.hid (HP.out.step (m := n + 1) hG1 hb1)
  have hn1 := lt_of_at ht1
  clear hb1 hG1 ht1 hp1
  go_upto_region 1 with fail
  refine world_is (P := fun W => Code.wp _ _ _ _ W) (fun W1 hW1 => ?_)
  have hB1 : Below w1.heap.size w1 W1 := by rw [← hW1]; exact (Below.refl _ _).alloc (Nat.le_refl _) _
  have N2 : Hid (Blk W1 w1.heap.size 47 #[.int .i64 t1.kind, .string t1.text, .int .i64 t1.n, .int .i64 t1.pos]) := by unfold Hid; rw [← hW1]; exact Blk.new _ _ _
  have L2 := Lib.hid (L1.out.trans (frm_below hB1 (Nat.le_trans hBg.out L1.out.bel.size)))
  have HP2 := Lib.hid (HP1.out.below hB1)
  obtain ⟨a1, ea1⟩ : ∃ a, w1.heap.size = a := ⟨_, rfl⟩
  rw [ea1] at N2 ⊢
  have hga1 : g ≠ a1 := by rw [← ea1]; exact Nat.ne_of_lt HP1.out.blk.lt
  have hBa1 : B ≤ a1 := by rw [← ea1]; exact Nat.le_trans hBg.out L1.out.bel.size
  have hAp1 : Hid (Apart a1 vt vr vq vn ve) := by unfold Hid; rw [← ea1]; exact HP.out.apart L1.out.bel.size
  clear hW1 hB1 HP1 L1 ea1
  have cc : W1.cell? ⟨a1, 1, none⟩ = some (.string t1.text) := N2.out.cell 1
  go_upto_region 2 with fail
  refine world_is (P := fun W => Code.wp _ _ _ _ W) (fun W2 hW2 => ?_)
  have hB2 : Below W1.heap.size W1 W2 := by rw [← hW2]; exact (Below.refl _ _).alloc (Nat.le_refl _) _
  have N3 := Lib.hid (N2.out.below hB2 N2.out.lt)
  have T3 : Hid (Blk W2 W1.heap.size 51 #[.string t1.text, .int .i64 0, .int .i64 0]) := by unfold Hid; rw [← hW2]; exact Blk.new _ _ _
  have L3 := Lib.hid (L2.out.trans (frm_below hB2 (Nat.le_trans hBg.out L2.out.bel.size)))
  have HP3 := Lib.hid (HP2.out.below hB2)
  have HT3 := Lib.hid (HT.out.below L3.out.bel)
  obtain ⟨a2, ea2⟩ : ∃ a, W1.heap.size = a := ⟨_, rfl⟩
  rw [ea2] at T3 ⊢
  have hga2 : g ≠ a2 := by rw [← ea2]; exact Nat.ne_of_lt HP2.out.blk.lt
  have h12 : a1 ≠ a2 := by rw [← ea2]; exact Nat.ne_of_lt N2.out.lt
  have hBa2 : B ≤ a2 := by rw [← ea2]; exact Nat.le_trans hBg.out L2.out.bel.size
  have hwa2 : w.heap.size ≤ a2 := by rw [← ea2]; exact L2.out.bel.size
  have hAp2 : Hid (Apart a2 vt vr vq vn ve) := by unfold Hid; rw [← ea2]; exact HP.out.apart L2.out.bel.size
  clear hW2 hB2 HP2 L2 ea2 N2 cc
  go_wp2_with fail
  refine (expect_any W2 g B (n + 1) ⟨#[123]⟩ tv nm vt vr vq vn ve l HP3.out.blk HT3.out hg hn1 hl2).mono ?_
  rintro e w4 (⟨t2, ht2, hp2, rfl, hb4, hG4⟩ | ⟨hno, rfl, hb4, hG4⟩)
  case inr =>
    go_wp2_with fail
    exact ⟨rfl, item_bad (L3.out.trans (frm_grown hG4 hg HP3.out.blk.lt)) hn1 (by unfold rdTyp; rw [E1.out]; simp only [Rd.bind]; unfold expect; rw [take_drop_no (p := isText wOpen) hno])⟩
  have E2 : Hid (expect wOpen (l.drop (n + 1)) = .ok (l.drop (n + 1 + 1)) t2) := take_drop_yes ht2 hp2
  have L4 := Lib.hid (L3.out.trans (frm_grown hG4 hg HP3.out.blk.lt))
  have N4 := Lib.hid (N3.out.grown hG4 (fun e => hga1 (by cases e; rfl)))
  have T4 := Lib.hid (T3.out.grown hG4 (fun e => hga2 (by cases e; rfl)))
  have HP4 := Lib.hid (HP3.out.step (m := n + 1 + 1) hG4 hb4)
  have hn2 := lt_of_at ht2
  obtain ⟨n0, hn0⟩ : ∃ k, n + 1 + 1 = k := ⟨_, rfl⟩
  have hbadE : Hid (∀ r, typLoop (l.drop n0) 0 0 false = .bad r → (rdTyp (l.drop n)).bind (fun r x => Rd.ok r { st with typs := st.typs ++ [x] }) = .bad r) := fun r h => by
    unfold rdTyp
    rw [E1.out]
    simp only [Rd.bind]
    rw [E2.out]
    simp only []
    rw [hn0, h]
  have hokE : Hid (∀ r fl lf, typLoop (l.drop n0) 0 0 false = .ok r (fl, lf) → (rdTyp (l.drop n)).bind (fun r x => Rd.ok r { st with typs := st.typs ++ [x] }) = .ok r { st with typs := st.typs ++ [⟨t1, fl, lf⟩] }) := fun r fl lf h => by
    unfold rdTyp
    rw [E1.out]
    simp only [Rd.bind]
    rw [E2.out]
    simp only []
    rw [hn0, h]
  rw [hn0] at HP4 hn2
  have fl128 : (0 : Nat) < 128 := by decide
  clear hb4 hG4 ht2 hp2 L3 HP3 HT3 N3 T3 E1 E2 hn0 hn1
  go_wp2_with fail
  go_loopw [6] (fun v wr => ∃ (m fl lf : Nat) (lb : Bool), v = .bool lb ∧ m ≤ l.length ∧ fl < 128 ∧ Hid (typLoop (l.drop n0) 0 0 false = typLoop (l.drop m) fl lf lb) ∧ Hid (PIs wr B g m tv nm vt vr vq vn ve st) ∧ Hid (Blk wr a1 47 #[.int .i64 t1.kind, .string t1.text, .int .i64 t1.n, .int .i64 t1.pos]) ∧ Hid (Blk wr a2 51 #[.string t1.text, .int .i64 fl, .int .i64 lf]) ∧ Hid (Frm B g vt vr vq vn ve w wr)) (fun _ wr => l.length - (intOf ((wr.cell? ⟨g, 1, none⟩).getD undef)).toNat)
  case atStart => exact ⟨n0, 0, 0, false, rfl, hn2, fl128, rfl, HP4, N4, T4, L4⟩
  case round =>
    clear HP4 N4 T4 L4 hn2 fl128
    obtain ⟨m, fl, lf, lb, rfl, hm, hfl, HE, HPr, Nr, Tr, Lr⟩ := hrel
    have HTr := Lib.hid (HT.out.below Lr.out.bel)
    have hmc : Hid (wr.cell? ⟨g, 1, none⟩ = some (.int .i64 m)) := HPr.out.blk.cell 1
    go_wp2_with fail
    refine (accept_any ⟨#[125]⟩ (by decide) HPr.out.blk HTr.out hm hl2).mono ?_
    rintro e w5 ⟨b, hbi, rfl, hb5, hG5⟩
    have L5 := Lib.hid (Lr.out.trans (frm_grown hG5 hg HPr.out.blk.lt))
    have N5 := Lib.hid (Nr.out.grown hG5 (fun e => hga1 (by cases e; rfl)))
    have T5 := Lib.hid (Tr.out.grown hG5 (fun e => hga2 (by cases e; rfl)))
    have HT5 := Lib.hid (HT.out.below L5.out.bel)
    cases b
    case true =>
      obtain ⟨t5, ht5, hp5⟩ := hbi.1 rfl
      have HP5 := Lib.hid (HPr.out.step (m := m + 1) hG5 hb5)
      have hn5 := lt_of_at ht5
      have hres := Lib.hid (hokE.out _ _ _ (HE.out.trans (typLoop_close fl lf lb ht5 hp5)))
      clear hbi hb5 hG5 ht5 hp5 HE HPr Nr Tr Lr HTr hokE hbadE hmc
      go_upto_region 15 with fail
      have RT := Lib.hid HP5.out.rt; have RN := Lib.hid HP5.out.rn; have RR := Lib.hid HP5.out.rr; have RQ := Lib.hid HP5.out.rq; have RE := Lib.hid HP5.out.re; have PB := Lib.hid HP5.out.blk
      refine Late.wp_region_late (S := fun w' => w'.cell? ⟨g, 3, none⟩ = some (vt) ∧ w'.cell? ⟨g, 6, none⟩ = some (vn) ∧ w'.cell? ⟨a1, 0, none⟩ = some (.int .i64 t1.kind) ∧ w'.cell? ⟨a1, 1, none⟩ = some (.string t1.text) ∧ w'.cell? ⟨a1, 2, none⟩ = some (.int .i64 t1.n) ∧ w'.cell? ⟨a1, 3, none⟩ = some (.int .i64 t1.pos) ∧ w'.cell? ⟨a2, 0, none⟩ = some (.string t1.text) ∧ w'.cell? ⟨a2, 1, none⟩ = some (.int .i64 fl) ∧ w'.cell? ⟨a2, 2, none⟩ = some (.int .i64 lf)) [20, 21, 22, 23] (by kernel_rfl) (⟨PB.out.cell 3, PB.out.cell 6, N5.out.cell 0, N5.out.cell 1, N5.out.cell 2, N5.out.cell 3, T5.out.cell 0, T5.out.cell 1, T5.out.cell 2⟩) (fun hHeld => ?_)
      refine' Late.wpAnyK_takeT (i := 1) (v := ?v1xf) rfl (by kernel_rfl) (by kernel_rfl) (by kernel_rfl) (fun _ _ _ h => h) (Or.inl ⟨by rfl, ?hy1xf⟩) ?rest1xf
      case hy1xf => intro w hSw; (try dsimp only at hSw); go_simp; all_goals with_reducible rfl
      try simp only [Act.put, List.setIfInBounds_toArray, List.set_cons_zero, List.set_cons_succ, List.getElem_toArray, List.getElem_cons_zero, List.getElem_cons_succ]
      refine' Late.wpAnyK_take (i := 0) (v := ?v0xp) rfl (by kernel_rfl) (by kernel_rfl) (by kernel_rfl) (by kernel_rfl) (by kernel_rfl) (fun _ _ _ h => h) (Or.inl ⟨by rfl, ?hy0xp⟩) hHeld ?rest0xp
      case hy0xp => intro w hSw; (try dsimp only at hSw); go_simp; all_goals with_reducible rfl
      try simp only [Act.put, List.setIfInBounds_toArray, List.set_cons_zero, List.set_cons_succ, List.getElem_toArray, List.getElem_cons_zero]
      refine' Late.wpAnyK_take (i := 2) (v := ?v2xp) rfl (by kernel_rfl) (by kernel_rfl) (by kernel_rfl) (by kernel_rfl) (by kernel_rfl) (fun _ _ _ h => h) (Or.inl ⟨by rfl, ?hy2xp⟩) hHeld ?rest2xp
      case hy2xp => intro w hSw; (try dsimp only at hSw); go_simp; all_goals with_reducible rfl
      try simp only [Act.put, List.setIfInBounds_toArray, List.set_cons_zero, List.set_cons_succ, List.getElem_toArray, List.getElem_cons_zero, List.getElem_cons_succ]
      refine' Late.wpAnyK_take (i := 3) (v := ?v3xp) rfl (by kernel_rfl) (by kernel_rfl) (by kernel_rfl) (by kernel_rfl) (by kernel_rfl) (fun _ _ _ h => h) (Or.inl ⟨by rfl, ?hy3xp⟩) hHeld ?rest3xp
      case hy3xp => intro w hSw; (try dsimp only at hSw); go_simp; all_goals with_reducible rfl
      try simp only [Act.put, List.setIfInBounds_toArray, List.set_cons_zero, List.set_cons_succ, List.getElem_toArray, List.getElem_cons_zero, List.getElem_cons_succ]
      refine' Late.wpAnyK_take (i := 4) (v := ?v4xp) rfl (by kernel_rfl) (by kernel_rfl) (by kernel_rfl) (by kernel_rfl) (by kernel_rfl) (fun _ _ _ h => h) (Or.inl ⟨by rfl, ?hy4xp⟩) hHeld ?rest4xp
      case hy4xp => intro w hSw; (try dsimp only at hSw); go_simp; all_goals with_reducible rfl
      try simp only [Act.put, List.setIfInBounds_toArray, List.set_cons_zero, List.set_cons_succ, List.getElem_toArray, List.getElem_cons_zero, List.getElem_cons_succ]
      refine' Late.wpAnyK_take (i := 5) (v := ?v5xp) rfl (by kernel_rfl) (by kernel_rfl) (by kernel_rfl) (by kernel_rfl) (by kernel_rfl) (fun _ _ _ h => h) (Or.inl ⟨by rfl, ?hy5xp⟩) hHeld ?rest5xp
      case hy5xp => intro w hSw; (try dsimp only at hSw); go_simp; all_goals with_reducible rfl
      try simp only [Act.put, List.setIfInBounds_toArray, List.set_cons_zero, List.set_cons_succ, List.getElem_toArray, List.getElem_cons_zero, List.getElem_cons_succ]
      refine' Late.wpAnyK_take (i := 6) (v := ?v6xp) rfl (by kernel_rfl) (by kernel_rfl) (by kernel_rfl) (by kernel_rfl) (by kernel_rfl) (fun _ _ _ h => h) (Or.inl ⟨by rfl, ?hy6xp⟩) hHeld ?rest6xp
      case hy6xp => intro w hSw; (try dsimp only at hSw); go_simp; all_goals with_reducible rfl
      try simp only [Act.put, List.setIfInBounds_toArray, List.set_cons_zero, List.set_cons_succ, List.getElem_toArray, List.getElem_cons_zero, List.getElem_cons_succ]
      refine' Late.wpAnyK_take (i := 7) (v := ?v7xp) rfl (by kernel_rfl) (by kernel_rfl) (by kernel_rfl) (by kernel_rfl) (by kernel_rfl) (fun _ _ _ h => h) (Or.inl ⟨by rfl, ?hy7xp⟩) hHeld ?rest7xp
      case hy7xp => intro w hSw; (try dsimp only at hSw); go_simp; all_goals with_reducible rfl
      try simp only [Act.put, List.setIfInBounds_toArray, List.set_cons_zero, List.set_cons_succ, List.getElem_toArray, List.getElem_cons_zero, List.getElem_cons_succ]
      refine' Late.wpAnyK_take (i := 10) (v := ?v10xp) rfl (by kernel_rfl) (by kernel_rfl) (by kernel_rfl) (by kernel_rfl) (by kernel_rfl) (fun _ _ _ h => h) (Or.inl ⟨by rfl, ?hy10xp⟩) hHeld ?rest10xp
      case hy10xp => intro w hSw; (try dsimp only at hSw); go_simp; all_goals with_reducible rfl
      try simp only [Act.put, List.setIfInBounds_toArray, List.set_cons_zero, List.set_cons_succ, List.getElem_toArray, List.getElem_cons_zero, List.getElem_cons_succ]
      refine' Late.wpAnyK_take (i := 11) (v := ?v11xp) rfl (by kernel_rfl) (by kernel_rfl) (by kernel_rfl) (by kernel_rfl) (by kernel_rfl) (fun _ _ _ h => h) (Or.inl ⟨by rfl, ?hy11xp⟩) hHeld ?rest11xp
      case hy11xp => intro w hSw; (try dsimp only at hSw); go_simp; all_goals with_reducible rfl
      try simp only [Act.put, List.setIfInBounds_toArray, List.set_cons_zero, List.set_cons_succ, List.getElem_toArray, List.getElem_cons_zero, List.getElem_cons_succ]
      refine' Late.wpAnyK_take (i := 12) (v := ?v12xp) rfl (by kernel_rfl) (by kernel_rfl) (by kernel_rfl) (by kernel_rfl) (by kernel_rfl) (fun _ _ _ h => h) (Or.inl ⟨by rfl, ?hy12xp⟩) hHeld ?rest12xp
      case hy12xp => intro w hSw; (try dsimp only at hSw); go_simp; all_goals with_reducible rfl
      try simp only [Act.put, List.setIfInBounds_toArray, List.set_cons_zero, List.set_cons_succ, List.getElem_toArray, List.getElem_cons_zero, List.getElem_cons_succ]
      refine' Late.wpAnyK_take (i := 13) (v := ?v13xp) rfl (by kernel_rfl) (by kernel_rfl) (by kernel_rfl) (by kernel_rfl) (by kernel_rfl) (fun _ _ _ h => h) (Or.inl ⟨by rfl, ?hy13xp⟩) hHeld ?rest13xp
      case hy13xp => intro w hSw; (try dsimp only at hSw); go_simp; all_goals with_reducible rfl
      try simp only [Act.put, List.setIfInBounds_toArray, List.set_cons_zero, List.set_cons_succ, List.getElem_toArray, List.getElem_cons_zero, List.getElem_cons_succ]
      refine' Late.wpAnyK_take (i := 14) (v := ?v14xp) rfl (by kernel_rfl) (by kernel_rfl) (by kernel_rfl) (by kernel_rfl) (by kernel_rfl) (fun _ _ _ h => h) (Or.inl ⟨by rfl, ?hy14xp⟩) hHeld ?rest14xp
      case hy14xp => intro w hSw; (try dsimp only at hSw); go_simp; all_goals with_reducible rfl
      try simp only [Act.put, List.setIfInBounds_toArray, List.set_cons_zero, List.set_cons_succ, List.getElem_toArray, List.getElem_cons_zero, List.getElem_cons_succ]
      refine Late.wpAnyK_ready (rs := [8, 15]) (by kernel_rfl) (by simp) ?_
      refine Late.AllReadyK.cons rfl (fun KQ hKQ => ?_) (Late.AllReadyK.cons rfl (fun KQ hKQ => ?_) Late.AllReadyK.nil)
      ·
        go_simp
        refine world_is (P := fun W => KQ _ W) (fun x1 hw9 => ?_)
        have Rx1_t : Hid (World.ownsRow x1 B 51 3 vt (st.typs.length) (typsC st.typs)) := by unfold Hid; rw [← hw9]; exact World.ownsRow.alloc RT.out _
        have Rx1_n : Hid (World.ownsRow x1 B 47 4 vn (st.typs.length) (namesC st.typs)) := by unfold Hid; rw [← hw9]; exact World.ownsRow.alloc RN.out _
        have Rx1_r : Hid (World.ownsRow x1 B 53 3 vr (st.ruls.length) (rulsC st.ruls)) := by unfold Hid; rw [← hw9]; exact World.ownsRow.alloc RR.out _
        have Rx1_q : Hid (World.ownsRow x1 B 55 5 vq (st.quos.length) (quosC st.quos)) := by unfold Hid; rw [← hw9]; exact World.ownsRow.alloc RQ.out _
        have Rx1_e : Hid (World.ownsRow x1 B 101 8 ve (st.ruls.length) (endsC st.ruls)) := by unfold Hid; rw [← hw9]; exact World.ownsRow.alloc RE.out _
        have Px1_n : Hid (Blk x1 a1 47 #[.int .i64 t1.kind, .string t1.text, .int .i64 t1.n, .int .i64 t1.pos]) := by unfold Hid; rw [← hw9]; exact N5.out.alloc _
        have Px1_t : Hid (Blk x1 a2 51 #[.string t1.text, .int .i64 fl, .int .i64 lf]) := by unfold Hid; rw [← hw9]; exact T5.out.alloc _
        have Px1_p : Hid (Blk x1 g 61 #[tv, .int .i64 ((m + 1 : Nat) : Int), nm, vt, vr, vq, vn, ve]) := by unfold Hid; rw [← hw9]; exact PB.out.alloc _
        have Fx1_t : Hid (Blk x1 w5.heap.size 51 #[.string t1.text, .int .i64 fl, .int .i64 lf]) := by unfold Hid; rw [← hw9]; exact Blk.new _ _ _
        have Lx1_b : Hid (Frm B g vt vr vq vn ve w x1) := by unfold Hid; rw [← hw9]; first | exact L5.out.alloc (Nat.le_trans hBg.out L5.out.bel.size) _ | exact Frm.drew (L5.out.alloc (Nat.le_trans hBg.out L5.out.bel.size) _)
        clear hw9
        refine hKQ.out _ _ (⟨Px1_p.out.cell 3, Px1_p.out.cell 6, Px1_n.out.cell 0, Px1_n.out.cell 1, Px1_n.out.cell 2, Px1_n.out.cell 3, Px1_t.out.cell 0, Px1_t.out.cell 1, Px1_t.out.cell 2⟩) (fun hHeld2 => ?_)
        clear hKQ KQ hHeld
        have hHeld := hHeld2
        clear hHeld2
        try simp only [Act.put, List.setIfInBounds_toArray, List.set_cons_zero, List.set_cons_succ, List.getElem_toArray, List.getElem_cons_zero, List.getElem_cons_succ]
        refine Late.wpAnyK_ready (rs := [9, 15]) (by kernel_rfl) (by simp) ?_
        refine Late.AllReadyK.cons rfl (fun KQ hKQ => ?_) (Late.AllReadyK.cons rfl (fun KQ hKQ => ?_) Late.AllReadyK.nil)
        ·
          refine wp_gcat_op 23 51 (.agg #[.string ⟨#[]⟩, .int .i64 0, .int .i64 0]) 3 32 Tryd.underlying23 (by kernel_rfl) rfl (by decide) (by decide) _ _ rfl B vt (st.typs.length) (typsC st.typs) rfl Rx1_t.out (w5.heap.size) 1 1 [.string t1.text, .int .i64 fl, .int .i64 lf] rfl rfl Fx1_t.out (by intro u hu; simp only [List.mem_cons, List.not_mem_nil, or_false] at hu; rcases hu with rfl | rfl | rfl <;> rfl) hlen.out (Nat.le_trans hBg.out Lx1_b.out.bel.size) ?_
          intro vx2 x2 hP9
          obtain ⟨Ax2, Cx2, rfl⟩ := own_slice hP9.row
          have Rx2_t : Hid (World.ownsRow x2 B 51 3 (.slice Ax2 (st.typs.length + 1) Cx2) (st.typs.length + 1) (typsC st.typs ++ [.string t1.text, .int .i64 fl, .int .i64 lf])) := by unfold Hid; exact hP9.row
          have Rx2_n : Hid (World.ownsRow x2 B 47 4 vn (st.typs.length) (namesC st.typs)) := by unfold Hid; exact World.ownsRow.kept Rx1_n.out hP9.grown (own_own_ne Rx1_n.out Rx1_t.out (by decide))
          have Rx2_r : Hid (World.ownsRow x2 B 53 3 vr (st.ruls.length) (rulsC st.ruls)) := by unfold Hid; exact World.ownsRow.kept Rx1_r.out hP9.grown (own_own_ne Rx1_r.out Rx1_t.out (by decide))
          have Rx2_q : Hid (World.ownsRow x2 B 55 5 vq (st.quos.length) (quosC st.quos)) := by unfold Hid; exact World.ownsRow.kept Rx1_q.out hP9.grown (own_own_ne Rx1_q.out Rx1_t.out (by decide))
          have Rx2_e : Hid (World.ownsRow x2 B 101 8 ve (st.ruls.length) (endsC st.ruls)) := by unfold Hid; exact World.ownsRow.kept Rx1_e.out hP9.grown (own_own_ne Rx1_e.out Rx1_t.out (by decide))
          have Px2_n : Hid (Blk x2 a1 47 #[.int .i64 t1.kind, .string t1.text, .int .i64 t1.n, .int .i64 t1.pos]) := by unfold Hid; exact Px1_n.out.grown hP9.grown (Ne.symm (own_blk_ne Rx1_t.out Px1_n.out (by decide)))
          have Px2_t : Hid (Blk x2 a2 51 #[.string t1.text, .int .i64 fl, .int .i64 lf]) := by unfold Hid; exact Px1_t.out.grown hP9.grown (Ne.symm hAp2.out.1)
          have Px2_p : Hid (Blk x2 g 61 #[tv, .int .i64 ((m + 1 : Nat) : Int), nm, vt, vr, vq, vn, ve]) := by unfold Hid; exact Px1_p.out.grown hP9.grown (Ne.symm (own_blk_ne Rx1_t.out Px1_p.out (by decide)))
          have Lx2_b : Hid (Frm B g vt vr vq vn ve w x2) := by unfold Hid; exact frm_push hP9 (Nat.le_refl _) (Nat.le_trans hBg.out Lx1_b.out.bel.size) (fun _ h => h.1) Lx1_b.out
          clear hP9
          refine hKQ.out _ _ (⟨Px2_p.out.cell 3, Px2_p.out.cell 6, Px2_n.out.cell 0, Px2_n.out.cell 1, Px2_n.out.cell 2, Px2_n.out.cell 3, Px2_t.out.cell 0, Px2_t.out.cell 1, Px2_t.out.cell 2⟩) (fun hHeld2 => ?_)
          clear hKQ KQ hHeld
          have hHeld := hHeld2
          clear hHeld2
          try simp only [Act.put, List.setIfInBounds_toArray, List.set_cons_zero, List.set_cons_succ, List.getElem_toArray, List.getElem_cons_zero, List.getElem_cons_succ]
          refine Late.wpAnyK_ready (rs := [15]) (by kernel_rfl) (by simp) ?_
          refine Late.AllReadyK.cons rfl (fun KQ hKQ => ?_) Late.AllReadyK.nil
          go_simp
          refine world_is (P := fun W => KQ _ W) (fun x3 hw9 => ?_)
          have Rx3_t : Hid (World.ownsRow x3 B 51 3 (.slice Ax2 (st.typs.length + 1) Cx2) (st.typs.length + 1) (typsC st.typs ++ [.string t1.text, .int .i64 fl, .int .i64 lf])) := by unfold Hid; rw [← hw9]; exact World.ownsRow.alloc Rx2_t.out _
          have Rx3_n : Hid (World.ownsRow x3 B 47 4 vn (st.typs.length) (namesC st.typs)) := by unfold Hid; rw [← hw9]; exact World.ownsRow.alloc Rx2_n.out _
          have Rx3_r : Hid (World.ownsRow x3 B 53 3 vr (st.ruls.length) (rulsC st.ruls)) := by unfold Hid; rw [← hw9]; exact World.ownsRow.alloc Rx2_r.out _
          have Rx3_q : Hid (World.ownsRow x3 B 55 5 vq (st.quos.length) (quosC st.quos)) := by unfold Hid; rw [← hw9]; exact World.ownsRow.alloc Rx2_q.out _
          have Rx3_e : Hid (World.ownsRow x3 B 101 8 ve (st.ruls.length) (endsC st.ruls)) := by unfold Hid; rw [← hw9]; exact World.ownsRow.alloc Rx2_e.out _
          have Px3_n : Hid (Blk x3 a1 47 #[.int .i64 t1.kind, .string t1.text, .int .i64 t1.n, .int .i64 t1.pos]) := by unfold Hid; rw [← hw9]; exact Px2_n.out.alloc _
          have Px3_t : Hid (Blk x3 a2 51 #[.string t1.text, .int .i64 fl, .int .i64 lf]) := by unfold Hid; rw [← hw9]; exact Px2_t.out.alloc _
          have Px3_p : Hid (Blk x3 g 61 #[tv, .int .i64 ((m + 1 : Nat) : Int), nm, vt, vr, vq, vn, ve]) := by unfold Hid; rw [← hw9]; exact Px2_p.out.alloc _
          have Fx3_n : Hid (Blk x3 x2.heap.size 47 #[.int .i64 t1.kind, .string t1.text, .int .i64 t1.n, .int .i64 t1.pos]) := by unfold Hid; rw [← hw9]; exact Blk.new _ _ _
          have Lx3_b : Hid (Frm B g vt vr vq vn ve w x3) := by unfold Hid; rw [← hw9]; first | exact Lx2_b.out.alloc (Nat.le_trans hBg.out Lx2_b.out.bel.size) _ | exact Frm.drew (Lx2_b.out.alloc (Nat.le_trans hBg.out Lx2_b.out.bel.size) _)
          clear hw9
          refine hKQ.out _ _ (⟨Px3_p.out.cell 3, Px3_p.out.cell 6, Px3_n.out.cell 0, Px3_n.out.cell 1, Px3_n.out.cell 2, Px3_n.out.cell 3, Px3_t.out.cell 0, Px3_t.out.cell 1, Px3_t.out.cell 2⟩) (fun hHeld2 => ?_)
          clear hKQ KQ hHeld
          have hHeld := hHeld2
          clear hHeld2
          try simp only [Act.put, List.setIfInBounds_toArray, List.set_cons_zero, List.set_cons_succ, List.getElem_toArray, List.getElem_cons_zero, List.getElem_cons_succ]
          refine Late.wpAnyK_ready (rs := [16]) (by kernel_rfl) (by simp) ?_
          refine Late.AllReadyK.cons rfl (fun KQ hKQ => ?_) Late.AllReadyK.nil
          refine wp_gcat_op 42 47 (.agg #[.int .i64 0, .string ⟨#[]⟩, .int .i64 0, .int .i64 0]) 4 40 Tryd.underlying42 (by kernel_rfl) rfl (by decide) (by decide) _ _ rfl B vn (st.typs.length) (namesC st.typs) rfl Rx3_n.out (x2.heap.size) 1 1 [.int .i64 t1.kind, .string t1.text, .int .i64 t1.n, .int .i64 t1.pos] rfl rfl Fx3_n.out (by intro u hu; simp only [List.mem_cons, List.not_mem_nil, or_false] at hu; rcases hu with rfl | rfl | rfl | rfl <;> rfl) hlen.out (Nat.le_trans hBg.out Lx3_b.out.bel.size) ?_
          intro vx4 x4 hP9
          obtain ⟨Ax4, Cx4, rfl⟩ := own_slice hP9.row
          have Rx4_t : Hid (World.ownsRow x4 B 51 3 (.slice Ax2 (st.typs.length + 1) Cx2) (st.typs.length + 1) (typsC st.typs ++ [.string t1.text, .int .i64 fl, .int .i64 lf])) := by unfold Hid; exact World.ownsRow.kept Rx3_t.out hP9.grown (own_own_ne Rx3_t.out Rx3_n.out (by decide))
          have Rx4_n : Hid (World.ownsRow x4 B 47 4 (.slice Ax4 (st.typs.length + 1) Cx4) (st.typs.length + 1) (namesC st.typs ++ [.int .i64 t1.kind, .string t1.text, .int .i64 t1.n, .int .i64 t1.pos])) := by unfold Hid; exact hP9.row
          have Rx4_r : Hid (World.ownsRow x4 B 53 3 vr (st.ruls.length) (rulsC st.ruls)) := by unfold Hid; exact World.ownsRow.kept Rx3_r.out hP9.grown (own_own_ne Rx3_r.out Rx3_n.out (by decide))
          have Rx4_q : Hid (World.ownsRow x4 B 55 5 vq (st.quos.length) (quosC st.quos)) := by unfold Hid; exact World.ownsRow.kept Rx3_q.out hP9.grown (own_own_ne Rx3_q.out Rx3_n.out (by decide))
          have Rx4_e : Hid (World.ownsRow x4 B 101 8 ve (st.ruls.length) (endsC st.ruls)) := by unfold Hid; exact World.ownsRow.kept Rx3_e.out hP9.grown (own_own_ne Rx3_e.out Rx3_n.out (by decide))
          have Px4_n : Hid (Blk x4 a1 47 #[.int .i64 t1.kind, .string t1.text, .int .i64 t1.n, .int .i64 t1.pos]) := by unfold Hid; exact Px3_n.out.grown hP9.grown (Ne.symm hAp1.out.2.2.2.1)
          have Px4_t : Hid (Blk x4 a2 51 #[.string t1.text, .int .i64 fl, .int .i64 lf]) := by unfold Hid; exact Px3_t.out.grown hP9.grown (Ne.symm (own_blk_ne Rx3_n.out Px3_t.out (by decide)))
          have Px4_p : Hid (Blk x4 g 61 #[tv, .int .i64 ((m + 1 : Nat) : Int), nm, vt, vr, vq, vn, ve]) := by unfold Hid; exact Px3_p.out.grown hP9.grown (Ne.symm (own_blk_ne Rx3_n.out Px3_p.out (by decide)))
          have Lx4_b : Hid (Frm B g vt vr vq vn ve w x4) := by unfold Hid; exact frm_push hP9 (Nat.le_refl _) (Nat.le_trans hBg.out Lx3_b.out.bel.size) (fun _ h => h.2.2.2.1) Lx3_b.out
          clear hP9
          refine hKQ.out _ _ (⟨Px4_p.out.cell 3, Px4_p.out.cell 6, Px4_n.out.cell 0, Px4_n.out.cell 1, Px4_n.out.cell 2, Px4_n.out.cell 3, Px4_t.out.cell 0, Px4_t.out.cell 1, Px4_t.out.cell 2⟩) (fun hHeld2 => ?_)
          clear hKQ KQ hHeld
          have hHeld := hHeld2
          clear hHeld2
          try simp only [Act.put, List.setIfInBounds_toArray, List.set_cons_zero, List.set_cons_succ, List.getElem_toArray, List.getElem_cons_zero, List.getElem_cons_succ]
          refine' Late.wpAnyK_take (i := 17) (v := ?v17x5) rfl (by kernel_rfl) (by kernel_rfl) (by kernel_rfl) (by kernel_rfl) (by kernel_rfl) (fun _ _ _ h => h) (Or.inl ⟨by rfl, ?hy17x5⟩) hHeld ?rest17x5
          case hy17x5 => intro w hSw; (try dsimp only at hSw); go_simp; all_goals with_reducible rfl
          try simp only [Act.put, List.setIfInBounds_toArray, List.set_cons_zero, List.set_cons_succ, List.getElem_toArray, List.getElem_cons_zero, List.getElem_cons_succ]
          refine' Late.wpAnyK_take (i := 18) (v := ?v18x6) rfl (by kernel_rfl) (by kernel_rfl) (by kernel_rfl) (by kernel_rfl) (by kernel_rfl) (fun _ _ _ h => h) (Or.inl ⟨by rfl, ?hy18x6⟩) hHeld ?rest18x6
          case hy18x6 => intro w hSw; (try dsimp only at hSw); go_simp; all_goals with_reducible rfl
          try simp only [Act.put, List.setIfInBounds_toArray, List.set_cons_zero, List.set_cons_succ, List.getElem_toArray, List.getElem_cons_zero, List.getElem_cons_succ]
          refine' Late.wpAnyK_take (i := 19) (v := ?v19x7) rfl (by kernel_rfl) (by kernel_rfl) (by kernel_rfl) (by kernel_rfl) (by kernel_rfl) (fun _ _ _ h => h) (Or.inl ⟨by rfl, ?hy19x7⟩) hHeld ?rest19x7
          case hy19x7 => intro w hSw; (try dsimp only at hSw); go_simp; all_goals with_reducible rfl
          try simp only [Act.put, List.setIfInBounds_toArray, List.set_cons_zero, List.set_cons_succ, List.getElem_toArray, List.getElem_cons_zero, List.getElem_cons_succ]
          refine Late.wpAnyK_ready (rs := [20]) (by kernel_rfl) (by simp) ?_
          refine Late.AllReadyK.late rfl (by kernel_rfl) (fun KQ hKQ => ?_)
          have c9 : x4.cell? ⟨g, 3, none⟩ = some (vt) := Px4_p.out.cell 3
          have f9 := Px4_p.out.frozen 3
          go_simp
          clear c9 f9
          refine world_is (P := fun W => KQ _ W) (fun x8 hw9 => ?_)
          have Rx8_t : Hid (World.ownsRow x8 B 51 3 (.slice Ax2 (st.typs.length + 1) Cx2) (st.typs.length + 1) (typsC st.typs ++ [.string t1.text, .int .i64 fl, .int .i64 lf])) := by unfold Hid; rw [← hw9]; exact World.ownsRow.kept Rx4_t.out (grown_ofSet _ _ _ _) (.inr (own_blk_ne Rx4_t.out Px4_p.out (by decide)))
          have Rx8_n : Hid (World.ownsRow x8 B 47 4 (.slice Ax4 (st.typs.length + 1) Cx4) (st.typs.length + 1) (namesC st.typs ++ [.int .i64 t1.kind, .string t1.text, .int .i64 t1.n, .int .i64 t1.pos])) := by unfold Hid; rw [← hw9]; exact World.ownsRow.kept Rx4_n.out (grown_ofSet _ _ _ _) (.inr (own_blk_ne Rx4_n.out Px4_p.out (by decide)))
          have Rx8_r : Hid (World.ownsRow x8 B 53 3 vr (st.ruls.length) (rulsC st.ruls)) := by unfold Hid; rw [← hw9]; exact World.ownsRow.kept Rx4_r.out (grown_ofSet _ _ _ _) (.inr (own_blk_ne Rx4_r.out Px4_p.out (by decide)))
          have Rx8_q : Hid (World.ownsRow x8 B 55 5 vq (st.quos.length) (quosC st.quos)) := by unfold Hid; rw [← hw9]; exact World.ownsRow.kept Rx4_q.out (grown_ofSet _ _ _ _) (.inr (own_blk_ne Rx4_q.out Px4_p.out (by decide)))
          have Rx8_e : Hid (World.ownsRow x8 B 101 8 ve (st.ruls.length) (endsC st.ruls)) := by unfold Hid; rw [← hw9]; exact World.ownsRow.kept Rx4_e.out (grown_ofSet _ _ _ _) (.inr (own_blk_ne Rx4_e.out Px4_p.out (by decide)))
          have Px8_n : Hid (Blk x8 a1 47 #[.int .i64 t1.kind, .string t1.text, .int .i64 t1.n, .int .i64 t1.pos]) := by unfold Hid; rw [← hw9]; exact Px4_n.out.other (a := ⟨g, 3, none⟩) (Ne.symm hga1) _
          have Px8_t : Hid (Blk x8 a2 51 #[.string t1.text, .int .i64 fl, .int .i64 lf]) := by unfold Hid; rw [← hw9]; exact Px4_t.out.other (a := ⟨g, 3, none⟩) (Ne.symm hga2) _
          have Px8_p : Hid (Blk x8 g 61 #[tv, .int .i64 ((m + 1 : Nat) : Int), nm, (.slice Ax2 (st.typs.length + 1) Cx2), vr, vq, vn, ve]) := by unfold Hid; rw [← hw9]; exact Px4_p.out.set_ 3 _
          have Lx8_b : Hid (Frm B g vt vr vq vn ve w x8) := by unfold Hid; rw [← hw9]; exact Lx4_b.out.setG hg 3 _
          clear hw9
          refine hKQ.out _ _ ?_
          clear hKQ KQ
          try simp only [Act.put, List.setIfInBounds_toArray, List.set_cons_zero, List.set_cons_succ, List.getElem_toArray, List.getElem_cons_zero, List.getElem_cons_succ]
          refine Late.wpAnyK_ready (rs := [21]) (by kernel_rfl) (by simp) ?_
          refine Late.AllReadyK.late rfl (by kernel_rfl) (fun KQ hKQ => ?_)
          go_simp
          refine hKQ.out _ _ ?_
          clear hKQ KQ
          try simp only [Act.put, List.setIfInBounds_toArray, List.set_cons_zero, List.set_cons_succ, List.getElem_toArray, List.getElem_cons_zero, List.getElem_cons_succ]
          refine Late.wpAnyK_ready (rs := [22]) (by kernel_rfl) (by simp) ?_
          refine Late.AllReadyK.late rfl (by kernel_rfl) (fun KQ hKQ => ?_)
          go_simp
          refine hKQ.out _ _ ?_
          clear hKQ KQ
          try simp only [Act.put, List.setIfInBounds_toArray, List.set_cons_zero, List.set_cons_succ, List.getElem_toArray, List.getElem_cons_zero, List.getElem_cons_succ]
          refine Late.wpAnyK_ready (rs := [23]) (by kernel_rfl) (by simp) ?_
          refine Late.AllReadyK.late rfl (by kernel_rfl) (fun KQ hKQ => ?_)
          have c9 : x8.cell? ⟨g, 6, none⟩ = some (vn) := Px8_p.out.cell 6
          have f9 := Px8_p.out.frozen 6
          go_simp
          clear c9 f9
          refine world_is (P := fun W => KQ _ W) (fun x11 hw9 => ?_)
          have Rx11_t : Hid (World.ownsRow x11 B 51 3 (.slice Ax2 (st.typs.length + 1) Cx2) (st.typs.length + 1) (typsC st.typs ++ [.string t1.text, .int .i64 fl, .int .i64 lf])) := by unfold Hid; rw [← hw9]; exact World.ownsRow.kept Rx8_t.out (grown_ofSet _ _ _ _) (.inr (own_blk_ne Rx8_t.out Px8_p.out (by decide)))
          have Rx11_n : Hid (World.ownsRow x11 B 47 4 (.slice Ax4 (st.typs.length + 1) Cx4) (st.typs.length + 1) (namesC st.typs ++ [.int .i64 t1.kind, .string t1.text, .int .i64 t1.n, .int .i64 t1.pos])) := by unfold Hid; rw [← hw9]; exact World.ownsRow.kept Rx8_n.out (grown_ofSet _ _ _ _) (.inr (own_blk_ne Rx8_n.out Px8_p.out (by decide)))
          have Rx11_r : Hid (World.ownsRow x11 B 53 3 vr (st.ruls.length) (rulsC st.ruls)) := by unfold Hid; rw [← hw9]; exact World.ownsRow.kept Rx8_r.out (grown_ofSet _ _ _ _) (.inr (own_blk_ne Rx8_r.out Px8_p.out (by decide)))
          have Rx11_q : Hid (World.ownsRow x11 B 55 5 vq (st.quos.length) (quosC st.quos)) := by unfold Hid; rw [← hw9]; exact World.ownsRow.kept Rx8_q.out (grown_ofSet _ _ _ _) (.inr (own_blk_ne Rx8_q.out Px8_p.out (by decide)))
          have Rx11_e : Hid (World.ownsRow x11 B 101 8 ve (st.ruls.length) (endsC st.ruls)) := by unfold Hid; rw [← hw9]; exact World.ownsRow.kept Rx8_e.out (grown_ofSet _ _ _ _) (.inr (own_blk_ne Rx8_e.out Px8_p.out (by decide)))
          have Px11_n : Hid (Blk x11 a1 47 #[.int .i64 t1.kind, .string t1.text, .int .i64 t1.n, .int .i64 t1.pos]) := by unfold Hid; rw [← hw9]; exact Px8_n.out.other (a := ⟨g, 6, none⟩) (Ne.symm hga1) _
          have Px11_t : Hid (Blk x11 a2 51 #[.string t1.text, .int .i64 fl, .int .i64 lf]) := by unfold Hid; rw [← hw9]; exact Px8_t.out.other (a := ⟨g, 6, none⟩) (Ne.symm hga2) _
          have Px11_p : Hid (Blk x11 g 61 #[tv, .int .i64 ((m + 1 : Nat) : Int), nm, (.slice Ax2 (st.typs.length + 1) Cx2), vr, vq, (.slice Ax4 (st.typs.length + 1) Cx4), ve]) := by unfold Hid; rw [← hw9]; exact Px8_p.out.set_ 6 _
          have Lx11_b : Hid (Frm B g vt vr vq vn ve w x11) := by unfold Hid; rw [← hw9]; exact Lx8_b.out.setG hg 6 _
          clear hw9
          refine hKQ.out _ _ ?_
          clear hKQ KQ
          try simp only [Act.put, List.setIfInBounds_toArray, List.set_cons_zero, List.set_cons_succ, List.getElem_toArray, List.getElem_cons_zero, List.getElem_cons_succ]
          refine Late.wpAnyK_done (by kernel_rfl) ?_ _
          go_wp2_with fail
          go_end0
          refine item_ok _ hres.out ?_
          refine ⟨Lx11_b.out, (by simp), m + 1, _, vr, vq, _, ve, hn5, rfl, ⟨Px11_p.out, ?_, Rx11_r.out, Rx11_q.out, ?_, Rx11_e.out⟩⟩
          · exact own_cast Rx11_t.out (by simp) (by rw [typsC_snoc])
          · exact own_cast Rx11_n.out (by simp) (by rw [namesC_snoc]; rfl)
        ·
          go_simp
          refine world_is (P := fun W => KQ _ W) (fun x13 hw9 => ?_)
          have Rx13_t : Hid (World.ownsRow x13 B 51 3 vt (st.typs.length) (typsC st.typs)) := by unfold Hid; rw [← hw9]; exact World.ownsRow.alloc Rx1_t.out _
          have Rx13_n : Hid (World.ownsRow x13 B 47 4 vn (st.typs.length) (namesC st.typs)) := by unfold Hid; rw [← hw9]; exact World.ownsRow.alloc Rx1_n.out _
          have Rx13_r : Hid (World.ownsRow x13 B 53 3 vr (st.ruls.length) (rulsC st.ruls)) := by unfold Hid; rw [← hw9]; exact World.ownsRow.alloc Rx1_r.out _
          have Rx13_q : Hid (World.ownsRow x13 B 55 5 vq (st.quos.length) (quosC st.quos)) := by unfold Hid; rw [← hw9]; exact World.ownsRow.alloc Rx1_q.out _
          have Rx13_e : Hid (World.ownsRow x13 B 101 8 ve (st.ruls.length) (endsC st.ruls)) := by unfold Hid; rw [← hw9]; exact World.ownsRow.alloc Rx1_e.out _
          have Px13_n : Hid (Blk x13 a1 47 #[.int .i64 t1.kind, .string t1.text, .int .i64 t1.n, .int .i64 t1.pos]) := by unfold Hid; rw [← hw9]; exact Px1_n.out.alloc _
          have Px13_t : Hid (Blk x13 a2 51 #[.string t1.text, .int .i64 fl, .int .i64 lf]) := by unfold Hid; rw [← hw9]; exact Px1_t.out.alloc _
          have Px13_p : Hid (Blk x13 g 61 #[tv, .int .i64 ((m + 1 : Nat) : Int), nm, vt, vr, vq, vn, ve]) := by unfold Hid; rw [← hw9]; exact Px1_p.out.alloc _
          have Fx13_t : Hid (Blk x13 w5.heap.size 51 #[.string t1.text, .int .i64 fl, .int .i64 lf]) := by unfold Hid; rw [← hw9]; exact Fx1_t.out.alloc _
          have Fx13_n : Hid (Blk x13 x1.heap.size 47 #[.int .i64 t1.kind, .string t1.text, .int .i64 t1.n, .int .i64 t1.pos]) := by unfold Hid; rw [← hw9]; exact Blk.new _ _ _
          have Lx13_b : Hid (Frm B g vt vr vq vn ve w x13) := by unfold Hid; rw [← hw9]; first | exact Lx1_b.out.alloc (Nat.le_trans hBg.out Lx1_b.out.bel.size) _ | exact Frm.drew (Lx1_b.out.alloc (Nat.le_trans hBg.out Lx1_b.out.bel.size) _)
          clear hw9
          refine hKQ.out _ _ (⟨Px13_p.out.cell 3, Px13_p.out.cell 6, Px13_n.out.cell 0, Px13_n.out.cell 1, Px13_n.out.cell 2, Px13_n.out.cell 3, Px13_t.out.cell 0, Px13_t.out.cell 1, Px13_t.out.cell 2⟩) (fun hHeld2 => ?_)
          clear hKQ KQ hHeld
          have hHeld := hHeld2
          clear hHeld2
          try simp only [Act.put, List.setIfInBounds_toArray, List.set_cons_zero, List.set_cons_succ, List.getElem_toArray, List.getElem_cons_zero, List.getElem_cons_succ]
          refine Late.wpAnyK_ready (rs := [9]) (by kernel_rfl) (by simp) ?_
          refine Late.AllReadyK.cons rfl (fun KQ hKQ => ?_) Late.AllReadyK.nil
          refine wp_gcat_op 23 51 (.agg #[.string ⟨#[]⟩, .int .i64 0, .int .i64 0]) 3 32 Tryd.underlying23 (by kernel_rfl) rfl (by decide) (by decide) _ _ rfl B vt (st.typs.length) (typsC st.typs) rfl Rx13_t.out (w5.heap.size) 1 1 [.string t1.text, .int .i64 fl, .int .i64 lf] rfl rfl Fx13_t.out (by intro u hu; simp only [List.mem_cons, List.not_mem_nil, or_false] at hu; rcases hu with rfl | rfl | rfl <;> rfl) hlen.out (Nat.le_trans hBg.out Lx13_b.out.bel.size) ?_
          intro vx14 x14 hP9
          obtain ⟨Ax14, Cx14, rfl⟩ := own_slice hP9.row
          have Rx14_t : Hid (World.ownsRow x14 B 51 3 (.slice Ax14 (st.typs.length + 1) Cx14) (st.typs.length + 1) (typsC st.typs ++ [.string t1.text, .int .i64 fl, .int .i64 lf])) := by unfold Hid; exact hP9.row
          have Rx14_n : Hid (World.ownsRow x14 B 47 4 vn (st.typs.length) (namesC st.typs)) := by unfold Hid; exact World.ownsRow.kept Rx13_n.out hP9.grown (own_own_ne Rx13_n.out Rx13_t.out (by decide))
          have Rx14_r : Hid (World.ownsRow x14 B 53 3 vr (st.ruls.length) (rulsC st.ruls)) := by unfold Hid; exact World.ownsRow.kept Rx13_r.out hP9.grown (own_own_ne Rx13_r.out Rx13_t.out (by decide))
          have Rx14_q : Hid (World.ownsRow x14 B 55 5 vq (st.quos.length) (quosC st.quos)) := by unfold Hid; exact World.ownsRow.kept Rx13_q.out hP9.grown (own_own_ne Rx13_q.out Rx13_t.out (by decide))
          have Rx14_e : Hid (World.ownsRow x14 B 101 8 ve (st.ruls.length) (endsC st.ruls)) := by unfold Hid; exact World.ownsRow.kept Rx13_e.out hP9.grown (own_own_ne Rx13_e.out Rx13_t.out (by decide))
          have Px14_n : Hid (Blk x14 a1 47 #[.int .i64 t1.kind, .string t1.text, .int .i64 t1.n, .int .i64 t1.pos]) := by unfold Hid; exact Px13_n.out.grown hP9.grown (Ne.symm (own_blk_ne Rx13_t.out Px13_n.out (by decide)))
          have Px14_t : Hid (Blk x14 a2 51 #[.string t1.text, .int .i64 fl, .int .i64 lf]) := by unfold Hid; exact Px13_t.out.grown hP9.grown (Ne.symm hAp2.out.1)
          have Px14_p : Hid (Blk x14 g 61 #[tv, .int .i64 ((m + 1 : Nat) : Int), nm, vt, vr, vq, vn, ve]) := by unfold Hid; exact Px13_p.out.grown hP9.grown (Ne.symm (own_blk_ne Rx13_t.out Px13_p.out (by decide)))
          have Fx14_n : Hid (Blk x14 x1.heap.size 47 #[.int .i64 t1.kind, .string t1.text, .int .i64 t1.n, .int .i64 t1.pos]) := by unfold Hid; exact Fx13_n.out.grown hP9.grown (Ne.symm (own_blk_ne Rx13_t.out Fx13_n.out (by decide)))
          have Lx14_b : Hid (Frm B g vt vr vq vn ve w x14) := by unfold Hid; exact frm_push hP9 (Nat.le_refl _) (Nat.le_trans hBg.out Lx13_b.out.bel.size) (fun _ h => h.1) Lx13_b.out
          clear hP9
          refine hKQ.out _ _ (⟨Px14_p.out.cell 3, Px14_p.out.cell 6, Px14_n.out.cell 0, Px14_n.out.cell 1, Px14_n.out.cell 2, Px14_n.out.cell 3, Px14_t.out.cell 0, Px14_t.out.cell 1, Px14_t.out.cell 2⟩) (fun hHeld2 => ?_)
          clear hKQ KQ hHeld
          have hHeld := hHeld2
          clear hHeld2
          try simp only [Act.put, List.setIfInBounds_toArray, List.set_cons_zero, List.set_cons_succ, List.getElem_toArray, List.getElem_cons_zero, List.getElem_cons_succ]
          refine Late.wpAnyK_ready (rs := [16]) (by kernel_rfl) (by simp) ?_
          refine Late.AllReadyK.cons rfl (fun KQ hKQ => ?_) Late.AllReadyK.nil
          refine wp_gcat_op 42 47 (.agg #[.int .i64 0, .string ⟨#[]⟩, .int .i64 0, .int .i64 0]) 4 40 Tryd.underlying42 (by kernel_rfl) rfl (by decide) (by decide) _ _ rfl B vn (st.typs.length) (namesC st.typs) rfl Rx14_n.out (x1.heap.size) 1 1 [.int .i64 t1.kind, .string t1.text, .int .i64 t1.n, .int .i64 t1.pos] rfl rfl Fx14_n.out (by intro u hu; simp only [List.mem_cons, List.not_mem_nil, or_false] at hu; rcases hu with rfl | rfl | rfl | rfl <;> rfl) hlen.out (Nat.le_trans hBg.out Lx14_b.out.bel.size) ?_
          intro vx15 x15 hP9
          obtain ⟨Ax15, Cx15, rfl⟩ := own_slice hP9.row
          have Rx15_t : Hid (World.ownsRow x15 B 51 3 (.slice Ax14 (st.typs.length + 1) Cx14) (st.typs.length + 1) (typsC st.typs ++ [.string t1.text, .int .i64 fl, .int .i64 lf])) := by unfold Hid; exact World.ownsRow.kept Rx14_t.out hP9.grown (own_own_ne Rx14_t.out Rx14_n.out (by decide))
          have Rx15_n : Hid (World.ownsRow x15 B 47 4 (.slice Ax15 (st.typs.length + 1) Cx15) (st.typs.length + 1) (namesC st.typs ++ [.int .i64 t1.kind, .string t1.text, .int .i64 t1.n, .int .i64 t1.pos])) := by unfold Hid; exact hP9.row
          have Rx15_r : Hid (World.ownsRow x15 B 53 3 vr (st.ruls.length) (rulsC st.ruls)) := by unfold Hid; exact World.ownsRow.kept Rx14_r.out hP9.grown (own_own_ne Rx14_r.out Rx14_n.out (by decide))
          have Rx15_q : Hid (World.ownsRow x15 B 55 5 vq (st.quos.length) (quosC st.quos)) := by unfold Hid; exact World.ownsRow.kept Rx14_q.out hP9.grown (own_own_ne Rx14_q.out Rx14_n.out (by decide))
          have Rx15_e : Hid (World.ownsRow x15 B 101 8 ve (st.ruls.length) (endsC st.ruls)) := by unfold Hid; exact World.ownsRow.kept Rx14_e.out hP9.grown (own_own_ne Rx14_e.out Rx14_n.out (by decide))
          have Px15_n : Hid (Blk x15 a1 47 #[.int .i64 t1.kind, .string t1.text, .int .i64 t1.n, .int .i64 t1.pos]) := by unfold Hid; exact Px14_n.out.grown hP9.grown (Ne.symm hAp1.out.2.2.2.1)
          have Px15_t : Hid (Blk x15 a2 51 #[.string t1.text, .int .i64 fl, .int .i64 lf]) := by unfold Hid; exact Px14_t.out.grown hP9.grown (Ne.symm (own_blk_ne Rx14_n.out Px14_t.out (by decide)))
          have Px15_p : Hid (Blk x15 g 61 #[tv, .int .i64 ((m + 1 : Nat) : Int), nm, vt, vr, vq, vn, ve]) := by unfold Hid; exact Px14_p.out.grown hP9.grown (Ne.symm (own_blk_ne Rx14_n.out Px14_p.out (by decide)))
          have Lx15_b : Hid (Frm B g vt vr vq vn ve w x15) := by unfold Hid; exact frm_push hP9 (Nat.le_refl _) (Nat.le_trans hBg.out Lx14_b.out.bel.size) (fun _ h => h.2.2.2.1) Lx14_b.out
          clear hP9
          refine hKQ.out _ _ (⟨Px15_p.out.cell 3, Px15_p.out.cell 6, Px15_n.out.cell 0, Px15_n.out.cell 1, Px15_n.out.cell 2, Px15_n.out.cell 3, Px15_t.out.cell 0, Px15_t.out.cell 1, Px15_t.out.cell 2⟩) (fun hHeld2 => ?_)
          clear hKQ KQ hHeld
          have hHeld := hHeld2
          clear hHeld2
          try simp only [Act.put, List.setIfInBounds_toArray, List.set_cons_zero, List.set_cons_succ, List.getElem_toArray, List.getElem_cons_zero, List.getElem_cons_succ]
          refine' Late.wpAnyK_take (i := 17) (v := ?v17x16) rfl (by kernel_rfl) (by kernel_rfl) (by kernel_rfl) (by kernel_rfl) (by kernel_rfl) (fun _ _ _ h => h) (Or.inl ⟨by rfl, ?hy17x16⟩) hHeld ?rest17x16
          case hy17x16 => intro w hSw; (try dsimp only at hSw); go_simp; all_goals with_reducible rfl
          try simp only [Act.put, List.setIfInBounds_toArray, List.set_cons_zero, List.set_cons_succ, List.getElem_toArray, List.getElem_cons_zero, List.getElem_cons_succ]
          refine' Late.wpAnyK_take (i := 18) (v := ?v18x17) rfl (by kernel_rfl) (by kernel_rfl) (by kernel_rfl) (by kernel_rfl) (by kernel_rfl) (fun _ _ _ h => h) (Or.inl ⟨by rfl, ?hy18x17⟩) hHeld ?rest18x17
          case hy18x17 => intro w hSw; (try dsimp only at hSw); go_simp; all_goals with_reducible rfl
          try simp only [Act.put, List.setIfInBounds_toArray, List.set_cons_zero, List.set_cons_succ, List.getElem_toArray, List.getElem_cons_zero, List.getElem_cons_succ]
          refine' Late.wpAnyK_take (i := 19) (v := ?v19x18) rfl (by kernel_rfl) (by kernel_rfl) (by kernel_rfl) (by kernel_rfl) (by kernel_rfl) (fun _ _ _ h => h) (Or.inl ⟨by rfl, ?hy19x18⟩) hHeld ?rest19x18
          case hy19x18 => intro w hSw; (try dsimp only at hSw); go_simp; all_goals with_reducible rfl
          try simp only [Act.put, List.setIfInBounds_toArray, List.set_cons_zero, List.set_cons_succ, List.getElem_toArray, List.getElem_cons_zero, List.getElem_cons_succ]
          refine Late.wpAnyK_ready (rs := [20]) (by kernel_rfl) (by simp) ?_
          refine Late.AllReadyK.late rfl (by kernel_rfl) (fun KQ hKQ => ?_)
          have c9 : x15.cell? ⟨g, 3, none⟩ = some (vt) := Px15_p.out.cell 3
          have f9 := Px15_p.out.frozen 3
          go_simp
          clear c9 f9
          refine world_is (P := fun W => KQ _ W) (fun x19 hw9 => ?_)
          have Rx19_t : Hid (World.ownsRow x19 B 51 3 (.slice Ax14 (st.typs.length + 1) Cx14) (st.typs.length + 1) (typsC st.typs ++ [.string t1.text, .int .i64 fl, .int .i64 lf])) := by unfold Hid; rw [← hw9]; exact World.ownsRow.kept Rx15_t.out (grown_ofSet _ _ _ _) (.inr (own_blk_ne Rx15_t.out Px15_p.out (by decide)))
          have Rx19_n : Hid (World.ownsRow x19 B 47 4 (.slice Ax15 (st.typs.length + 1) Cx15) (st.typs.length + 1) (namesC st.typs ++ [.int .i64 t1.kind, .string t1.text, .int .i64 t1.n, .int .i64 t1.pos])) := by unfold Hid; rw [← hw9]; exact World.ownsRow.kept Rx15_n.out (grown_ofSet _ _ _ _) (.inr (own_blk_ne Rx15_n.out Px15_p.out (by decide)))
          have Rx19_r : Hid (World.ownsRow x19 B 53 3 vr (st.ruls.length) (rulsC st.ruls)) := by unfold Hid; rw [← hw9]; exact World.ownsRow.kept Rx15_r.out (grown_ofSet _ _ _ _) (.inr (own_blk_ne Rx15_r.out Px15_p.out (by decide)))
          have Rx19_q : Hid (World.ownsRow x19 B 55 5 vq (st.quos.length) (quosC st.quos)) := by unfold Hid; rw [← hw9]; exact World.ownsRow.kept Rx15_q.out (grown_ofSet _ _ _ _) (.inr (own_blk_ne Rx15_q.out Px15_p.out (by decide)))
          have Rx19_e : Hid (World.ownsRow x19 B 101 8 ve (st.ruls.length) (endsC st.ruls)) := by unfold Hid; rw [← hw9]; exact World.ownsRow.kept Rx15_e.out (grown_ofSet _ _ _ _) (.inr (own_blk_ne Rx15_e.out Px15_p.out (by decide)))
          have Px19_n : Hid (Blk x19 a1 47 #[.int .i64 t1.kind, .string t1.text, .int .i64 t1.n, .int .i64 t1.pos]) := by unfold Hid; rw [← hw9]; exact Px15_n.out.other (a := ⟨g, 3, none⟩) (Ne.symm hga1) _
          have Px19_t : Hid (Blk x19 a2 51 #[.string t1.text, .int .i64 fl, .int .i64 lf]) := by unfold Hid; rw [← hw9]; exact Px15_t.out.other (a := ⟨g, 3, none⟩) (Ne.symm hga2) _
          have Px19_p : Hid (Blk x19 g 61 #[tv, .int .i64 ((m + 1 : Nat) : Int), nm, (.slice Ax14 (st.typs.length + 1) Cx14), vr, vq, vn, ve]) := by unfold Hid; rw [← hw9]; exact Px15_p.out.set_ 3 _
          have Lx19_b : Hid (Frm B g vt vr vq vn ve w x19) := by unfold Hid; rw [← hw9]; exact Lx15_b.out.setG hg 3 _
          clear hw9
          refine hKQ.out _ _ ?_
          clear hKQ KQ
          try simp only [Act.put, List.setIfInBounds_toArray, List.set_cons_zero, List.set_cons_succ, List.getElem_toArray, List.getElem_cons_zero, List.getElem_cons_succ]
          refine Late.wpAnyK_ready (rs := [21]) (by kernel_rfl) (by simp) ?_
          refine Late.AllReadyK.late rfl (by kernel_rfl) (fun KQ hKQ => ?_)
          go_simp
          refine hKQ.out _ _ ?_
          clear hKQ KQ
          try simp only [Act.put, List.setIfInBounds_toArray, List.set_cons_zero, List.set_cons_succ, List.getElem_toArray, List.getElem_cons_zero, List.getElem_cons_succ]
          refine Late.wpAnyK_ready (rs := [22]) (by kernel_rfl) (by simp) ?_
          refine Late.AllReadyK.late rfl (by kernel_rfl) (fun KQ hKQ => ?_)
          go_simp
          refine hKQ.out _ _ ?_
          clear hKQ KQ
          try simp only [Act.put, List.setIfInBounds_toArray, List.set_cons_zero, List.set_cons_succ, List.getElem_toArray, List.getElem_cons_zero, List.getElem_cons_succ]
          refine Late.wpAnyK_ready (rs := [23]) (by kernel_rfl) (by simp) ?_
          refine Late.AllReadyK.late rfl (by kernel_rfl) (fun KQ hKQ => ?_)
          have c9 : x19.cell? ⟨g, 6, none⟩ = some (vn) := Px19_p.out.cell 6
          have f9 := Px19_p.out.frozen 6
          go_simp
          clear c9 f9
          refine world_is (P := fun W => KQ _ W) (fun x22 hw9 => ?_)
          have Rx22_t : Hid (World.ownsRow x22 B 51 3 (.slice Ax14 (st.typs.length + 1) Cx14) (st.typs.length + 1) (typsC st.typs ++ [.string t1.text, .int .i64 fl, .int .i64 lf])) := by unfold Hid; rw [← hw9]; exact World.ownsRow.kept Rx19_t.out (grown_ofSet _ _ _ _) (.inr (own_blk_ne Rx19_t.out Px19_p.out (by decide)))
          have Rx22_n : Hid (World.ownsRow x22 B 47 4 (.slice Ax15 (st.typs.length + 1) Cx15) (st.typs.length + 1) (namesC st.typs ++ [.int .i64 t1.kind, .string t1.text, .int .i64 t1.n, .int .i64 t1.pos])) := by unfold Hid; rw [← hw9]; exact World.ownsRow.kept Rx19_n.out (grown_ofSet _ _ _ _) (.inr (own_blk_ne Rx19_n.out Px19_p.out (by decide)))
          have Rx22_r : Hid (World.ownsRow x22 B 53 3 vr (st.ruls.length) (rulsC st.ruls)) := by unfold Hid; rw [← hw9]; exact World.ownsRow.kept Rx19_r.out (grown_ofSet _ _ _ _) (.inr (own_blk_ne Rx19_r.out Px19_p.out (by decide)))
          have Rx22_q : Hid (World.ownsRow x22 B 55 5 vq (st.quos.length) (quosC st.quos)) := by unfold Hid; rw [← hw9]; exact World.ownsRow.kept Rx19_q.out (grown_ofSet _ _ _ _) (.inr (own_blk_ne Rx19_q.out Px19_p.out (by decide)))
          have Rx22_e : Hid (World.ownsRow x22 B 101 8 ve (st.ruls.length) (endsC st.ruls)) := by unfold Hid; rw [← hw9]; exact World.ownsRow.kept Rx19_e.out (grown_ofSet _ _ _ _) (.inr (own_blk_ne Rx19_e.out Px19_p.out (by decide)))
          have Px22_n : Hid (Blk x22 a1 47 #[.int .i64 t1.kind, .string t1.text, .int .i64 t1.n, .int .i64 t1.pos]) := by unfold Hid; rw [← hw9]; exact Px19_n.out.other (a := ⟨g, 6, none⟩) (Ne.symm hga1) _
          have Px22_t : Hid (Blk x22 a2 51 #[.string t1.text, .int .i64 fl, .int .i64 lf]) := by unfold Hid; rw [← hw9]; exact Px19_t.out.other (a := ⟨g, 6, none⟩) (Ne.symm hga2) _
          have Px22_p : Hid (Blk x22 g 61 #[tv, .int .i64 ((m + 1 : Nat) : Int), nm, (.slice Ax14 (st.typs.length + 1) Cx14), vr, vq, (.slice Ax15 (st.typs.length + 1) Cx15), ve]) := by unfold Hid; rw [← hw9]; exact Px19_p.out.set_ 6 _
          have Lx22_b : Hid (Frm B g vt vr vq vn ve w x22) := by unfold Hid; rw [← hw9]; exact Lx19_b.out.setG hg 6 _
          clear hw9
          refine hKQ.out _ _ ?_
          clear hKQ KQ
          try simp only [Act.put, List.setIfInBounds_toArray, List.set_cons_zero, List.set_cons_succ, List.getElem_toArray, List.getElem_cons_zero, List.getElem_cons_succ]
          refine Late.wpAnyK_done (by kernel_rfl) ?_ _
          go_wp2_with fail
          go_end0
          refine item_ok _ hres.out ?_
          refine ⟨Lx22_b.out, (by simp), m + 1, _, vr, vq, _, ve, hn5, rfl, ⟨Px22_p.out, ?_, Rx22_r.out, Rx22_q.out, ?_, Rx22_e.out⟩⟩
          · exact own_cast Rx22_t.out (by simp) (by rw [typsC_snoc])
          · exact own_cast Rx22_n.out (by simp) (by rw [namesC_snoc]; rfl)
      ·
        go_simp
        refine world_is (P := fun W => KQ _ W) (fun x24 hw9 => ?_)
        have Rx24_t : Hid (World.ownsRow x24 B 51 3 vt (st.typs.length) (typsC st.typs)) := by unfold Hid; rw [← hw9]; exact World.ownsRow.alloc RT.out _
        have Rx24_n : Hid (World.ownsRow x24 B 47 4 vn (st.typs.length) (namesC st.typs)) := by unfold Hid; rw [← hw9]; exact World.ownsRow.alloc RN.out _
        have Rx24_r : Hid (World.ownsRow x24 B 53 3 vr (st.ruls.length) (rulsC st.ruls)) := by unfold Hid; rw [← hw9]; exact World.ownsRow.alloc RR.out _
        have Rx24_q : Hid (World.ownsRow x24 B 55 5 vq (st.quos.length) (quosC st.quos)) := by unfold Hid; rw [← hw9]; exact World.ownsRow.alloc RQ.out _
        have Rx24_e : Hid (World.ownsRow x24 B 101 8 ve (st.ruls.length) (endsC st.ruls)) := by unfold Hid; rw [← hw9]; exact World.ownsRow.alloc RE.out _
        have Px24_n : Hid (Blk x24 a1 47 #[.int .i64 t1.kind, .string t1.text, .int .i64 t1.n, .int .i64 t1.pos]) := by unfold Hid; rw [← hw9]; exact N5.out.alloc _
        have Px24_t : Hid (Blk x24 a2 51 #[.string t1.text, .int .i64 fl, .int .i64 lf]) := by unfold Hid; rw [← hw9]; exact T5.out.alloc _
        have Px24_p : Hid (Blk x24 g 61 #[tv, .int .i64 ((m + 1 : Nat) : Int), nm, vt, vr, vq, vn, ve]) := by unfold Hid; rw [← hw9]; exact PB.out.alloc _
        have Fx24_n : Hid (Blk x24 w5.heap.size 47 #[.int .i64 t1.kind, .string t1.text, .int .i64 t1.n, .int .i64 t1.pos]) := by unfold Hid; rw [← hw9]; exact Blk.new _ _ _
        have Lx24_b : Hid (Frm B g vt vr vq vn ve w x24) := by unfold Hid; rw [← hw9]; first | exact L5.out.alloc (Nat.le_trans hBg.out L5.out.bel.size) _ | exact Frm.drew (L5.out.alloc (Nat.le_trans hBg.out L5.out.bel.size) _)
        clear hw9
        refine hKQ.out _ _ (⟨Px24_p.out.cell 3, Px24_p.out.cell 6, Px24_n.out.cell 0, Px24_n.out.cell 1, Px24_n.out.cell 2, Px24_n.out.cell 3, Px24_t.out.cell 0, Px24_t.out.cell 1, Px24_t.out.cell 2⟩) (fun hHeld2 => ?_)
        clear hKQ KQ hHeld
        have hHeld := hHeld2
        clear hHeld2
        try simp only [Act.put, List.setIfInBounds_toArray, List.set_cons_zero, List.set_cons_succ, List.getElem_toArray, List.getElem_cons_zero, List.getElem_cons_succ]
        refine Late.wpAnyK_ready (rs := [8]) (by kernel_rfl) (by simp) ?_
        refine Late.AllReadyK.cons rfl (fun KQ hKQ => ?_) Late.AllReadyK.nil
        go_simp
        refine world_is (P := fun W => KQ _ W) (fun x25 hw9 => ?_)
        have Rx25_t : Hid (World.ownsRow x25 B 51 3 vt (st.typs.length) (typsC st.typs)) := by unfold Hid; rw [← hw9]; exact World.ownsRow.alloc Rx24_t.out _
        have Rx25_n : Hid (World.ownsRow x25 B 47 4 vn (st.typs.length) (namesC st.typs)) := by unfold Hid; rw [← hw9]; exact World.ownsRow.alloc Rx24_n.out _
        have Rx25_r : Hid (World.ownsRow x25 B 53 3 vr (st.ruls.length) (rulsC st.ruls)) := by unfold Hid; rw [← hw9]; exact World.ownsRow.alloc Rx24_r.out _
        have Rx25_q : Hid (World.ownsRow x25 B 55 5 vq (st.quos.length) (quosC st.quos)) := by unfold Hid; rw [← hw9]; exact World.ownsRow.alloc Rx24_q.out _
        have Rx25_e : Hid (World.ownsRow x25 B 101 8 ve (st.ruls.length) (endsC st.ruls)) := by unfold Hid; rw [← hw9]; exact World.ownsRow.alloc Rx24_e.out _
        have Px25_n : Hid (Blk x25 a1 47 #[.int .i64 t1.kind, .string t1.text, .int .i64 t1.n, .int .i64 t1.pos]) := by unfold Hid; rw [← hw9]; exact Px24_n.out.alloc _
        have Px25_t : Hid (Blk x25 a2 51 #[.string t1.text, .int .i64 fl, .int .i64 lf]) := by unfold Hid; rw [← hw9]; exact Px24_t.out.alloc _
        have Px25_p : Hid (Blk x25 g 61 #[tv, .int .i64 ((m + 1 : Nat) : Int), nm, vt, vr, vq, vn, ve]) := by unfold Hid; rw [← hw9]; exact Px24_p.out.alloc _
        have Fx25_n : Hid (Blk x25 w5.heap.size 47 #[.int .i64 t1.kind, .string t1.text, .int .i64 t1.n, .int .i64 t1.pos]) := by unfold Hid; rw [← hw9]; exact Fx24_n.out.alloc _
        have Fx25_t : Hid (Blk x25 x24.heap.size 51 #[.string t1.text, .int .i64 fl, .int .i64 lf]) := by unfold Hid; rw [← hw9]; exact Blk.new _ _ _
        have Lx25_b : Hid (Frm B g vt vr vq vn ve w x25) := by unfold Hid; rw [← hw9]; first | exact Lx24_b.out.alloc (Nat.le_trans hBg.out Lx24_b.out.bel.size) _ | exact Frm.drew (Lx24_b.out.alloc (Nat.le_trans hBg.out Lx24_b.out.bel.size) _)
        clear hw9
        refine hKQ.out _ _ (⟨Px25_p.out.cell 3, Px25_p.out.cell 6, Px25_n.out.cell 0, Px25_n.out.cell 1, Px25_n.out.cell 2, Px25_n.out.cell 3, Px25_t.out.cell 0, Px25_t.out.cell 1, Px25_t.out.cell 2⟩) (fun hHeld2 => ?_)
        clear hKQ KQ hHeld
        have hHeld := hHeld2
        clear hHeld2
        try simp only [Act.put, List.setIfInBounds_toArray, List.set_cons_zero, List.set_cons_succ, List.getElem_toArray, List.getElem_cons_zero, List.getElem_cons_succ]
        refine Late.wpAnyK_ready (rs := [9]) (by kernel_rfl) (by simp) ?_
        refine Late.AllReadyK.cons rfl (fun KQ hKQ => ?_) Late.AllReadyK.nil
        refine wp_gcat_op 23 51 (.agg #[.string ⟨#[]⟩, .int .i64 0, .int .i64 0]) 3 32 Tryd.underlying23 (by kernel_rfl) rfl (by decide) (by decide) _ _ rfl B vt (st.typs.length) (typsC st.typs) rfl Rx25_t.out (x24.heap.size) 1 1 [.string t1.text, .int .i64 fl, .int .i64 lf] rfl rfl Fx25_t.out (by intro u hu; simp only [List.mem_cons, List.not_mem_nil, or_false] at hu; rcases hu with rfl | rfl | rfl <;> rfl) hlen.out (Nat.le_trans hBg.out Lx25_b.out.bel.size) ?_
        intro vx26 x26 hP9
        obtain ⟨Ax26, Cx26, rfl⟩ := own_slice hP9.row
        have Rx26_t : Hid (World.ownsRow x26 B 51 3 (.slice Ax26 (st.typs.length + 1) Cx26) (st.typs.length + 1) (typsC st.typs ++ [.string t1.text, .int .i64 fl, .int .i64 lf])) := by unfold Hid; exact hP9.row
        have Rx26_n : Hid (World.ownsRow x26 B 47 4 vn (st.typs.length) (namesC st.typs)) := by unfold Hid; exact World.ownsRow.kept Rx25_n.out hP9.grown (own_own_ne Rx25_n.out Rx25_t.out (by decide))
        have Rx26_r : Hid (World.ownsRow x26 B 53 3 vr (st.ruls.length) (rulsC st.ruls)) := by unfold Hid; exact World.ownsRow.kept Rx25_r.out hP9.grown (own_own_ne Rx25_r.out Rx25_t.out (by decide))
        have Rx26_q : Hid (World.ownsRow x26 B 55 5 vq (st.quos.length) (quosC st.quos)) := by unfold Hid; exact World.ownsRow.kept Rx25_q.out hP9.grown (own_own_ne Rx25_q.out Rx25_t.out (by decide))
        have Rx26_e : Hid (World.ownsRow x26 B 101 8 ve (st.ruls.length) (endsC st.ruls)) := by unfold Hid; exact World.ownsRow.kept Rx25_e.out hP9.grown (own_own_ne Rx25_e.out Rx25_t.out (by decide))
        have Px26_n : Hid (Blk x26 a1 47 #[.int .i64 t1.kind, .string t1.text, .int .i64 t1.n, .int .i64 t1.pos]) := by unfold Hid; exact Px25_n.out.grown hP9.grown (Ne.symm (own_blk_ne Rx25_t.out Px25_n.out (by decide)))
        have Px26_t : Hid (Blk x26 a2 51 #[.string t1.text, .int .i64 fl, .int .i64 lf]) := by unfold Hid; exact Px25_t.out.grown hP9.grown (Ne.symm hAp2.out.1)
        have Px26_p : Hid (Blk x26 g 61 #[tv, .int .i64 ((m + 1 : Nat) : Int), nm, vt, vr, vq, vn, ve]) := by unfold Hid; exact Px25_p.out.grown hP9.grown (Ne.symm (own_blk_ne Rx25_t.out Px25_p.out (by decide)))
        have Fx26_n : Hid (Blk x26 w5.heap.size 47 #[.int .i64 t1.kind, .string t1.text, .int .i64 t1.n, .int .i64 t1.pos]) := by unfold Hid; exact Fx25_n.out.grown hP9.grown (Ne.symm (own_blk_ne Rx25_t.out Fx25_n.out (by decide)))
        have Lx26_b : Hid (Frm B g vt vr vq vn ve w x26) := by unfold Hid; exact frm_push hP9 (Nat.le_refl _) (Nat.le_trans hBg.out Lx25_b.out.bel.size) (fun _ h => h.1) Lx25_b.out
        clear hP9
        refine hKQ.out _ _ (⟨Px26_p.out.cell 3, Px26_p.out.cell 6, Px26_n.out.cell 0, Px26_n.out.cell 1, Px26_n.out.cell 2, Px26_n.out.cell 3, Px26_t.out.cell 0, Px26_t.out.cell 1, Px26_t.out.cell 2⟩) (fun hHeld2 => ?_)
        clear hKQ KQ hHeld
        have hHeld := hHeld2
        clear hHeld2
        try simp only [Act.put, List.setIfInBounds_toArray, List.set_cons_zero, List.set_cons_succ, List.getElem_toArray, List.getElem_cons_zero, List.getElem_cons_succ]
        refine Late.wpAnyK_ready (rs := [16]) (by kernel_rfl) (by simp) ?_
        refine Late.AllReadyK.cons rfl (fun KQ hKQ => ?_) Late.AllReadyK.nil
        refine wp_gcat_op 42 47 (.agg #[.int .i64 0, .string ⟨#[]⟩, .int .i64 0, .int .i64 0]) 4 40 Tryd.underlying42 (by kernel_rfl) rfl (by decide) (by decide) _ _ rfl B vn (st.typs.length) (namesC st.typs) rfl Rx26_n.out (w5.heap.size) 1 1 [.int .i64 t1.kind, .string t1.text, .int .i64 t1.n, .int .i64 t1.pos] rfl rfl Fx26_n.out (by intro u hu; simp only [List.mem_cons, List.not_mem_nil, or_false] at hu; rcases hu with rfl | rfl | rfl | rfl <;> rfl) hlen.out (Nat.le_trans hBg.out Lx26_b.out.bel.size) ?_
        intro vx27 x27 hP9
        obtain ⟨Ax27, Cx27, rfl⟩ := own_slice hP9.row
        have Rx27_t : Hid (World.ownsRow x27 B 51 3 (.slice Ax26 (st.typs.length + 1) Cx26) (st.typs.length + 1) (typsC st.typs ++ [.string t1.text, .int .i64 fl, .int .i64 lf])) := by unfold Hid; exact World.ownsRow.kept Rx26_t.out hP9.grown (own_own_ne Rx26_t.out Rx26_n.out (by decide))
        have Rx27_n : Hid (World.ownsRow x27 B 47 4 (.slice Ax27 (st.typs.length + 1) Cx27) (st.typs.length + 1) (namesC st.typs ++ [.int .i64 t1.kind, .string t1.text, .int .i64 t1.n, .int .i64 t1.pos])) := by unfold Hid; exact hP9.row
        have Rx27_r : Hid (World.ownsRow x27 B 53 3 vr (st.ruls.length) (rulsC st.ruls)) := by unfold Hid; exact World.ownsRow.kept Rx26_r.out hP9.grown (own_own_ne Rx26_r.out Rx26_n.out (by decide))
        have Rx27_q : Hid (World.ownsRow x27 B 55 5 vq (st.quos.length) (quosC st.quos)) := by unfold Hid; exact World.ownsRow.kept Rx26_q.out hP9.grown (own_own_ne Rx26_q.out Rx26_n.out (by decide))
        have Rx27_e : Hid (World.ownsRow x27 B 101 8 ve (st.ruls.length) (endsC st.ruls)) := by unfold Hid; exact World.ownsRow.kept Rx26_e.out hP9.grown (own_own_ne Rx26_e.out Rx26_n.out (by decide))
        have Px27_n : Hid (Blk x27 a1 47 #[.int .i64 t1.kind, .string t1.text, .int .i64 t1.n, .int .i64 t1.pos]) := by unfold Hid; exact Px26_n.out.grown hP9.grown (Ne.symm hAp1.out.2.2.2.1)
        have Px27_t : Hid (Blk x27 a2 51 #[.string t1.text, .int .i64 fl, .int .i64 lf]) := by unfold Hid; exact Px26_t.out.grown hP9.grown (Ne.symm (own_blk_ne Rx26_n.out Px26_t.out (by decide)))
        have Px27_p : Hid (Blk x27 g 61 #[tv, .int .i64 ((m + 1 : Nat) : Int), nm, vt, vr, vq, vn, ve]) := by unfold Hid; exact Px26_p.out.grown hP9.grown (Ne.symm (own_blk_ne Rx26_n.out Px26_p.out (by decide)))
        have Lx27_b : Hid (Frm B g vt vr vq vn ve w x27) := by unfold Hid; exact frm_push hP9 (Nat.le_refl _) (Nat.le_trans hBg.out Lx26_b.out.bel.size) (fun _ h => h.2.2.2.1) Lx26_b.out
        clear hP9
        refine hKQ.out _ _ (⟨Px27_p.out.cell 3, Px27_p.out.cell 6, Px27_n.out.cell 0, Px27_n.out.cell 1, Px27_n.out.cell 2, Px27_n.out.cell 3, Px27_t.out.cell 0, Px27_t.out.cell 1, Px27_t.out.cell 2⟩) (fun hHeld2 => ?_)
        clear hKQ KQ hHeld
        have hHeld := hHeld2
        clear hHeld2
        try simp only [Act.put, List.setIfInBounds_toArray, List.set_cons_zero, List.set_cons_succ, List.getElem_toArray, List.getElem_cons_zero, List.getElem_cons_succ]
        refine' Late.wpAnyK_take (i := 17) (v := ?v17x28) rfl (by kernel_rfl) (by kernel_rfl) (by kernel_rfl) (by kernel_rfl) (by kernel_rfl) (fun _ _ _ h => h) (Or.inl ⟨by rfl, ?hy17x28⟩) hHeld ?rest17x28
        case hy17x28 => intro w hSw; (try dsimp only at hSw); go_simp; all_goals with_reducible rfl
        try simp only [Act.put, List.setIfInBounds_toArray, List.set_cons_zero, List.set_cons_succ, List.getElem_toArray, List.getElem_cons_zero, List.getElem_cons_succ]
        refine' Late.wpAnyK_take (i := 18) (v := ?v18x29) rfl (by kernel_rfl) (by kernel_rfl) (by kernel_rfl) (by kernel_rfl) (by kernel_rfl) (fun _ _ _ h => h) (Or.inl ⟨by rfl, ?hy18x29⟩) hHeld ?rest18x29
        case hy18x29 => intro w hSw; (try dsimp only at hSw); go_simp; all_goals with_reducible rfl
        try simp only [Act.put, List.setIfInBounds_toArray, List.set_cons_zero, List.set_cons_succ, List.getElem_toArray, List.getElem_cons_zero, List.getElem_cons_succ]
        refine' Late.wpAnyK_take (i := 19) (v := ?v19x30) rfl (by kernel_rfl) (by kernel_rfl) (by kernel_rfl) (by kernel_rfl) (by kernel_rfl) (fun _ _ _ h => h) (Or.inl ⟨by rfl, ?hy19x30⟩) hHeld ?rest19x30
        case hy19x30 => intro w hSw; (try dsimp only at hSw); go_simp; all_goals with_reducible rfl
        try simp only [Act.put, List.setIfInBounds_toArray, List.set_cons_zero, List.set_cons_succ, List.getElem_toArray, List.getElem_cons_zero, List.getElem_cons_succ]
        refine Late.wpAnyK_ready (rs := [20]) (by kernel_rfl) (by simp) ?_
        refine Late.AllReadyK.late rfl (by kernel_rfl) (fun KQ hKQ => ?_)
        have c9 : x27.cell? ⟨g, 3, none⟩ = some (vt) := Px27_p.out.cell 3
        have f9 := Px27_p.out.frozen 3
        go_simp
        clear c9 f9
        refine world_is (P := fun W => KQ _ W) (fun x31 hw9 => ?_)
        have Rx31_t : Hid (World.ownsRow x31 B 51 3 (.slice Ax26 (st.typs.length + 1) Cx26) (st.typs.length + 1) (typsC st.typs ++ [.string t1.text, .int .i64 fl, .int .i64 lf])) := by unfold Hid; rw [← hw9]; exact World.ownsRow.kept Rx27_t.out (grown_ofSet _ _ _ _) (.inr (own_blk_ne Rx27_t.out Px27_p.out (by decide)))
        have Rx31_n : Hid (World.ownsRow x31 B 47 4 (.slice Ax27 (st.typs.length + 1) Cx27) (st.typs.length + 1) (namesC st.typs ++ [.int .i64 t1.kind, .string t1.text, .int .i64 t1.n, .int .i64 t1.pos])) := by unfold Hid; rw [← hw9]; exact World.ownsRow.kept Rx27_n.out (grown_ofSet _ _ _ _) (.inr (own_blk_ne Rx27_n.out Px27_p.out (by decide)))
        have Rx31_r : Hid (World.ownsRow x31 B 53 3 vr (st.ruls.length) (rulsC st.ruls)) := by unfold Hid; rw [← hw9]; exact World.ownsRow.kept Rx27_r.out (grown_ofSet _ _ _ _) (.inr (own_blk_ne Rx27_r.out Px27_p.out (by decide)))
        have Rx31_q : Hid (World.ownsRow x31 B 55 5 vq (st.quos.length) (quosC st.quos)) := by unfold Hid; rw [← hw9]; exact World.ownsRow.kept Rx27_q.out (grown_ofSet _ _ _ _) (.inr (own_blk_ne Rx27_q.out Px27_p.out (by decide)))
        have Rx31_e : Hid (World.ownsRow x31 B 101 8 ve (st.ruls.length) (endsC st.ruls)) := by unfold Hid; rw [← hw9]; exact World.ownsRow.kept Rx27_e.out (grown_ofSet _ _ _ _) (.inr (own_blk_ne Rx27_e.out Px27_p.out (by decide)))
        have Px31_n : Hid (Blk x31 a1 47 #[.int .i64 t1.kind, .string t1.text, .int .i64 t1.n, .int .i64 t1.pos]) := by unfold Hid; rw [← hw9]; exact Px27_n.out.other (a := ⟨g, 3, none⟩) (Ne.symm hga1) _
        have Px31_t : Hid (Blk x31 a2 51 #[.string t1.text, .int .i64 fl, .int .i64 lf]) := by unfold Hid; rw [← hw9]; exact Px27_t.out.other (a := ⟨g, 3, none⟩) (Ne.symm hga2) _
        have Px31_p : Hid (Blk x31 g 61 #[tv, .int .i64 ((m + 1 : Nat) : Int), nm, (.slice Ax26 (st.typs.length + 1) Cx26), vr, vq, vn, ve]) := by unfold Hid; rw [← hw9]; exact Px27_p.out.set_ 3 _
        have Lx31_b : Hid (Frm B g vt vr vq vn ve w x31) := by unfold Hid; rw [← hw9]; exact Lx27_b.out.setG hg 3 _
        clear hw9
        refine hKQ.out _ _ ?_
        clear hKQ KQ
        try simp only [Act.put, List.setIfInBounds_toArray, List.set_cons_zero, List.set_cons_succ, List.getElem_toArray, List.getElem_cons_zero, List.getElem_cons_succ]
        refine Late.wpAnyK_ready (rs := [21]) (by kernel_rfl) (by simp) ?_
        refine Late.AllReadyK.late rfl (by kernel_rfl) (fun KQ hKQ => ?_)
        go_simp
        refine hKQ.out _ _ ?_
        clear hKQ KQ
        try simp only [Act.put, List.setIfInBounds_toArray, List.set_cons_zero, List.set_cons_succ, List.getElem_toArray, List.getElem_cons_zero, List.getElem_cons_succ]
        refine Late.wpAnyK_ready (rs := [22]) (by kernel_rfl) (by simp) ?_
        refine Late.AllReadyK.late rfl (by kernel_rfl) (fun KQ hKQ => ?_)
        go_simp
        refine hKQ.out _ _ ?_
        clear hKQ KQ
        try simp only [Act.put, List.setIfInBounds_toArray, List.set_cons_zero, List.set_cons_succ, List.getElem_toArray, List.getElem_cons_zero, List.getElem_cons_succ]
        refine Late.wpAnyK_ready (rs := [23]) (by kernel_rfl) (by simp) ?_
        refine Late.AllReadyK.late rfl (by kernel_rfl) (fun KQ hKQ => ?_)
        have c9 : x31.cell? ⟨g, 6, none⟩ = some (vn) := Px31_p.out.cell 6
        have f9 := Px31_p.out.frozen 6
        go_simp
        clear c9 f9
        refine world_is (P := fun W => KQ _ W) (fun x34 hw9 => ?_)
        have Rx34_t : Hid (World.ownsRow x34 B 51 3 (.slice Ax26 (st.typs.length + 1) Cx26) (st.typs.length + 1) (typsC st.typs ++ [.string t1.text, .int .i64 fl, .int .i64 lf])) := by unfold Hid; rw [← hw9]; exact World.ownsRow.kept Rx31_t.out (grown_ofSet _ _ _ _) (.inr (own_blk_ne Rx31_t.out Px31_p.out (by decide)))
        have Rx34_n : Hid (World.ownsRow x34 B 47 4 (.slice Ax27 (st.typs.length + 1) Cx27) (st.typs.length + 1) (namesC st.typs ++ [.int .i64 t1.kind, .string t1.text, .int .i64 t1.n, .int .i64 t1.pos])) := by unfold Hid; rw [← hw9]; exact World.ownsRow.kept Rx31_n.out (grown_ofSet _ _ _ _) (.inr (own_blk_ne Rx31_n.out Px31_p.out (by decide)))
        have Rx34_r : Hid (World.ownsRow x34 B 53 3 vr (st.ruls.length) (rulsC st.ruls)) := by unfold Hid; rw [← hw9]; exact World.ownsRow.kept Rx31_r.out (grown_ofSet _ _ _ _) (.inr (own_blk_ne Rx31_r.out Px31_p.out (by decide)))
        have Rx34_q : Hid (World.ownsRow x34 B 55 5 vq (st.quos.length) (quosC st.quos)) := by unfold Hid; rw [← hw9]; exact World.ownsRow.kept Rx31_q.out (grown_ofSet _ _ _ _) (.inr (own_blk_ne Rx31_q.out Px31_p.out (by decide)))
        have Rx34_e : Hid (World.ownsRow x34 B 101 8 ve (st.ruls.length) (endsC st.ruls)) := by unfold Hid; rw [← hw9]; exact World.ownsRow.kept Rx31_e.out (grown_ofSet _ _ _ _) (.inr (own_blk_ne Rx31_e.out Px31_p.out (by decide)))
        have Px34_n : Hid (Blk x34 a1 47 #[.int .i64 t1.kind, .string t1.text, .int .i64 t1.n, .int .i64 t1.pos]) := by unfold Hid; rw [← hw9]; exact Px31_n.out.other (a := ⟨g, 6, none⟩) (Ne.symm hga1) _
        have Px34_t : Hid (Blk x34 a2 51 #[.string t1.text, .int .i64 fl, .int .i64 lf]) := by unfold Hid; rw [← hw9]; exact Px31_t.out.other (a := ⟨g, 6, none⟩) (Ne.symm hga2) _
        have Px34_p : Hid (Blk x34 g 61 #[tv, .int .i64 ((m + 1 : Nat) : Int), nm, (.slice Ax26 (st.typs.length + 1) Cx26), vr, vq, (.slice Ax27 (st.typs.length + 1) Cx27), ve]) := by unfold Hid; rw [← hw9]; exact Px31_p.out.set_ 6 _
        have Lx34_b : Hid (Frm B g vt vr vq vn ve w x34) := by unfold Hid; rw [← hw9]; exact Lx31_b.out.setG hg 6 _
        clear hw9
        refine hKQ.out _ _ ?_
        clear hKQ KQ
        try simp only [Act.put, List.setIfInBounds_toArray, List.set_cons_zero, List.set_cons_succ, List.getElem_toArray, List.getElem_cons_zero, List.getElem_cons_succ]
        refine Late.wpAnyK_done (by kernel_rfl) ?_ _
        go_wp2_with fail
        go_end0
        refine item_ok _ hres.out ?_
        refine ⟨Lx34_b.out, (by simp), m + 1, _, vr, vq, _, ve, hn5, rfl, ⟨Px34_p.out, ?_, Rx34_r.out, Rx34_q.out, ?_, Rx34_e.out⟩⟩
        · exact own_cast Rx34_t.out (by simp) (by rw [typsC_snoc])
        · exact own_cast Rx34_n.out (by simp) (by rw [namesC_snoc]; rfl)
    case false =>
      have HP5 := Lib.hid (HPr.out.step (m := m) hG5 hb5)
      have hncl : Hid (∀ t, l[m]? = some t → isText wClose t = false) := fun t ht => by
        cases h : isText wClose t
        · rfl
        · exact absurd (hbi.2 ⟨t, ht, h⟩) (by decide)
      obtain ⟨fb, fo, fc, y1, y2, y3⟩ := hTB.flags w5 L5.out.bel
      have y1' : w5.cell? ⟨0, 0, none⟩ = some (.slice (some ⟨fb, fo, none⟩) 7 fc) := y1
      obtain ⟨u, hu⟩ : ∃ u, peek (l.drop m) = u := ⟨_, rfl⟩
      have hPK : Hid (∀ W, Below B w W → Below w5.heap.size w5 W → Calls Tryd.prog 59 #[.pointer (some ⟨g, 0, none⟩)] W fun e w' => e = .returned (.string u) ∧ Below W.heap.size W w') := fun W h h2 => by
        rw [← hu]
        exact peek_any W g B m tv nm vt vr vq vn ve l (HP5.out.blk.below h2 HP5.out.blk.lt) (HT.out.below h) hl2
      have hIX : Hid (∀ W, Below w5.heap.size w5 W → Calls Tryd.prog 47 #[.slice (some ⟨fb, fo, none⟩) 7 fc, .string u] W fun e w' => e = .returned (.int .i64 (if findW flagWords u < 7 then (findW flagWords u : Int) else -1)) ∧ w' = W) := fun W h =>
        indexS_any W fb fo fc flagWords u (by decide) (fun j z hz => (h.cell (p := ⟨fb, fo + j, none⟩) y2).trans (y3 j z hz))
      obtain ⟨zk, hzk⟩ : ∃ z : Int, (if findW flagWords u < 7 then (findW flagWords u : Int) else -1) = z := ⟨_, rfl⟩
      rw [hzk] at hIX
      have hzkH := Lib.hid hzk
      have huH := Lib.hid hu
      have hgf : 0 < w5.heap.size := (hTB.flags w5 L5.out.bel).lt
      have hBw5 : Hid (B ≤ w5.heap.size) := Nat.le_trans hBg.out L5.out.bel.size
      clear hbi hb5 hG5 HPr Nr Tr Lr HTr y1 y2 y3 hzk hu
      go_upto_region 5 with fail
      go_region_held3 (fun w' => w'.cell? ⟨0, 0, none⟩ = some (.slice (some ⟨fb, fo, none⟩) 7 fc)) (go_keep)
        (first | (go_at_call 47; refine (hIX.out _ hB6).mono ?_; rintro e w7 ⟨rfl, rfl⟩) | (go_at_call 59; refine (hPK.out _ L5.out.bel.drew ((Below.refl _ _).drew)).mono ?_; rintro e w6 ⟨rfl, hB60⟩; have hB6 : Below w5.heap.size w5 w6 := ((Below.refl _ _).drew).trans hB60; have y6 := (hB6.cell (p := ⟨0, 0, none⟩) hgf).trans y1'))
      have HP7 := Lib.hid (HP5.out.below hB6)
      have N7 := Lib.hid (N5.out.below hB6 N5.out.lt)
      have T7 := Lib.hid (T5.out.below hB6 T5.out.lt)
      have L7 := Lib.hid (L5.out.trans (frm_below hB6 hBw5.out))
      have HB6 := Lib.hid hB6
      clear HP5 N5 T5 HT5 hB6 hB60 y6 y1' hIX
      cases hlf : (u.toList == [108, 105, 102, 101])
      case false =>
        have hcond : Hid (∀ t, l[m]? = some t → (isText wLife t && !lb) = false) := fun t ht => by
          have e : t.text = u := (peek_at ht).symm.trans huH.out
          rw [show isText wLife t = false from (by unfold isText; rw [toList_life, e, hlf])]
          rfl
        go_upto_region 11 with (first | (go_at_call 59; refine (hPK.out _ L7.out.bel HB6.out).mono ?_; rintro e w8 ⟨rfl, hB8⟩))
        have HP8 := Lib.hid (HP7.out.below hB8)
        have N8 := Lib.hid (N7.out.below hB8 N7.out.lt)
        have T8 := Lib.hid (T7.out.below hB8 T7.out.lt)
        have L8 := Lib.hid (L7.out.trans (frm_below hB8 (Nat.le_trans hBg.out L7.out.bel.size)))
        clear HP7 N7 T7 L7 HB6 hB8 hPK
        by_cases hk7 : findW flagWords u < 7
        · obtain ⟨kf, hkf⟩ : ∃ k, findW flagWords u = k := ⟨_, rfl⟩
          have hz : zk = (kf : Int) := by rw [← hzkH.out, if_pos hk7, hkf]
          subst hz
          have q0 : decide ((0 : Int) ≤ (kf : Int)) = true := decide_eq_true (by omega)
          have q1 : (0 : Int) ≤ (kf : Int) := by omega
          rw [hkf] at hk7
          have fc1 : w8.cell? ⟨a2, 1, none⟩ = some (.int .i64 fl) := T8.out.cell 1
          have hkfH := Lib.hid hkf
          have hfb := flag_bits hfl hk7
          clear hkf hzkH
          cases hbit : fl.testBit kf
          case false =>
            rw [hbit] at hfb
            have hfb2 : (bits BinOp.and IntKind.i64 ((fl : Int) / 2 ^ kf) 1 == 0) = true := hfb
            have pc1 : w8.cell? ⟨g, 1, none⟩ = some (.int .i64 m) := HP8.out.blk.cell 1
            have pf1 := HP8.out.blk.frozen 1
            have hmm : m ≤ 4000 := Nat.le_trans hm hl
            go_upto_region 13 with fail
            refine world_is (P := fun W => Code.wp _ _ _ _ W) (fun W9 hW9 => ?_)
            have HP9 : Hid (PIs W9 B g (m + 1) tv nm vt vr vq vn ve st) := by unfold Hid; rw [← hW9]; exact HP8.out.step (m := m + 1) (grown_ofSet _ _ _ _) (HP8.out.blk.set_ 1 _)
            have N9 : Hid (Blk W9 a1 47 #[.int .i64 t1.kind, .string t1.text, .int .i64 t1.n, .int .i64 t1.pos]) := by unfold Hid; rw [← hW9]; exact N8.out.other (a := ⟨g, 1, none⟩) (Ne.symm hga1) _
            have T9 : Hid (Blk W9 a2 51 #[.string t1.text, .int .i64 fl, .int .i64 lf]) := by unfold Hid; rw [← hW9]; exact T8.out.other (a := ⟨g, 1, none⟩) (Ne.symm hga2) _
            have L9 : Hid (Frm B g vt vr vq vn ve w W9) := by unfold Hid; rw [← hW9]; exact L8.out.setG hg 1 _
            have fc9 : W9.cell? ⟨a2, 1, none⟩ = some (.int .i64 fl) := T9.out.cell 1
            have ff9 := T9.out.frozen 1
            clear hW9 HP8 N8 T8 L8 pc1 pf1 fc1 hfb hfb2
            obtain ⟨hor, hfl2⟩ := flag_or hfl hk7 hbit
            obtain ⟨f2, hf2⟩ : ∃ f, fl + 2 ^ kf = f := ⟨_, rfl⟩
            rw [hf2] at hor hfl2
            have hf2H := Lib.hid hf2
            clear hf2
            go_region
            refine world_is (P := fun W => Exit.inBlock _ _ Exit.normal _ W) (fun W10 hW10 => ?_)
            have HP10 : Hid (PIs W10 B g (m + 1) tv nm vt vr vq vn ve st) := by unfold Hid; rw [← hW10]; exact HP9.out.other (grown_drew (grown_ofSet _ a2 1 _)) hga2 hAp2.out
            have N10 : Hid (Blk W10 a1 47 #[.int .i64 t1.kind, .string t1.text, .int .i64 t1.n, .int .i64 t1.pos]) := by unfold Hid; rw [← hW10]; exact (N9.out.other (a := ⟨a2, 1, none⟩) h12 _).drew
            have T10 : Hid (Blk W10 a2 51 #[.string t1.text, .int .i64 (f2 : Int), .int .i64 lf]) := by unfold Hid; rw [← hW10]; exact (T9.out.set_ 1 _).drew
            have L10 : Hid (Frm B g vt vr vq vn ve w W10) := by unfold Hid; rw [← hW10]; exact (L9.out.setN (a := a2) hBa2 hwa2 1 _).drew
            have HT10 := Lib.hid (HT.out.below L10.out.bel)
            obtain ⟨tm, htm, hum⟩ := peek_flag huH.out hkfH.out hk7
            have hm1 := lt_of_at htm
            have hEm := Lib.hid (typLoop_flag fl lf lb htm (hncl.out _ htm) (hcond.out _ htm) (by rw [hum]; exact hkfH.out) hk7 hbit)
            rw [hf2H.out] at hEm
            clear hW10 HP9 N9 T9 L9 fc9 ff9 hor hbit htm hum
            go_wp2_with fail
            refine (expect_any W10 g B (m + 1) ⟨#[59]⟩ tv nm vt vr vq vn ve l HP10.out.blk HT10.out hg hm1 hl2).mono ?_
            rintro e w11 (⟨t3, ht3, hp3, rfl, hb11, hG11⟩ | ⟨hno, rfl, hb11, hG11⟩)
            case inr =>
              go_wp2_with fail
              exact ⟨rfl, item_bad (L10.out.trans (frm_grown hG11 hg HP10.out.blk.lt)) hm1 (hbadE.out _ (HE.out.trans (hEm.out.trans (by unfold expect; rw [take_drop_no (p := isText wSemi) hno]; rfl))))⟩
            have hm2 := lt_of_at ht3
            have E3 : Hid (typLoop (l.drop m) fl lf lb = typLoop (l.drop (m + 1 + 1)) f2 lf lb) := hEm.out.trans (by unfold expect; rw [take_drop_yes (p := isText wSemi) ht3 hp3]; rfl)
            have R11 := Lib.hid (show PIs w11 B g (m + 1 + 1) tv nm vt vr vq vn ve st from HP10.out.step hG11 hb11)
            have N11 := Lib.hid (N10.out.grown hG11 (fun e => hga1 (by cases e; rfl)))
            have T11 := Lib.hid (T10.out.grown hG11 (fun e => hga2 (by cases e; rfl)))
            have L11 := Lib.hid (L10.out.trans (frm_grown hG11 hg HP10.out.blk.lt))
            clear hb11 hG11 ht3 hp3 HP10 N10 T10 L10 HT10
            go_wp2_with fail
            go_roundw
            case rel => exact ⟨m + 1 + 1, f2, lf, lb, rfl, hm2, hfl2, HE.out.trans E3.out, R11, N11, T11, L11⟩
            case measure =>
              have h1 := R11.out.blk.cell 1
              rw [h1, hmc.out]
              show l.length - (intOf (.int .i64 ((m + 1 + 1 : Nat) : Int))).toNat < l.length - (intOf (.int .i64 (m : Int))).toNat
              simp only [intOf, Int.toNat_natCast]
              omega
          case true =>
            rw [hbit] at hfb
            have hfb2 : (bits BinOp.and IntKind.i64 ((fl : Int) / 2 ^ kf) 1 == 0) = false := hfb
            have pc1 : w8.cell? ⟨g, 1, none⟩ = some (.int .i64 m) := HP8.out.blk.cell 1
            go_wp2_with fail
            exact ⟨rfl, item_bad L8.out hm (hbadE.out _ (HE.out.trans (typLoop_stuck fl lf lb huH.out hncl.out hcond.out (by rw [hkfH.out, hbit]; simp))))⟩
        · have hz : zk = -1 := by rw [← hzkH.out, if_neg hk7]
          subst hz
          have q0 : decide ((0 : Int) ≤ (-1 : Int)) = false := by decide
          have pc1 : w8.cell? ⟨g, 1, none⟩ = some (.int .i64 m) := HP8.out.blk.cell 1
          go_wp2_with fail
          exact ⟨rfl, item_bad L8.out hm (hbadE.out _ (HE.out.trans (typLoop_stuck fl lf lb huH.out hncl.out hcond.out (by rw [decide_eq_false hk7]; rfl))))⟩
      case true =>
        have hul : (u.toList == wLife.toList) = true := by rw [toList_life]; exact hlf
        have hue : u = wLife := by
          have h1 := beq_iff_eq.1 hul
          rw [ByteArray.toList_eq, ByteArray.toList_eq] at h1
          exact ByteArray.ext (Array.ext' h1)
        have hueH := Lib.hid hue
        have hulH := Lib.hid hul
        clear hue hul
        cases lb
        case true =>
          have hz : zk = -1 := by rw [← hzkH.out, if_neg (by rw [hueH.out, flag_life]; decide)]
          subst hz
          have q0 : decide ((0 : Int) ≤ (-1 : Int)) = false := by decide
          go_upto_region 11 with (first | (go_at_call 59; refine (hPK.out _ L7.out.bel HB6.out).mono ?_; rintro e w8 ⟨rfl, hB8⟩))
          have HP8 := Lib.hid (HP7.out.below hB8)
          have L8 := Lib.hid (L7.out.trans (frm_below hB8 (Nat.le_trans hBg.out L7.out.bel.size)))
          have pc1 : w8.cell? ⟨g, 1, none⟩ = some (.int .i64 m) := HP8.out.blk.cell 1
          go_wp2_with fail
          exact ⟨rfl, item_bad L8.out hm (hbadE.out _ (HE.out.trans (typLoop_stuck fl lf true huH.out hncl.out (fun t _ => by simp) (by rw [hueH.out, flag_life]; rfl))))⟩
        case false =>
          obtain ⟨tm, htm, hptm⟩ := peek_text huH.out hulH.out (by decide)
          have hm1 := lt_of_at htm
          have hEm := Lib.hid (typLoop_life fl lf false htm (hncl.out _ htm) hptm rfl)
          have hmm : m ≤ 4000 := Nat.le_trans hm hl
          clear hulH hueH hptm htm hzkH huH
          go_upto_region 9 with (first | (go_at_call 59; refine (hPK.out _ L7.out.bel HB6.out).mono ?_; rintro e w8 ⟨rfl, hB8⟩))
          have HP8 := Lib.hid (HP7.out.below hB8)
          have N8 := Lib.hid (N7.out.below hB8 N7.out.lt)
          have T8 := Lib.hid (T7.out.below hB8 T7.out.lt)
          have L8 := Lib.hid (L7.out.trans (frm_below hB8 (Nat.le_trans hBg.out L7.out.bel.size)))
          clear HP7 N7 T7 L7 HB6 hB8 hPK
          have pc1 : w8.cell? ⟨g, 1, none⟩ = some (.int .i64 m) := HP8.out.blk.cell 1
          have pf1 := HP8.out.blk.frozen 1
          go_upto_region 10 with fail
          refine world_is (P := fun W => Code.wp _ _ _ _ W) (fun W9 hW9 => ?_)
          have HP9 : Hid (PIs W9 B g (m + 1) tv nm vt vr vq vn ve st) := by unfold Hid; rw [← hW9]; exact HP8.out.step (m := m + 1) (grown_ofSet _ _ _ _) (HP8.out.blk.set_ 1 _)
          have N9 : Hid (Blk W9 a1 47 #[.int .i64 t1.kind, .string t1.text, .int .i64 t1.n, .int .i64 t1.pos]) := by unfold Hid; rw [← hW9]; exact N8.out.other (a := ⟨g, 1, none⟩) (Ne.symm hga1) _
          have T9 : Hid (Blk W9 a2 51 #[.string t1.text, .int .i64 fl, .int .i64 lf]) := by unfold Hid; rw [← hW9]; exact T8.out.other (a := ⟨g, 1, none⟩) (Ne.symm hga2) _
          have L9 : Hid (Frm B g vt vr vq vn ve w W9) := by unfold Hid; rw [← hW9]; exact L8.out.setG hg 1 _
          have HT9 := Lib.hid (HT.out.below L9.out.bel)
          clear hW9 HP8 N8 T8 L8 pc1 pf1
          go_wp2_with fail
          refine (number_any' HP9.out.blk HT9.out hg hm1 hl2).mono ?_
          rintro e w10 (⟨t3, ht3, hp3, rfl, hb10, hG10⟩ | ⟨hno, rfl, hb10, hG10⟩)
          case inr =>
            go_wp2_with fail
            exact ⟨rfl, item_bad (L9.out.trans (frm_grown hG10 hg HP9.out.blk.lt)) hm1 (hbadE.out _ (HE.out.trans (hEm.out.trans (by unfold num; rw [take_drop_no (p := isNumT) hno]; rfl))))⟩
          have hm2 := lt_of_at ht3
          have E3 : Hid (num (l.drop (m + 1)) = .ok (l.drop (m + 1 + 1)) t3) := take_drop_yes ht3 hp3
          have HP10 := Lib.hid (show PIs w10 B g (m + 1 + 1) tv nm vt vr vq vn ve st from HP9.out.step hG10 hb10)
          have N10 := Lib.hid (N9.out.grown hG10 (fun e => hga1 (by cases e; rfl)))
          have T10 := Lib.hid (T9.out.grown hG10 (fun e => hga2 (by cases e; rfl)))
          have L10 := Lib.hid (L9.out.trans (frm_grown hG10 hg HP9.out.blk.lt))
          have tc2 : w10.cell? ⟨a2, 2, none⟩ = some (.int .i64 lf) := T10.out.cell 2
          have tf2 := T10.out.frozen 2
          clear hb10 hG10 ht3 hp3 HP9 N9 T9 L9 HT9
          go_upto_region 14 with fail
          refine world_is (P := fun W => Code.wp _ _ _ _ W) (fun W11 hW11 => ?_)
          have HP11 : Hid (PIs W11 B g (m + 1 + 1) tv nm vt vr vq vn ve st) := by unfold Hid; rw [← hW11]; exact HP10.out.other (grown_ofSet _ a2 2 _) hga2 hAp2.out
          have N11 : Hid (Blk W11 a1 47 #[.int .i64 t1.kind, .string t1.text, .int .i64 t1.n, .int .i64 t1.pos]) := by unfold Hid; rw [← hW11]; exact N10.out.other (a := ⟨a2, 2, none⟩) h12 _
          have T11 : Hid (Blk W11 a2 51 #[.string t1.text, .int .i64 fl, .int .i64 t3.n]) := by unfold Hid; rw [← hW11]; exact T10.out.set_ 2 _
          have L11 : Hid (Frm B g vt vr vq vn ve w W11) := by unfold Hid; rw [← hW11]; exact L10.out.setN (a := a2) hBa2 hwa2 2 _
          have HT11 := Lib.hid (HT.out.below L11.out.bel)
          clear hW11 HP10 N10 T10 L10 tc2 tf2
          go_wp2_with fail
          refine (expect_any W11 g B (m + 1 + 1) ⟨#[59]⟩ tv nm vt vr vq vn ve l HP11.out.blk HT11.out hg hm2 hl2).mono ?_
          rintro e w12 (⟨t4, ht4, hp4, rfl, hb12, hG12⟩ | ⟨hno, rfl, hb12, hG12⟩)
          case inr =>
            go_wp2_with fail
            exact ⟨rfl, item_bad (L11.out.trans (frm_grown hG12 hg HP11.out.blk.lt)) hm2 (hbadE.out _ (HE.out.trans (hEm.out.trans (by rw [E3.out]; simp only [Rd.bind]; unfold expect; rw [take_drop_no (p := isText wSemi) hno]))))⟩
          have hm3 := lt_of_at ht4
          have E4 : Hid (typLoop (l.drop m) fl lf false = typLoop (l.drop (m + 1 + 1 + 1)) fl t3.n true) := hEm.out.trans (by rw [E3.out]; simp only [Rd.bind]; unfold expect; rw [take_drop_yes (p := isText wSemi) ht4 hp4])
          have R12 := Lib.hid (show PIs w12 B g (m + 1 + 1 + 1) tv nm vt vr vq vn ve st from HP11.out.step hG12 hb12)
          have N12 := Lib.hid (N11.out.grown hG12 (fun e => hga1 (by cases e; rfl)))
          have T12 := Lib.hid (T11.out.grown hG12 (fun e => hga2 (by cases e; rfl)))
          have L12 := Lib.hid (L11.out.trans (frm_grown hG12 hg HP11.out.blk.lt))
          clear hb12 hG12 ht4 hp4 HP11 N11 T11 L11 HT11
          go_wp2_with fail
          go_roundw
          case rel => exact ⟨m + 1 + 1 + 1, fl, t3.n, true, rfl, hm3, hfl, HE.out.trans E4.out, R12, N12, T12, L12⟩
          case measure =>
            have h1 := R12.out.blk.cell 1
            rw [h1, hmc.out]
            show l.length - (intOf (.int .i64 ((m + 1 + 1 + 1 : Nat) : Int))).toNat < l.length - (intOf (.int .i64 (m : Int))).toNat
            simp only [intOf, Int.toNat_natCast]
            omega
end Go.Proofs.YtemhiiignamkjaaDoor
