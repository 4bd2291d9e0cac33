/-
  Layer 46 (script), the specification: isStep.
-/
import Derived.Test.YtldkfhimpkiigaaGreatDoorR46W5
import Derived.Test.YtldkfhimpkiigaaGreatDoorCatRow
namespace Go.Proofs.YtldkfhimpkiigaaGreatDoor
open Go.RowKit ScrP
attribute [local go_sem] Oper.semAt_some

theorem two_ {E : List (List Nat)} {e1 e2 : List Nat} (hE : E = [e1, e2]) {s : List Nat} (hs : s ∈ Chains.vecs E) : ∃ k1 k2, s = [k1, k2] ∧ k1 ≤ e1.length ∧ k2 ≤ e2.length := by
  subst hE
  simp only [Chains.vecs, List.mem_flatMap, List.mem_map, List.mem_cons, List.not_mem_nil, or_false, List.mem_range] at hs
  obtain ⟨k1, h1, r, ⟨k2, h2, r2, rfl, rfl⟩, rfl⟩ := hs
  exact ⟨k1, k2, rfl, by omega, by omega⟩
theorem next_two {k1 k2 c i : Nat} (h : Chains.next [[0, 4, 5], [6]] [k1, k2] c = some i) :
    (c = 0 ∧ k1 = 0 ∧ i = 0) ∨ (c = 0 ∧ k1 = 1 ∧ i = 4) ∨ (c = 0 ∧ k1 = 2 ∧ i = 5) ∨ (c = 1 ∧ k2 = 0 ∧ i = 6) := by
  unfold Chains.next at h
  rcases c with _ | _ | c
  · rcases k1 with _ | _ | _ | k1 <;> simp at h <;> simp [h]
  · rcases k2 with _ | k2 <;> simp at h <;> simp [h]
  · simp at h
/-- How far the look-up in the table has come. -/
structure RInv (W : World) (g : Nat) (a0 : Act) (k : Nat) (r : KRow) (s : List Nat) (a : Act) (w : World) : Prop where
  bel : Below g W w
  agr : Chains.Agree [16, 20, 21, 3] a0 a
  p1 : s.getD 0 0 = 1 → ∃ b, a.eval (.tmp 16) = .slice (some ⟨b, 0, none⟩) 23 23 ∧ g ≤ b ∧ RTab w b
  p2 : s.getD 0 0 = 2 → ∃ b, a.eval (.tmp 20) = .pointer (some ⟨b, k * 4, none⟩) ∧ g ≤ b ∧ RTab w b
  p3 : s.getD 0 0 = 3 → a.eval (.tmp 21) = rowV r
  p4 : s.getD 1 0 = 1 → ∃ y, a.eval (.tmp 3) = .pointer (some ⟨y, 0, none⟩) ∧ g ≤ y ∧ Blk w y 64 #[.string ⟨#[]⟩, .int .i64 0, .int .i64 0, .bool false]
theorem i64_in {z : Int} (h0 : -9223372036854775808 ≤ z) (h1 : z ≤ 9223372036854775807) : IntKind.i64.wrap z = z := by
  unfold IntKind.wrap
  simp [IntKind.signed, IntKind.bits]
  omega
theorem all_false {l : List Int} {i : Nat} {a : Int} (ha : l[i]? = some a) (h : argOk a = false) : l.all argOk = false := by
  rw [Bool.eq_false_iff]
  intro h2
  have := List.all_eq_true.1 h2 a (List.mem_of_getElem? ha)
  rw [h] at this
  cases this
theorem act_is6 {P : Act → Prop} {X : Act} (h : ∀ A, X = A → P A) : P X := h X rfl
theorem tmp_of {a : Act} {t : Nat} {v : Value} (h : a.eval (.tmp t) = v) : a.tmps[t]?.getD undef = v := by rw [← Array.getD_eq_getD_getElem?]; exact h
set_option maxRecDepth 100000 in
set_option maxHeartbeats 12800000 in
theorem risStep_any (x : Stp) (va : Value) (B : Nat) (w : World) (hr : RowAt w B va x.args.length (intsC x.args)) (hB : B ≤ w.heap.size) (hn : x.args.length ≤ 17592186044416) (ht : x.text.size ≤ 140737488355328) :
    Calls Tryz.prog 42 #[.agg #[.int .i64 x.kind, va, .string x.text]] w fun e w' => e = .returned (.bool (stepOk x)) ∧ Below w.heap.size w w' := by
  obtain ⟨A, c, rfl, hA⟩ := id hr
  clear hA
  have HR := Lib.hid hr
  have HT := Lib.hid ht
  have hBH := Lib.hid hB
  obtain ⟨n, hnn⟩ : ∃ n, x.args.length = n := ⟨_, rfl⟩
  have hnH := Lib.hid hnn
  rw [hnn] at hn ⊢
  obtain ⟨tx, htx⟩ : ∃ t, x.text = t := ⟨_, rfl⟩
  have htH := Lib.hid htx
  rw [htx] at HT ⊢
  obtain ⟨z, hz⟩ : ∃ z, x.kind = z := ⟨_, rfl⟩
  have hzH := Lib.hid hz
  rw [hz]
  clear hr hB ht htx hz hnn
  go_enter Tryz.func42, Tryz.ntmps42
  go_upto_region 1 with fail
  refine world_is (P := fun W => Code.wp _ _ _ _ W) (fun W1 hW1 => ?_)
  have B1 : Hid (Below w.heap.size w W1) := by unfold Hid; rw [← hW1]; exact (Below.refl _ _).alloc (Nat.le_refl _) _
  have X1 : Hid (Blk W1 w.heap.size 53 #[.int .i64 z, .slice A n c, .string tx]) := by unfold Hid; rw [← hW1]; exact Blk.new _ _ _
  obtain ⟨g, hg⟩ : ∃ g, w.heap.size = g := ⟨_, rfl⟩
  rw [hg] at X1 ⊢
  clear hW1 hg
  have x0 := X1.out.cell 0
  obtain ⟨kb, hkb⟩ : ∃ b, isKindB z = b := ⟨_, rfl⟩
  have hkbH := Lib.hid hkb
  by_cases h1 : z < 1
  · have hRes : Hid (stepOk x = false) := by unfold Hid stepOk; rw [hzH.out]; unfold isKindB; rw [decide_eq_false (by omega)]; rfl
    have d1 : decide (z < 1) = true := decide_eq_true h1
    clear hkb
    go_wp2_with fail
    go_ret
    exact ⟨by rw [hRes.out]; rfl, B1.out⟩
  have d1 : decide (z < 1) = false := decide_eq_false h1
  by_cases h2 : 23 < z
  · have hRes : Hid (stepOk x = false) := by unfold Hid stepOk; rw [hzH.out]; unfold isKindB; rw [decide_eq_false (show ¬ z < 24 by omega), Bool.and_false]; rfl
    have d2 : decide (23 < z) = true := decide_eq_true h2
    clear hkb
    go_wp2_with fail
    go_ret
    exact ⟨by rw [hRes.out]; rfl, B1.out⟩
  have d2 : decide (23 < z) = false := decide_eq_false h2
  obtain ⟨k, hk⟩ : ∃ k : Nat, z = ((k + 1 : Nat) : Int) := ⟨(z - 1).toNat, by omega⟩
  obtain ⟨r, hrr⟩ : ∃ r, rowOf z = r := ⟨_, rfl⟩
  have hka : krows[k + 1]? = some r := by
    have := krow_at (z := z) (by omega) (by omega)
    rwa [show z.toNat = k + 1 by omega, hrr] at this
  have hm := krow_most (List.mem_iff_getElem?.2 ⟨k + 1, hka⟩)
  have hEq := stepOk_eq (x := x) (r := r) (by rw [hzH.out]; unfold isKindB; rw [decide_eq_true (by omega), decide_eq_true (by omega)]; rfl) (by rw [hzH.out]; exact hrr)
  rw [hnH.out, htH.out] at hEq
  have hEqH := Lib.hid hEq
  have hmH := Lib.hid hm
  have hkaH := Lib.hid hka
  have e1 : z - 1 = (k : Int) := by omega
  have k1 : (0 : Int) ≤ (k : Int) := by omega
  have k2 : (k : Int) < 23 := by omega
  have hz1 : -9223372036854775808 ≤ z - 1 := by omega
  clear hka hEq hkb hrr hm hk
  go_upto_region 3 with fail
  clear d1 d2 h1 h2
  have hC : Hid (∀ W, Below W1.heap.size W1 W → W.cell? ⟨g, 0, none⟩ = some (.int .i64 z)) := fun W h => (X1.out.below h X1.out.lt).cell 0
  have b0 : Below W1.heap.size W1 W1.drew := (Below.refl _ _).drew
  refine wp_region_held_drew (S := fun w' => Below W1.heap.size W1 w' ∧ w'.cell? ⟨g, 0, none⟩ = some (.int .i64 z)) (by kernel_rfl) ⟨b0, hC.out _ b0⟩ (fun hHeld => ?_)
  refine' wpAnyH_take (i := 1) (v := ?v1) rfl (by kernel_rfl) (by kernel_rfl) (by kernel_rfl) (fun _ _ _ h => h) (Or.inl ⟨by rfl, ?hy1⟩) hHeld ?rest1
  case hy1 => intro w hSw; (try dsimp only at hSw); go_simp; all_goals with_reducible rfl
  try simp only [Act.put, List.setIfInBounds_toArray, List.set_cons_zero, List.set_cons_succ, List.getElem_toArray, List.getElem_cons_zero, List.getElem_cons_succ]
  refine' wpAnyH_take (i := 2) (v := ?v2) rfl (by kernel_rfl) (by kernel_rfl) (by kernel_rfl) (fun _ _ _ h => h) (Or.inl ⟨by rfl, ?hy2⟩) hHeld ?rest2
  case hy2 => intro w hSw; (try dsimp only at hSw); go_simp; all_goals with_reducible rfl
  try simp only [Act.put, List.setIfInBounds_toArray, List.set_cons_zero, List.set_cons_succ, List.getElem_toArray, List.getElem_cons_zero, List.getElem_cons_succ]
  refine' wpAnyH_take (i := 3) (v := ?v3) rfl (by kernel_rfl) (by kernel_rfl) (by kernel_rfl) (fun _ _ _ h => h) (Or.inl ⟨by rfl, ?hy3⟩) hHeld ?rest3
  case hy3 => intro w hSw; (try dsimp only at hSw); go_simp; all_goals with_reducible rfl
  try simp only [Act.put, List.setIfInBounds_toArray, List.set_cons_zero, List.set_cons_succ, List.getElem_toArray, List.getElem_cons_zero, List.getElem_cons_succ]
  clear hHeld x0
  refine act_is6 (P := fun A => wpAnyH _ _ _ _ _ _ _ A _) (fun a0 ha0 => ?_)
  have wk : IntKind.i64.wrap (k : Int) = (k : Int) := i64_in (by omega) (by omega)
  have e19 : a0.eval (.tmp 19) = .int .i64 (k : Int) := by rw [← ha0]; exact congrArg (Value.int .i64) wk
  have esz : a0.tmps.size = 76 := by rw [← ha0]; rfl
  refine Chains.enter (E := [[0, 4, 5], [6]]) #[false, true, true, true, false, false, false, false] (by kernel_rfl) (by kernel_rfl) (RInv W1 W1.heap.size a0 k r) 1 [0, 0] (by kernel_rfl) (by kernel_rfl) (by kernel_rfl) (by kernel_rfl) rfl ?hS ?hstep ?hI ?hend
  case hS => exact fun s a w h => ⟨h.bel, hC.out _ h.bel⟩
  case hI => exact ⟨b0, Chains.Agree.refl _ _, fun h => (by cases h), fun h => (by cases h), fun h => (by cases h), fun h => (by cases h)⟩
  case hstep =>
    intro s a' w' c i hs hI hn hrd
    obtain ⟨j1, j2, rfl, _, _⟩ := two_ rfl hs
    clear hs hrd
    obtain ⟨bel, agr, q1, q2, q3, q4⟩ := id hI
    rcases next_two hn with ⟨rfl, rfl, rfl⟩ | ⟨rfl, rfl, rfl⟩ | ⟨rfl, rfl, rfl⟩ | ⟨rfl, rfl, rfl⟩
    · refine wpOp_step rfl (fun K' hK => ?_)
      go_simp
      go_at_call 33
      refine (rtab_any w').mono ?_
      rintro e w2 ⟨rfl, ht2, hb2⟩
      refine hK _ _ ?_
      refine ⟨bel.trans (hb2.mono bel.size), agr.put rfl _, fun _ => ⟨w'.heap.size, Chains.eval_same agr (by rw [esz]; decide) _, bel.size, ht2⟩, fun h => (by cases h), fun h => (by cases h), fun h => ?_⟩
      obtain ⟨y, ey, hy, hB⟩ := q4 h
      exact ⟨y, (Chains.eval_other (a := a') (d := 16) (t := 3) rfl _).trans ey, hy, hB.below hb2 hB.lt⟩
    · obtain ⟨b, eb, hgb, hT⟩ := q1 rfl
      have t16 := tmp_of eb
      have t19 := tmp_of ((agr.eval (t := 19) rfl).trans e19)
      refine wpOp_step rfl (fun K' hK => ?_)
      go_simp
      refine hK _ _ ?_
      refine ⟨bel, agr.put rfl _, fun h => (by cases h), fun _ => ⟨b, Chains.eval_same agr (by rw [esz]; decide) _, hgb, hT⟩, fun h => (by cases h), fun h => ?_⟩
      obtain ⟨y, ey, hy, hB⟩ := q4 h
      exact ⟨y, (Chains.eval_other (a := a') (d := 20) (t := 3) rfl _).trans ey, hy, hB⟩
    · obtain ⟨b, eb, hgb, hT⟩ := q2 rfl
      obtain ⟨c0, c1, c2, c3⟩ := hT.row hkaH.out
      have t20 := tmp_of eb
      refine wpOp_step rfl (fun K' hK => ?_)
      go_simp
      refine hK _ _ ?_
      refine ⟨bel, agr.put rfl _, fun h => (by cases h), fun h => (by cases h), fun _ => Chains.eval_same agr (by rw [esz]; decide) _, fun h => ?_⟩
      obtain ⟨y, ey, hy, hB⟩ := q4 h
      exact ⟨y, (Chains.eval_other (a := a') (d := 21) (t := 3) rfl _).trans ey, hy, hB⟩
    · refine wpOp_step rfl (fun K' hK => ?_)
      go_simp
      refine hK _ _ ?_
      refine ⟨bel.alloc bel.size _, agr.put rfl _, fun h => ?_, fun h => ?_, fun h => ?_, fun _ => ⟨w'.heap.size, Chains.eval_same agr (by rw [esz]; decide) _, bel.size, Blk.new _ _ _⟩⟩
      · obtain ⟨b, eb, hgb, hT⟩ := q1 h
        exact ⟨b, (Chains.eval_other (a := a') (d := 3) (t := 16) rfl _).trans eb, hgb, ⟨hT.blk.alloc _⟩⟩
      · obtain ⟨b, eb, hgb, hT⟩ := q2 h
        exact ⟨b, (Chains.eval_other (a := a') (d := 3) (t := 20) rfl _).trans eb, hgb, ⟨hT.blk.alloc _⟩⟩
      · exact (Chains.eval_other (a := a') (d := 3) (t := 21) rfl _).trans (q3 h)
  case hend =>
    intro a' w' hI
    obtain ⟨bel, agr, q1, q2, q3, q4⟩ := hI
    obtain ⟨y, e3, hgy, hYB⟩ := q4 rfl
    have e21 := q3 rfl
    have hA := agr.out
    simp only [List.foldl_cons, List.foldl_nil, e3, e21] at hA
    generalize a'.eval (.tmp 16) = x16 at hA
    generalize a'.eval (.tmp 20) = x20 at hA
    rw [← ha0] at hA
    unfold rowV at hA
    simp only [Act.put, List.setIfInBounds_toArray, List.set_cons_zero, List.set_cons_succ] at hA
    clear q1 q2 q3 q4 agr e3 e21 e19 esz ha0 e1 k1 k2 hz1 wk
    subst hA
    have c0 := hYB.cell 0
    have c1 := hYB.cell 1
    have c2 := hYB.cell 2
    have c3 := hYB.cell 3
    have f0 := hYB.frozen 0
    have f1 := hYB.frozen 1
    have f2 := hYB.frozen 2
    have f3 := hYB.frozen 3
    refine wpAnyH_ready (rs := [7]) (by kernel_rfl) (by simp) ?_
    refine AllReadyH.cons rfl (fun K hK => ?_) AllReadyH.nil
    go_simp
    refine world_is (P := fun W => K _ W) (fun W2 hW2 => ?_)
    have bel2 : Below W1.heap.size W1 W2 := by rw [← hW2]; exact (((bel.setCell (p := ⟨y, 0, none⟩) hgy _).setCell (p := ⟨y, 1, none⟩) hgy _).setCell (p := ⟨y, 2, none⟩) hgy _).setCell (p := ⟨y, 3, none⟩) hgy _
    have Y2 : Hid (Blk W2 y 64 #[.string r.name, .int .i64 (r.least : Int), .int .i64 (r.most : Int), .bool r.text]) := by unfold Hid; rw [← hW2]; exact (((hYB.set_ 0 _).set_ 1 _).set_ 2 _).set_ 3 _
    refine hK.out _ _ ⟨bel2, hC.out _ bel2⟩ (fun hHeld2 => ?_)
    clear hHeld2 hK K hW2 c0 c1 c2 c3 f0 f1 f2 f3 hYB bel
    try simp only [Act.put, List.setIfInBounds_toArray, List.set_cons_zero, List.set_cons_succ, List.getElem_toArray, List.getElem_cons_zero, List.getElem_cons_succ]
    refine wpAnyH_done (by kernel_rfl) ?_ _
    have B2 := Lib.hid (B1.out.trans (bel2.mono B1.out.size))
    have X2 := Lib.hid (X1.out.below bel2 X1.out.lt)
    clear bel2 hC b0 X1
    obtain ⟨le, hle⟩ : ∃ k, r.least = k := ⟨_, rfl⟩
    obtain ⟨mo, hmo⟩ : ∃ k, r.most = k := ⟨_, rfl⟩
    obtain ⟨tb, htb⟩ : ∃ k, r.text = k := ⟨_, rfl⟩
    have hmo18 : mo ≤ 18 := by have := hmH.out.1; omega
    rw [hle, hmo, htb] at Y2 hEqH
    try rw [hle]
    try rw [hmo]
    try rw [htb]
    clear hle hmo htb hmH hkaH
    have x1 := X2.out.cell 1
    have x2 := X2.out.cell 2
    have y1 := Y2.out.cell 1
    have y2 := Y2.out.cell 2
    have y3 := Y2.out.cell 3
    by_cases g1 : n < le
    case pos =>
      have d1 : decide (n < le) = true := decide_eq_true g1
      have d2 : decide ((n : Int) < (le : Int)) = true := decide_eq_true (by omega)
      have hRes : Hid (stepOk x = false) := by unfold Hid; rw [hEqH.out, decide_eq_false (by omega)]; rfl
      clear g1 hmo18
      go_wp2_with fail
      go_ret
      exact ⟨by rw [hRes.out]; rfl, B2.out⟩
    case neg =>
    have d1 : decide (n < le) = false := decide_eq_false g1
    have d2 : decide ((n : Int) < (le : Int)) = false := decide_eq_false (by omega)
    by_cases g2 : mo < n
    case pos =>
      have d3 : decide (mo < n) = true := decide_eq_true g2
      have d4 : decide ((mo : Int) < (n : Int)) = true := decide_eq_true (by omega)
      have hRes : Hid (stepOk x = false) := by unfold Hid; rw [hEqH.out, decide_eq_false (show ¬ n ≤ mo by omega), Bool.false_and, Bool.and_false]
      clear g1 g2 hmo18
      go_wp2_with fail
      go_ret
      exact ⟨by rw [hRes.out]; rfl, B2.out⟩
    case neg =>
    have d3 : decide (mo < n) = false := decide_eq_false g2
    have d4 : decide ((mo : Int) < (n : Int)) = false := decide_eq_false (by omega)
    have hEq2 : Hid (stepOk x = ((tb || decide (tx.size = 0)) && (x.args.all argOk && decide ((dataR tx).err = 0)))) := by unfold Hid; rw [hEqH.out, decide_eq_true (show le ≤ n by omega), decide_eq_true (show n ≤ mo by omega)]; rfl
    have hn18 : n ≤ 18 := by omega
    have hsz := size0_iff tx
    obtain ⟨tz, htz⟩ : ∃ b, decide (tx.size = 0) = b := ⟨_, rfl⟩
    rw [htz] at hsz hEq2
    clear g1 g2 hmo18 hEqH htz
    by_cases g3 : tz = false ∧ tb = false
    case pos =>
      obtain ⟨rfl, rfl⟩ := g3
      have hRes : Hid (stepOk x = false) := by unfold Hid; rw [hEq2.out]; rfl
      go_wp2_with fail
      go_ret
      exact ⟨by rw [hRes.out]; rfl, B2.out⟩
    case neg =>
    have hEq3 : Hid (stepOk x = (x.args.all argOk && decide ((dataR tx).err = 0))) := by
      unfold Hid
      rw [hEq2.out]
      cases tz <;> cases tb <;> first | rfl | exact absurd ⟨rfl, rfl⟩ g3
    have hTT : Hid (tz = true ∨ (tz = false ∧ tb = true)) := by
      unfold Hid
      cases tz <;> cases tb <;> simp_all
    clear g3 hEq2
    have HRW : Hid (RowAt W2 B (.slice A n c) n (intsC x.args)) := by unfold Hid; have h := HR.out.below (B2.out.mono hBH.out); rw [hnH.out] at h; exact h
    have HD := Lib.hid (fun W => rData_any tx W HT.out)
    obtain ⟨D, hD⟩ : ∃ D, dataR tx = D := ⟨_, rfl⟩
    rw [hD] at HD hEq3
    clear hD
    rcases hTT.out with rfl | ⟨rfl, rfl⟩
    · go_wp2_with fail
      go_loopw [4] (fun v4 wr => ∃ i : Nat, v4 = .int .i64 (i : Int) ∧ Hid (i ≤ n) ∧ Hid ((x.args.take i).all argOk = true) ∧ wr = W2) (fun v4 _ => n - (intOf v4).toNat)
      case atStart => exact ⟨0, rfl, Nat.zero_le _, rfl, rfl⟩
      case round =>
        obtain ⟨i, rfl, hi, hA, rfl⟩ := hrel
        by_cases hlt : i < n
        · have m1 : decide (i < n) = true := decide_eq_true hlt
          have m2 : decide ((i : Int) < (n : Int)) = true := decide_eq_true (by omega)
          have m3 : (0 : Int) ≤ (i : Int) := by omega
          have m4 : (i : Int) < (n : Int) := by omega
          obtain ⟨a, ha⟩ : ∃ a, x.args[i]? = some a := ⟨_, List.getElem?_eq_getElem (by rw [hnH.out]; exact hlt)⟩
          obtain ⟨A', c', ev, hrow⟩ := HRW.out
          obtain ⟨b, o, eA, _, hcell⟩ := hrow (by omega)
          cases ev
          subst eA
          have ca := hcell i (.int .i64 a) (by unfold intsC; rw [List.getElem?_map, ha]; rfl)
          have hltH := Lib.hid hlt
          have hstep : (x.args.take (i + 1)).all argOk = ((x.args.take i).all argOk && argOk a) := by rw [take_m4 ha, List.all_append]; simp
          rw [hA.out, Bool.true_and] at hstep
          have hstepH := Lib.hid hstep
          have haH := Lib.hid ha
          clear ha hrow hcell hlt hstep
          by_cases n1 : a < 0
          · have p1 : decide (a < 0) = true := decide_eq_true n1
            have hRes : Hid (stepOk x = false) := by
              unfold Hid
              rw [hEq3.out, show x.args.all argOk = false from all_false haH.out (by unfold argOk; rw [decide_eq_false (by omega)]; rfl)]
              rfl
            clear n1
            go_wp2_with fail
            go_ret
            exact ⟨by rw [hRes.out]; rfl, B2.out⟩
          · have p1 : decide (a < 0) = false := decide_eq_false n1
            by_cases n2 : 2199023255552 < a
            · have p2 : decide (2199023255552 < a) = true := decide_eq_true n2
              have hRes : Hid (stepOk x = false) := by
                unfold Hid
                rw [hEq3.out, show x.args.all argOk = false from all_false haH.out (by unfold argOk; rw [decide_eq_false (show ¬ a ≤ 2199023255552 by omega), Bool.and_false])]
                rfl
              clear n1 n2
              go_wp2_with fail
              go_ret
              exact ⟨by rw [hRes.out]; rfl, B2.out⟩
            · have p2 : decide (2199023255552 < a) = false := decide_eq_false n2
              have hnew : Hid ((x.args.take (i + 1)).all argOk = true) := by unfold Hid; rw [hstepH.out]; unfold argOk; rw [decide_eq_true (by omega), decide_eq_true (by omega)]; rfl
              clear n1 n2
              go_wp2_with fail
              go_roundw
              case rel => exact ⟨i + 1, by go_num, hltH.out, hnew.out, by first | rfl | trivial⟩
              case measure => have := hltH.out; simp [intOf]; omega
        · have m1 : decide (i < n) = false := decide_eq_false hlt
          have m2 : decide ((i : Int) < (n : Int)) = false := decide_eq_false (by omega)
          have hRes : Hid (stepOk x = decide (D.err = 0)) := by
            unfold Hid
            have hi2 := hi.out
            have ht := hA.out
            rw [List.take_of_length_le (by rw [hnH.out]; omega)] at ht
            rw [hEq3.out, ht]
            rfl
          obtain ⟨E, hE⟩ : ∃ E, D.err = E := ⟨_, rfl⟩
          have HD2 := HD.out wr
          rw [hE] at HD2 hRes
          have HDH := Lib.hid HD2
          have hEb : Hid ((E == 0) = decide (E = 0)) := by unfold Hid; rw [Bool.eq_iff_iff, beq_iff_eq, decide_eq_true_iff]
          clear HD2 hE hlt
          go_wp2_with fail
          refine HDH.out.mono ?_
          rintro e w3 ⟨rfl, rfl⟩
          go_wp2_with fail
          go_ret
          exact ⟨by rw [hRes.out, ← hEb.out]; rfl, B2.out⟩
    · go_wp2_with fail
      go_loopw [4] (fun v4 wr => ∃ i : Nat, v4 = .int .i64 (i : Int) ∧ Hid (i ≤ n) ∧ Hid ((x.args.take i).all argOk = true) ∧ wr = W2) (fun v4 _ => n - (intOf v4).toNat)
      case atStart => exact ⟨0, rfl, Nat.zero_le _, rfl, rfl⟩
      case round =>
        obtain ⟨i, rfl, hi, hA, rfl⟩ := hrel
        by_cases hlt : i < n
        · have m1 : decide (i < n) = true := decide_eq_true hlt
          have m2 : decide ((i : Int) < (n : Int)) = true := decide_eq_true (by omega)
          have m3 : (0 : Int) ≤ (i : Int) := by omega
          have m4 : (i : Int) < (n : Int) := by omega
          obtain ⟨a, ha⟩ : ∃ a, x.args[i]? = some a := ⟨_, List.getElem?_eq_getElem (by rw [hnH.out]; exact hlt)⟩
          obtain ⟨A', c', ev, hrow⟩ := HRW.out
          obtain ⟨b, o, eA, _, hcell⟩ := hrow (by omega)
          cases ev
          subst eA
          have ca := hcell i (.int .i64 a) (by unfold intsC; rw [List.getElem?_map, ha]; rfl)
          have hltH := Lib.hid hlt
          have hstep : (x.args.take (i + 1)).all argOk = ((x.args.take i).all argOk && argOk a) := by rw [take_m4 ha, List.all_append]; simp
          rw [hA.out, Bool.true_and] at hstep
          have hstepH := Lib.hid hstep
          have haH := Lib.hid ha
          clear ha hrow hcell hlt hstep
          by_cases n1 : a < 0
          · have p1 : decide (a < 0) = true := decide_eq_true n1
            have hRes : Hid (stepOk x = false) := by
              unfold Hid
              rw [hEq3.out, show x.args.all argOk = false from all_false haH.out (by unfold argOk; rw [decide_eq_false (by omega)]; rfl)]
              rfl
            clear n1
            go_wp2_with fail
            go_ret
            exact ⟨by rw [hRes.out]; rfl, B2.out⟩
          · have p1 : decide (a < 0) = false := decide_eq_false n1
            by_cases n2 : 2199023255552 < a
            · have p2 : decide (2199023255552 < a) = true := decide_eq_true n2
              have hRes : Hid (stepOk x = false) := by
                unfold Hid
                rw [hEq3.out, show x.args.all argOk = false from all_false haH.out (by unfold argOk; rw [decide_eq_false (show ¬ a ≤ 2199023255552 by omega), Bool.and_false])]
                rfl
              clear n1 n2
              go_wp2_with fail
              go_ret
              exact ⟨by rw [hRes.out]; rfl, B2.out⟩
            · have p2 : decide (2199023255552 < a) = false := decide_eq_false n2
              have hnew : Hid ((x.args.take (i + 1)).all argOk = true) := by unfold Hid; rw [hstepH.out]; unfold argOk; rw [decide_eq_true (by omega), decide_eq_true (by omega)]; rfl
              clear n1 n2
              go_wp2_with fail
              go_roundw
              case rel => exact ⟨i + 1, by go_num, hltH.out, hnew.out, by first | rfl | trivial⟩
              case measure => have := hltH.out; simp [intOf]; omega
        · have m1 : decide (i < n) = false := decide_eq_false hlt
          have m2 : decide ((i : Int) < (n : Int)) = false := decide_eq_false (by omega)
          have hRes : Hid (stepOk x = decide (D.err = 0)) := by
            unfold Hid
            have hi2 := hi.out
            have ht := hA.out
            rw [List.take_of_length_le (by rw [hnH.out]; omega)] at ht
            rw [hEq3.out, ht]
            rfl
          obtain ⟨E, hE⟩ : ∃ E, D.err = E := ⟨_, rfl⟩
          have HD2 := HD.out wr
          rw [hE] at HD2 hRes
          have HDH := Lib.hid HD2
          have hEb : Hid ((E == 0) = decide (E = 0)) := by unfold Hid; rw [Bool.eq_iff_iff, beq_iff_eq, decide_eq_true_iff]
          clear HD2 hE hlt
          go_wp2_with fail
          refine HDH.out.mono ?_
          rintro e w3 ⟨rfl, rfl⟩
          go_wp2_with fail
          go_ret
          exact ⟨by rw [hRes.out, ← hEb.out]; rfl, B2.out⟩
end Go.Proofs.YtldkfhimpkiigaaGreatDoor
