/-
  Layer 46 (script): the law Joins.
-/
import Derived.Test.YtldkfhimpkiigaaGreatDoorScrL1
import Derived.Test.YtldkfhimpkiigaaGreatDoorCatRow
namespace Go.Proofs.YtldkfhimpkiigaaGreatDoor
open Go.RowKit ScrP
attribute [local go_sem] Oper.semAt_some

def joinS (a b : Scr) : Scr := ⟨a.texts ++ b.texts, a.steps ++ b.steps⟩
theorem check_two {a b : Scr} (ha : ChkOk a) (hb : ChkOk b) : checkS (joinS a b) = if 8 < a.texts.length + b.texts.length ∨ 400 < a.steps.length + b.steps.length then (-1, 2) else (0, 0) := by
  have h1 : ((joinS a b).texts.any fun t => decide (4000 < t.size)) = false := by
    rw [List.any_eq_false]
    intro t ht
    have : t.size ≤ 4000 := (List.mem_append.1 ht).elim (ha.txt t) (hb.txt t)
    simpa using this
  have h2 : (joinS a b).texts.any oddT = false := by
    rw [List.any_eq_false]
    intro t ht
    rw [(List.mem_append.1 ht).elim (ha.odd t) (hb.odd t)]
    exact Bool.false_ne_true
  have h3 : (joinS a b).steps.findIdx (fun x => !stepOk x) = (joinS a b).steps.length := by
    rw [List.findIdx_eq_length]
    intro x hx
    rw [(List.mem_append.1 hx).elim (ha.stp x) (hb.stp x)]
    rfl
  unfold checkS
  rw [h1, h2, h3, show (joinS a b).texts.length = a.texts.length + b.texts.length from List.length_append, show (joinS a b).steps.length = a.steps.length + b.steps.length from List.length_append]
  by_cases h : 8 < a.texts.length + b.texts.length ∨ 400 < a.steps.length + b.steps.length
  · rw [if_pos h, if_pos (h.elim .inl fun h => .inr (.inl h))]
  · rw [if_neg h, if_neg (fun h0 => h (h0.elim .inl fun h1 => h1.elim .inr fun h2 => by cases h2)), if_neg Bool.false_ne_true, if_neg (Nat.lt_irrefl _)]
theorem joinS_in {a b : Scr} (ha : ScrIn a) (hb : ScrIn b) (h1 : a.texts.length + b.texts.length ≤ 16) (h2 : a.steps.length + b.steps.length ≤ 800) : ScrIn (joinS a b) :=
  ⟨by show (a.texts ++ b.texts).length ≤ _; rw [List.length_append]; omega, by show (a.steps ++ b.steps).length ≤ _; rw [List.length_append]; omega, fun t ht => (List.mem_append.1 ht).elim (ha.txt t) (hb.txt t), fun x hx => (List.mem_append.1 hx).elim (ha.stp x) (hb.stp x)⟩
theorem strsC_len (l : List ByteArray) : (strsC l).length = l.length := List.length_map ..
theorem stepsC_len : ∀ (xs : List Stp) (vs : List Value), vs.length = xs.length → (stepsC xs vs).length = xs.length * 3
  | [], _, _ => rfl
  | _ :: _, [], h => by cases h
  | a :: xs, u :: vs, h => by
    have e : stepsC (a :: xs) (u :: vs) = [.int .i64 a.kind, u, .string a.text] ++ stepsC xs vs := rfl
    have h2 := stepsC_len xs vs (Nat.succ.inj h)
    rw [e, List.length_append, h2]
    simp only [List.length_cons, List.length_nil]
    omega
theorem stepsC_app (xs ys : List Stp) (vs us : List Value) (h : vs.length = xs.length) : stepsC xs vs ++ stepsC ys us = stepsC (xs ++ ys) (vs ++ us) := by
  unfold stepsC
  rw [List.zip_append h.symm, List.flatMap_append]
theorem strsC_one (l : List ByteArray) : ∀ u ∈ strsC l, u.oneCell' = true := fun u hu => by
  obtain ⟨t, _, rfl⟩ := List.mem_map.1 hu
  rfl
/-- The steps of both, their arguments where they lie. -/
theorem steps_join {w : World} {B : Nat} {xa xb : List Stp} {va vb : List Value} {v : Value} (la : va.length = xa.length) (lb : vb.length = xb.length)
    (ha : ∀ (i : Nat) (x : Stp) (u : Value), xa[i]? = some x → va[i]? = some u → RowAt w B u x.args.length (intsC x.args))
    (hb : ∀ (i : Nat) (x : Stp) (u : Value), xb[i]? = some x → vb[i]? = some u → RowAt w B u x.args.length (intsC x.args))
    (hr : RowAt w B v (xa.length + xb.length) (stepsC xa va ++ stepsC xb vb)) : StepsAt w B v (xa ++ xb) := by
  refine ⟨va ++ vb, by rw [List.length_append, List.length_append, la, lb], by rw [List.length_append, ← stepsC_app _ _ _ _ la]; exact hr, fun i x u hx hu => ?_⟩
  by_cases hi : i < xa.length
  · rw [List.getElem?_append_left hi] at hx
    rw [List.getElem?_append_left (by omega)] at hu
    exact ha i x u hx hu
  · rw [List.getElem?_append_right (by omega)] at hx hu
    rw [la] at hu
    exact hb _ x u hx hu
theorem args_one {w : World} {B : Nat} : ∀ {xs : List Stp} {vs : List Value}, vs.length = xs.length → (∀ (i : Nat) (x : Stp) (u : Value), xs[i]? = some x → vs[i]? = some u → RowAt w B u x.args.length (intsC x.args)) → ∀ u ∈ stepsC xs vs, u.oneCell' = true
  | [], _, _, _, u, hu => by cases hu
  | _ :: _, [], h, _, _, _ => by cases h
  | a :: xs, v :: vs, h, ha, u, hu => by
    have e : stepsC (a :: xs) (v :: vs) = [.int .i64 a.kind, v, .string a.text] ++ stepsC xs vs := rfl
    rw [e] at hu
    rcases List.mem_append.1 hu with hu | hu
    · obtain ⟨A, c, rfl, _⟩ := ha 0 a v rfl rfl
      simp only [List.mem_cons, List.not_mem_nil, or_false] at hu
      rcases hu with rfl | rfl | rfl <;> rfl
    · exact args_one (Nat.succ.inj h) (fun i x u hx hu => ha (i + 1) x u hx hu) u hu
/-- How far the two chains of appends, and the box, have come. -/
structure JInv (W : World) (g : Nat) (a0 : Act) (T1 T2 : Nat) (c1 c2 : List Value) (N1 N2 : Nat) (e1 e2 : List Value) (s : List Nat) (a : Act) (w : World) : Prop where
  bel : Below g W w
  agr : Chains.Agree [86, 89, 92, 93, 96, 99, 100, 12] a0 a
  p1 : Stage a w g 9 1 [(86, 0, []), (89, T1, c1), (92, T1 + T2, c1 ++ c2)] (s.getD 0 0)
  p2 : Stage a w g 53 3 [(93, 0, []), (96, N1, e1), (99, N1 + N2, e1 ++ e2)] (min (s.getD 1 0) 3)
  p4 : s.getD 1 0 = 4 → a.eval (.tmp 100) = .agg #[a.eval (.tmp 92), a.eval (.tmp 99)]
  p5 : s.getD 1 0 = 4 → s.getD 0 0 = 3
  p3 : s.getD 2 0 = 0 ∨ ∃ b, a.eval (.tmp 12) = .pointer (some ⟨b, 0, none⟩) ∧ g ≤ b ∧ Blk w b 25 #[.slice none 0 0, .slice none 0 0]
section
variable {W w w' : World} {g T1 T2 N1 N2 k1 k2 k3 : Nat} {a0 a : Act} {c1 c2 e1 e2 : List Value}
theorem JInv.first (h : JInv W g a0 T1 T2 c1 c2 N1 N2 e1 e2 [k1, k2, k3] a w) (hsz : a0.tmps.size = 111) (hk : k1 < 3) {d n : Nat} {xs : List Value} {v : Value}
    (hx : ([(86, 0, []), (89, T1, c1), (92, T1 + T2, c1 ++ c2)] : List (Nat × Nat × List Value))[k1]? = some (d, n, xs)) (hd : d = 86 ∨ d = 89 ∨ d = 92)
    (hrow : w'.ownsRow g 9 1 v n xs) (hbel : Below g W w') (ho : ∀ v n xs, w.ownsRow g 53 3 v n xs → w'.ownsRow g 53 3 v n xs) (hb : ∀ b cs, g ≤ b → Blk w b 25 cs → Blk w' b 25 cs) :
    JInv W g a0 T1 T2 c1 c2 N1 N2 e1 e2 [k1 + 1, k2, k3] (a.put (some d) v) w' := by
  have hdl : d < 111 := by omega
  refine ⟨hbel, h.agr.put (by rcases hd with rfl | rfl | rfl <;> rfl) v, .inr ⟨(d, n, xs), hx, ?_⟩, h.p2.other (by rcases hd with rfl | rfl | rfl <;> rfl) ho, fun h4 => ?_, fun h4 => ?_, ?_⟩
  · rw [Chains.eval_same h.agr (by rw [hsz]; exact hdl)]; exact hrow
  · have : k1 = 3 := h.p5 h4
    omega
  · have : k1 = 3 := h.p5 h4
    omega
  · rcases h.p3 with h3 | ⟨b, e, hgb, hB⟩
    · exact .inl h3
    · exact .inr ⟨b, by rw [Chains.eval_other (by rcases hd with rfl | rfl | rfl <;> rfl)]; exact e, hgb, hb b _ hgb hB⟩
theorem JInv.second (h : JInv W g a0 T1 T2 c1 c2 N1 N2 e1 e2 [k1, k2, k3] a w) (hsz : a0.tmps.size = 111) (hk : k2 < 3) {d n : Nat} {xs : List Value} {v : Value}
    (hx : ([(93, 0, []), (96, N1, e1), (99, N1 + N2, e1 ++ e2)] : List (Nat × Nat × List Value))[k2]? = some (d, n, xs)) (hd : d = 93 ∨ d = 96 ∨ d = 99)
    (hrow : w'.ownsRow g 53 3 v n xs) (hbel : Below g W w') (ho : ∀ v n xs, w.ownsRow g 9 1 v n xs → w'.ownsRow g 9 1 v n xs) (hb : ∀ b cs, g ≤ b → Blk w b 25 cs → Blk w' b 25 cs) :
    JInv W g a0 T1 T2 c1 c2 N1 N2 e1 e2 [k1, k2 + 1, k3] (a.put (some d) v) w' := by
  have hdl : d < 111 := by omega
  refine ⟨hbel, h.agr.put (by rcases hd with rfl | rfl | rfl <;> rfl) v, h.p1.other (by rcases hd with rfl | rfl | rfl <;> rfl) ho, ?_, fun h4 => ?_, fun h4 => ?_, ?_⟩
  · show Stage _ _ _ _ _ _ (min (k2 + 1) 3)
    rw [Nat.min_eq_left (by omega)]
    refine .inr ⟨(d, n, xs), hx, ?_⟩
    rw [Chains.eval_same h.agr (by rw [hsz]; exact hdl)]; exact hrow
  · have : k2 + 1 = 4 := h4
    omega
  · have : k2 + 1 = 4 := h4
    omega
  · rcases h.p3 with h3 | ⟨b, e, hgb, hB⟩
    · exact .inl h3
    · exact .inr ⟨b, by rw [Chains.eval_other (by rcases hd with rfl | rfl | rfl <;> rfl)]; exact e, hgb, hb b _ hgb hB⟩
theorem JInv.built (h : JInv W g a0 T1 T2 c1 c2 N1 N2 e1 e2 [3, 3, k3] a w) (hsz : a0.tmps.size = 111) {u v : Value} (hu : a.eval (.tmp 92) = u) (hv : a.eval (.tmp 99) = v) :
    JInv W g a0 T1 T2 c1 c2 N1 N2 e1 e2 [3, 3 + 1, k3] (a.put (some 100) (.agg #[u, v])) w := by
  refine ⟨h.bel, h.agr.put rfl _, h.p1.other rfl (fun _ _ _ h => h), h.p2.other rfl (fun _ _ _ h => h), fun _ => ?_, fun _ => rfl, ?_⟩
  · rw [Chains.eval_same h.agr (by rw [hsz]; decide), Chains.eval_other rfl, Chains.eval_other rfl, hu, hv]
  · rcases h.p3 with h3 | ⟨b, e, hgb, hB⟩
    · exact .inl h3
    · exact .inr ⟨b, by rw [Chains.eval_other rfl]; exact e, hgb, hB⟩
theorem JInv.boxed (h : JInv W g a0 T1 T2 c1 c2 N1 N2 e1 e2 [k1, k2, 0] a w) (hsz : a0.tmps.size = 111) (hg : g ≤ w.heap.size) :
    JInv W g a0 T1 T2 c1 c2 N1 N2 e1 e2 [k1, k2, 0 + 1] (a.put (some 12) (.pointer (some ⟨w.heap.size, 0, none⟩))) (w.alloc (.cells #[.slice none 0 0, .slice none 0 0] 25)) := by
  refine ⟨h.bel.alloc hg _, h.agr.put rfl _, h.p1.other rfl (fun _ _ _ h => h.alloc _), h.p2.other rfl (fun _ _ _ h => h.alloc _), fun h4 => ?_, h.p5, .inr ⟨w.heap.size, Chains.eval_same h.agr (by rw [hsz]; decide) _, hg, Blk.new _ _ _⟩⟩
  rw [Chains.eval_other rfl, Chains.eval_other rfl, Chains.eval_other rfl]
  exact h.p4 h4
end
theorem row_form {w : World} {B n : Nat} {v : Value} {cs : List Value} (h : RowAt w B v n cs) : ∃ A c, v = .slice A n c := ⟨h.choose, h.choose_spec.choose, h.choose_spec.choose_spec.1⟩
theorem steps_form {w : World} {B : Nat} {v : Value} {xs : List Stp} (h : StepsAt w B v xs) : ∃ A c, v = .slice A xs.length c := row_form h.choose_spec.2.1
theorem act_is {P : Act → Prop} {X : Act} (h : ∀ A, X = A → P A) : P X := h X rfl
theorem grown_size {g : Nat} {w w' : World} (h : Below g w w') (hg : g = w.heap.size) : g ≤ w'.heap.size := by rw [hg]; exact h.size
theorem next_cases {k1 k2 k3 c i : Nat} (h : Chains.next [[0, 3, 6], [7, 10, 13, 14], [15]] [k1, k2, k3] c = some i) :
    (c = 0 ∧ k1 = 0 ∧ i = 0) ∨ (c = 0 ∧ k1 = 1 ∧ i = 3) ∨ (c = 0 ∧ k1 = 2 ∧ i = 6) ∨ (c = 1 ∧ k2 = 0 ∧ i = 7) ∨ (c = 1 ∧ k2 = 1 ∧ i = 10) ∨ (c = 1 ∧ k2 = 2 ∧ i = 13) ∨ (c = 1 ∧ k2 = 3 ∧ i = 14) ∨ (c = 2 ∧ k3 = 0 ∧ i = 15) := by
  unfold Chains.next at h
  rcases c with _ | _ | _ | c
  · rcases k1 with _ | _ | _ | k1 <;> simp at h <;> simp [h]
  · rcases k2 with _ | _ | _ | _ | k2 <;> simp at h <;> simp [h]
  · rcases k3 with _ | k3 <;> simp at h <;> simp [h]
  · simp at h
set_option maxRecDepth 100000 in
set_option maxHeartbeats 12800000 in
theorem joins_any (a b : Scr) (va vb : Value) (B : Nat) (w : World) (ha : ScrAt w B va a) (hb : ScrAt w B vb b) (hB : B ≤ w.heap.size) (hia : ScrIn a) (hib : ScrIn b) (hK : KTab w) (hL : LibAt w)
    (hSan : ∀ W, Below w.heap.size w W → Calls Tryz.prog 10 #[] W fun e w' => e = .returned (.bool true) ∧ Below W.heap.size W w') :
    Calls Tryz.prog 6 #[va, vb] w fun e w' => e = .returned (.bool true) ∧ Below w.heap.size w w' := by
  have hallA := Lib.hid ha
  have hallB := Lib.hid hb
  obtain ⟨vta, vsa, rfl, hta, hsa⟩ := ha
  obtain ⟨vtb, vsb, rfl, htb, hsb⟩ := hb
  obtain ⟨Ata, cta, rfl⟩ := row_form hta
  obtain ⟨Asa, csa, rfl⟩ := steps_form hsa
  obtain ⟨Atb, ctb, rfl⟩ := row_form htb
  obtain ⟨Asb, csb, rfl⟩ := steps_form hsb
  have HIA := Lib.hid hia
  have HIB := Lib.hid hib
  have HS := Lib.hid hSan
  have hBH := Lib.hid hB
  have HTA := Lib.hid hta
  have HTB := Lib.hid htb
  have HSA := Lib.hid hsa
  have HSB := Lib.hid hsb
  obtain ⟨T1, hT1⟩ : ∃ n, a.texts.length = n := ⟨_, rfl⟩
  obtain ⟨N1, hN1⟩ : ∃ n, a.steps.length = n := ⟨_, rfl⟩
  obtain ⟨T2, hT2⟩ : ∃ n, b.texts.length = n := ⟨_, rfl⟩
  obtain ⟨N2, hN2⟩ : ∃ n, b.steps.length = n := ⟨_, rfl⟩
  rw [hT1, hN1] at hallA
  rw [hT2, hN2] at hallB
  rw [hT1] at HTA
  rw [hN1] at HSA
  rw [hT2] at HTB
  rw [hN2] at HSB
  have hT1H := Lib.hid hT1
  have hN1H := Lib.hid hN1
  have hT2H := Lib.hid hT2
  have hN2H := Lib.hid hN2
  rw [hT1, hN1, hT2, hN2]
  have HFA := Lib.hid (fun W (hb : Below w.heap.size w W) => few_any a _ B W (hallA.out.below (hb.mono hB)) (Nat.le_trans hB hb.size) hia)
  have HFB := Lib.hid (fun W (hb : Below w.heap.size w W) => few_any b _ B W (hallB.out.below (hb.mono hB)) (Nat.le_trans hB hb.size) hib)
  have HPA := Lib.hid (fun W (hb : Below w.heap.size w W) => Print_any a _ B W (hallA.out.below (hb.mono hB)) (Nat.le_trans hB hb.size) hia (hK.below hb) (hL.below hb))
  have HPB := Lib.hid (fun W (hb : Below w.heap.size w W) => Print_any b _ B W (hallB.out.below (hb.mono hB)) (Nat.le_trans hB hb.size) hib (hK.below hb) (hL.below hb))
  have HPa := Lib.hid (fun W (hb : Below w.heap.size w W) t (hz : t.size ≤ 100000000) r (hr : parseS t.data.toList = r) => parse_at t W hz (hK.below hb) (hL.below hb) r hr)
  clear hta htb hsa hsb hia hib hK hL hB hT1 hT2 hN1 hN2 hSan
  go_enter Tryz.func6, Tryz.ntmps6
  go_upto_region 1 with fail
  refine world_is (P := fun W => Code.wp _ _ _ _ W) (fun W0 hW0 => ?_)
  have B0 : Hid (Below w.heap.size w W0) := by unfold Hid; rw [← hW0]; exact ((Below.refl _ _).alloc (Nat.le_refl _) _).alloc (by rw [World.size_alloc]; omega) _
  have X0 : Hid (Blk W0 w.heap.size 25 #[.slice Ata T1 cta, .slice Asa N1 csa]) := by unfold Hid; rw [← hW0]; exact (Blk.new _ _ _).alloc _
  have Y0 : Hid (Blk W0 (w.heap.size + 1) 25 #[.slice Atb T2 ctb, .slice Asb N2 csb]) := by
    unfold Hid
    rw [← hW0]
    have h := Blk.new (w.alloc (.cells #[.slice Ata T1 cta, .slice Asa N1 csa] 25)) 25 #[.slice Atb T2 ctb, .slice Asb N2 csb]
    rw [World.size_alloc] at h
    exact h
  obtain ⟨g, hg⟩ : ∃ g, w.heap.size = g := ⟨_, rfl⟩
  rw [hg] at X0 Y0
  try rw [hg]
  obtain ⟨g2, hg2⟩ : ∃ g2, g + 1 = g2 := ⟨_, rfl⟩
  rw [hg2] at Y0
  try rw [hg2]
  clear hW0 hg hg2
  have x0 := X0.out.cell 0
  have x1 := X0.out.cell 1
  have y0 := Y0.out.cell 0
  have y1 := Y0.out.cell 1
  go_wp2_with fail
  refine (HFA.out W0 B0.out).mono ?_
  rintro e w1 ⟨fa, rfl, hb⟩
  have B1 := Lib.hid (B0.out.trans (hb.mono B0.out.size))
  have X1 := Lib.hid (X0.out.below hb X0.out.lt)
  have Y1 := Lib.hid (Y0.out.below hb Y0.out.lt)
  clear hb x0 x1 y0 y1 B0 X0 Y0 HFA
  cases fa
  case false =>
    go_wp2_with fail
    refine (HS.out w1 B1.out).mono ?_
    rintro e w2 ⟨rfl, hb⟩
    have B2 := Lib.hid (B1.out.trans (hb.mono B1.out.size))
    clear hb
    go_wp2_with fail
    go_ret
    exact ⟨rfl, B2.out⟩
  case true =>
  have x0 := X1.out.cell 0
  have x1 := X1.out.cell 1
  have y0 := Y1.out.cell 0
  have y1 := Y1.out.cell 1
  go_wp2_with fail
  refine (HFB.out w1 B1.out).mono ?_
  rintro e w2 ⟨fb, rfl, hb⟩
  have B2 := Lib.hid (B1.out.trans (hb.mono B1.out.size))
  have X2 := Lib.hid (X1.out.below hb X1.out.lt)
  have Y2 := Lib.hid (Y1.out.below hb Y1.out.lt)
  clear hb x0 x1 y0 y1 B1 X1 Y1 HFB
  cases fb
  case false =>
    go_wp2_with fail
    refine (HS.out w2 B2.out).mono ?_
    rintro e w3 ⟨rfl, hb⟩
    have B3 := Lib.hid (B2.out.trans (hb.mono B2.out.size))
    clear hb
    go_wp2_with fail
    go_ret
    exact ⟨rfl, B3.out⟩
  case true =>
  have x0 := X2.out.cell 0
  have x1 := X2.out.cell 1
  have y0 := Y2.out.cell 0
  have y1 := Y2.out.cell 1
  go_wp2_with fail
  refine (HPA.out w2 B2.out).mono ?_
  rintro e w3 ⟨hb, ta, rfl, hta⟩
  have B3 := Lib.hid (B2.out.trans (hb.mono B2.out.size))
  have X3 := Lib.hid (X2.out.below hb X2.out.lt)
  have Y3 := Lib.hid (Y2.out.below hb Y2.out.lt)
  have htaH := Lib.hid hta
  clear hb hta x0 x1 y0 y1 B2 X2 Y2 HPA
  have x0 := X3.out.cell 0
  have x1 := X3.out.cell 1
  have y0 := Y3.out.cell 0
  have y1 := Y3.out.cell 1
  obtain ⟨EA, hEA⟩ : ∃ E, (printS a).2 = E := ⟨_, rfl⟩
  have hEAH := Lib.hid hEA
  rw [hEA]
  clear hEA
  go_wp2_with fail
  refine (HPB.out w3 B3.out).mono ?_
  rintro e w4 ⟨hb, tb, rfl, htb⟩
  have B4 := Lib.hid (B3.out.trans (hb.mono B3.out.size))
  have X4 := Lib.hid (X3.out.below hb X3.out.lt)
  have Y4 := Lib.hid (Y3.out.below hb Y3.out.lt)
  have htbH := Lib.hid htb
  clear hb htb x0 x1 y0 y1 B3 X3 Y3 HPB
  obtain ⟨EB, hEB⟩ : ∃ E, (printS b).2 = E := ⟨_, rfl⟩
  have hEBH := Lib.hid hEB
  rw [hEB]
  clear hEB
  have pno : ∀ {s : Scr} {t : ByteArray}, t.data.toList = (printS s).1 → (printS s).2 ≠ 0 → t = ⟨#[]⟩ := by
    intro s t ht hne
    unfold printS at ht hne
    split at hne
    · exact absurd rfl hne
    · rename_i hc
      rw [if_neg hc] at ht
      exact ba_of ht
  have pyes : ∀ {s : Scr} {t : ByteArray}, t.data.toList = (printS s).1 → (printS s).2 = 0 → t.data.toList = printB s ∧ (checkS s).2 = 0 := by
    intro s t ht he
    unfold printS at ht he
    split at he
    · rename_i hc
      rw [if_pos hc] at ht
      exact ⟨ht, hc⟩
    · rename_i hc
      exact absurd he hc
  have hEm : ∀ t : ByteArray, t = ⟨#[]⟩ → (t.toList == []) = true := fun t h => by rw [h, ByteArray.toList_eq]; rfl
  by_cases ca : EA = 0
  case neg =>
    have ta0 := hEm ta (pno htaH.out (by rw [hEAH.out]; exact ca))
    have d1 : (EA != 0) = true := bne_iff_ne.2 ca
    have d1' : (EA == 0) = false := by rw [beq_eq_false_iff_ne]; exact ca
    have q1 : ¬ EA = 0 := ca
    by_cases cb : EB = 0
    case neg =>
      have tb0 := hEm tb (pno htbH.out (by rw [hEBH.out]; exact cb))
      have d2' : (EB == 0) = false := by rw [beq_eq_false_iff_ne]; exact cb
      have q2 : ¬ EB = 0 := cb
      clear ca cb pno pyes hEm
      go_wp2_with fail
      refine (HS.out w4 B4.out).mono ?_
      rintro e w5 ⟨rfl, hb⟩
      have B5 := Lib.hid (B4.out.trans (hb.mono B4.out.size))
      clear hb
      go_wp2_with fail
      go_ret
      exact ⟨rfl, B5.out⟩
    case pos =>
      subst cb
      clear ca pno pyes hEm
      go_wp2_with fail
      refine (HS.out w4 B4.out).mono ?_
      rintro e w5 ⟨rfl, hb⟩
      have B5 := Lib.hid (B4.out.trans (hb.mono B4.out.size))
      clear hb
      go_wp2_with fail
      go_ret
      exact ⟨rfl, B5.out⟩
  case pos =>
  subst ca
  by_cases cb : EB = 0
  case neg =>
    have tb0 := hEm tb (pno htbH.out (by rw [hEBH.out]; exact cb))
    have d1 : (EB != 0) = true := bne_iff_ne.2 cb
    have d2' : (EB == 0) = false := by rw [beq_eq_false_iff_ne]; exact cb
    have q2 : ¬ EB = 0 := cb
    clear cb pno pyes hEm
    go_wp2_with fail
    refine (HS.out w4 B4.out).mono ?_
    rintro e w5 ⟨rfl, hb⟩
    have B5 := Lib.hid (B4.out.trans (hb.mono B4.out.size))
    clear hb
    go_wp2_with fail
    go_ret
    exact ⟨rfl, B5.out⟩
  case pos =>
  subst cb
  obtain ⟨hta, hca⟩ := pyes htaH.out hEAH.out
  obtain ⟨htb, hcb⟩ := pyes htbH.out hEBH.out
  have oka := check_ok hca
  have okb := check_ok hcb
  obtain ⟨u, hU1, hU2, hUz⟩ : ∃ u : ByteArray, Hid (∀ wx : World, (Op.stringOp .add ta tb).run Tryz.prog wx = .ok (.string u) wx) ∧ u.data.toList = printB a ++ printB b ∧ u.size ≤ 100000000 := by
    have za := printB_len oka
    have zb := printB_len okb
    have ea : ta.data.toList.length = ta.size := Array.length_toList
    have eb : tb.data.toList.length = tb.size := Array.length_toList
    rw [hta] at ea
    rw [htb] at eb
    refine ⟨ta ++ tb, fun wx => run_string_add_sum wx _ _ (by omega), by rw [ByteArray.data_append, Array.toList_append, hta, htb], by rw [ByteArray.size_append]; omega⟩
  have htwo := check_two oka okb
  have hpt := parse_two oka.stp okb.stp
  rw [hT1H.out, hT2H.out, hN1H.out, hN2H.out] at htwo
  have hbig : a.texts.length ≤ 8 ∧ b.texts.length ≤ 8 ∧ a.steps.length ≤ 400 ∧ b.steps.length ≤ 400 := ⟨oka.nt, okb.nt, oka.ns, okb.ns⟩
  rw [hT1H.out, hT2H.out, hN1H.out, hN2H.out] at hbig
  obtain ⟨bt1, bt2, bn1, bn2⟩ := hbig
  obtain ⟨R, hR⟩ : ∃ R, parseS (printB a ++ printB b) = R := ⟨_, rfl⟩
  have HP := Lib.hid (HPa.out w4 B4.out u hUz R (by rw [hU2]; exact hR))
  rw [hR] at hpt
  have hptH : Hid (R = if (checkS (joinS a b)).2 = 0 then ⟨joinS a b, 0, 0⟩ else ⟨noScr, 0, (checkS (joinS a b)).2⟩) := hpt
  have htwoH := Lib.hid htwo
  clear hpt htwo hR hta htb hca hcb oka okb hU2 hUz HPa pno pyes hEm
  have hu := hU1.out
  obtain ⟨LR, hLR⟩ : ∃ L, (R.line : Int) = L := ⟨_, rfl⟩
  obtain ⟨ER, hER⟩ : ∃ E, R.err = E := ⟨_, rfl⟩
  have hERH := Lib.hid hER
  rw [hLR, hER] at HP
  clear hLR hER
  go_wp2_with fail
  refine HP.out.mono ?_
  rintro e w5 ⟨A, n, c, A', n', c', rfl, hsc, hb⟩
  have B5 := Lib.hid (B4.out.trans (hb.mono B4.out.size))
  have X5 := Lib.hid (X4.out.below hb X4.out.lt)
  have Y5 := Lib.hid (Y4.out.below hb Y4.out.lt)
  have S5 := Lib.hid hsc
  clear hb hsc B4 X4 Y4 HP hu
  go_upto_region 8 with fail
  refine world_is (P := fun W => Code.wp _ _ _ _ W) (fun W6 hW6 => ?_)
  have hb : Below w5.heap.size w5 W6 := by rw [← hW6]; exact (Below.refl _ _).alloc (Nat.le_refl _) _
  have Z6 : Hid (Blk W6 w5.heap.size 25 #[.slice A n c, .slice A' n' c']) := by unfold Hid; rw [← hW6]; exact Blk.new _ _ _
  have B6 := Lib.hid (B5.out.trans (hb.mono B5.out.size))
  have X6 := Lib.hid (X5.out.below hb X5.out.lt)
  have Y6 := Lib.hid (Y5.out.below hb Y5.out.lt)
  have S6 := Lib.hid ((S5.out.below hb).mono hb.size)
  obtain ⟨z, hz⟩ : ∃ z, w5.heap.size = z := ⟨_, rfl⟩
  rw [hz] at Z6
  try rw [hz]
  clear hW6 hb hz B5 X5 Y5 S5
  have x0 := X6.out.cell 0
  have x1 := X6.out.cell 1
  have y0 := Y6.out.cell 0
  have y1 := Y6.out.cell 1
  have hErr : (8 < T1 + T2 ∨ 400 < N1 + N2) → ER = 2 := fun h => by
    have h1 := htwoH.out
    rw [if_pos h] at h1
    have h2 := hptH.out
    rw [h1, if_neg (by decide)] at h2
    rw [← hERH.out, h2]
  have hOk : ¬ (8 < T1 + T2 ∨ 400 < N1 + N2) → ER = 0 ∧ R.scr = joinS a b := fun h => by
    have h1 := htwoH.out
    rw [if_neg h] at h1
    have h2 := hptH.out
    rw [h1, if_pos rfl] at h2
    exact ⟨by rw [← hERH.out, h2], by rw [h2]⟩
  by_cases ht : 8 < T1 + T2
  case pos =>
    obtain rfl := hErr (.inl ht)
    have p1 : (8 : Int) < (T1 : Int) + (T2 : Int) := by omega
    have p2 : decide ((8 : Int) < (T1 : Int) + (T2 : Int)) = true := decide_eq_true p1
    clear ht hErr hOk
    go_wp2_with fail
    refine (HS.out W6 B6.out).mono ?_
    rintro e w7 ⟨rfl, hb⟩
    have B7 := Lib.hid (B6.out.trans (hb.mono B6.out.size))
    clear hb
    go_wp2_with fail
    go_ret
    exact ⟨rfl, B7.out⟩
  case neg =>
  have p1 : ¬ (8 : Int) < (T1 : Int) + (T2 : Int) := by omega
  have p2 : decide ((8 : Int) < (T1 : Int) + (T2 : Int)) = false := decide_eq_false p1
  by_cases hn : 400 < N1 + N2
  case pos =>
    obtain rfl := hErr (.inr hn)
    have p3 : (400 : Int) < (N1 : Int) + (N2 : Int) := by omega
    have p4 : decide ((400 : Int) < (N1 : Int) + (N2 : Int)) = true := decide_eq_true p3
    clear ht hn hErr hOk
    go_wp2_with fail
    refine (HS.out W6 B6.out).mono ?_
    rintro e w7 ⟨rfl, hb⟩
    have B7 := Lib.hid (B6.out.trans (hb.mono B6.out.size))
    clear hb
    go_wp2_with fail
    go_ret
    exact ⟨rfl, B7.out⟩
  case neg =>
  have p3 : ¬ (400 : Int) < (N1 : Int) + (N2 : Int) := by omega
  have p4 : decide ((400 : Int) < (N1 : Int) + (N2 : Int)) = false := decide_eq_false p3
  obtain ⟨rfl, hRs⟩ := hOk (fun h => h.elim ht hn)
  rw [hRs] at S6
  clear hErr hOk hptH htwoH hERH hRs
  go_upto_region 10 with fail
  have hC : Hid (∀ w', Below W6.heap.size W6 w' → w'.cell? ⟨g, 0, none⟩ = some (.slice Ata T1 cta) ∧ w'.cell? ⟨g, 1, none⟩ = some (.slice Asa N1 csa) ∧ w'.cell? ⟨g2, 0, none⟩ = some (.slice Atb T2 ctb) ∧ w'.cell? ⟨g2, 1, none⟩ = some (.slice Asb N2 csb)) := fun W h => ⟨(X6.out.below h X6.out.lt).cell 0, (X6.out.below h X6.out.lt).cell 1, (Y6.out.below h Y6.out.lt).cell 0, (Y6.out.below h Y6.out.lt).cell 1⟩
  have b0 : Below W6.heap.size W6 W6.drew := (Below.refl _ _).drew
  clear x0 x1 y0 y1 p1 p2 p3 p4
  refine wp_region_held_drew (S := fun w' => Below W6.heap.size W6 w' ∧ w'.cell? ⟨g, 0, none⟩ = some (.slice Ata T1 cta) ∧ w'.cell? ⟨g, 1, none⟩ = some (.slice Asa N1 csa) ∧ w'.cell? ⟨g2, 0, none⟩ = some (.slice Atb T2 ctb) ∧ w'.cell? ⟨g2, 1, none⟩ = some (.slice Asb N2 csb)) (by kernel_rfl) ⟨b0, hC.out _ b0⟩ (fun hHeld => ?_)
  refine' wpAnyH_take (i := 1) (v := ?v1) rfl (by kernel_rfl) (by kernel_rfl) (by kernel_rfl) (fun _ _ _ h => h) (Or.inl ⟨by rfl, ?hy1⟩) hHeld ?rest1
  case hy1 => intro w hSw; (try dsimp only at hSw); go_simp; all_goals with_reducible rfl
  try simp only [Act.put, List.setIfInBounds_toArray, List.set_cons_zero, List.set_cons_succ, List.getElem_toArray, List.getElem_cons_zero, List.getElem_cons_succ]
  refine' wpAnyH_take (i := 2) (v := ?v2) rfl (by kernel_rfl) (by kernel_rfl) (by kernel_rfl) (fun _ _ _ h => h) (Or.inl ⟨by rfl, ?hy2⟩) hHeld ?rest2
  case hy2 => intro w hSw; (try dsimp only at hSw); go_simp; all_goals with_reducible rfl
  try simp only [Act.put, List.setIfInBounds_toArray, List.set_cons_zero, List.set_cons_succ, List.getElem_toArray, List.getElem_cons_zero, List.getElem_cons_succ]
  refine' wpAnyH_take (i := 4) (v := ?v4) rfl (by kernel_rfl) (by kernel_rfl) (by kernel_rfl) (fun _ _ _ h => h) (Or.inl ⟨by rfl, ?hy4⟩) hHeld ?rest4
  case hy4 => intro w hSw; (try dsimp only at hSw); go_simp; all_goals with_reducible rfl
  try simp only [Act.put, List.setIfInBounds_toArray, List.set_cons_zero, List.set_cons_succ, List.getElem_toArray, List.getElem_cons_zero, List.getElem_cons_succ]
  refine' wpAnyH_take (i := 5) (v := ?v5) rfl (by kernel_rfl) (by kernel_rfl) (by kernel_rfl) (fun _ _ _ h => h) (Or.inl ⟨by rfl, ?hy5⟩) hHeld ?rest5
  case hy5 => intro w hSw; (try dsimp only at hSw); go_simp; all_goals with_reducible rfl
  try simp only [Act.put, List.setIfInBounds_toArray, List.set_cons_zero, List.set_cons_succ, List.getElem_toArray, List.getElem_cons_zero, List.getElem_cons_succ]
  refine' wpAnyH_take (i := 8) (v := ?v8) rfl (by kernel_rfl) (by kernel_rfl) (by kernel_rfl) (fun _ _ _ h => h) (Or.inl ⟨by rfl, ?hy8⟩) hHeld ?rest8
  case hy8 => intro w hSw; (try dsimp only at hSw); go_simp; all_goals with_reducible rfl
  try simp only [Act.put, List.setIfInBounds_toArray, List.set_cons_zero, List.set_cons_succ, List.getElem_toArray, List.getElem_cons_zero, List.getElem_cons_succ]
  refine' wpAnyH_take (i := 9) (v := ?v9) rfl (by kernel_rfl) (by kernel_rfl) (by kernel_rfl) (fun _ _ _ h => h) (Or.inl ⟨by rfl, ?hy9⟩) hHeld ?rest9
  case hy9 => intro w hSw; (try dsimp only at hSw); go_simp; all_goals with_reducible rfl
  try simp only [Act.put, List.setIfInBounds_toArray, List.set_cons_zero, List.set_cons_succ, List.getElem_toArray, List.getElem_cons_zero, List.getElem_cons_succ]
  refine' wpAnyH_take (i := 11) (v := ?v11) rfl (by kernel_rfl) (by kernel_rfl) (by kernel_rfl) (fun _ _ _ h => h) (Or.inl ⟨by rfl, ?hy11⟩) hHeld ?rest11
  case hy11 => intro w hSw; (try dsimp only at hSw); go_simp; all_goals with_reducible rfl
  try simp only [Act.put, List.setIfInBounds_toArray, List.set_cons_zero, List.set_cons_succ, List.getElem_toArray, List.getElem_cons_zero, List.getElem_cons_succ]
  refine' wpAnyH_take (i := 12) (v := ?v12) rfl (by kernel_rfl) (by kernel_rfl) (by kernel_rfl) (fun _ _ _ h => h) (Or.inl ⟨by rfl, ?hy12⟩) hHeld ?rest12
  case hy12 => intro w hSw; (try dsimp only at hSw); go_simp; all_goals with_reducible rfl
  try simp only [Act.put, List.setIfInBounds_toArray, List.set_cons_zero, List.set_cons_succ, List.getElem_toArray, List.getElem_cons_zero, List.getElem_cons_succ]
  clear hHeld
  refine act_is (P := fun A => wpAnyH _ _ _ _ _ _ _ A _) (fun a0 ha0 => ?_)
  have e88 : a0.eval (.tmp 88) = .slice Ata T1 cta := by rw [← ha0]; rfl
  have e91 : a0.eval (.tmp 91) = .slice Atb T2 ctb := by rw [← ha0]; rfl
  have e95 : a0.eval (.tmp 95) = .slice Asa N1 csa := by rw [← ha0]; rfl
  have e98 : a0.eval (.tmp 98) = .slice Asb N2 csb := by rw [← ha0]; rfl
  have esz : a0.tmps.size = 111 := by rw [← ha0]; rfl
  obtain ⟨vsa, la, ra, fa⟩ := HSA.out
  obtain ⟨vsb, lb, rb, fb⟩ := HSB.out
  rw [hN1H.out] at ra
  rw [hN2H.out] at rb
  refine Chains.enter (E := [[0, 3, 6], [7, 10, 13, 14], [15]]) #[false, true, true, false, true, true, false, false, true, true, false, true, true, false, false, false, false] (by kernel_rfl) (by kernel_rfl) (JInv W6 W6.heap.size a0 T1 T2 (strsC a.texts) (strsC b.texts) N1 N2 (stepsC a.steps vsa) (stepsC b.steps vsb)) 1 [0, 0, 0] (by kernel_rfl) (by kernel_rfl) (by kernel_rfl) (by kernel_rfl) rfl ?hS ?hstep ?hI ?hend
  case hS => exact fun s a w h => ⟨h.bel, hC.out _ h.bel⟩
  case hI => exact ⟨b0, Chains.Agree.refl _ _, .inl rfl, .inl rfl, fun h => (by cases h), fun h => (by cases h), .inl rfl⟩
  case hstep =>
    intro s a' w' c i hs hI hn hrd
    obtain ⟨k1, k2, k3, rfl, hk1, _, hk3⟩ := three rfl hs
    clear hs
    obtain ⟨bel, agr, q1, q2, q4, q5, q3⟩ := id hI
    rcases next_cases hn with ⟨rfl, rfl, rfl⟩ | ⟨rfl, rfl, rfl⟩ | ⟨rfl, rfl, rfl⟩ | ⟨rfl, rfl, rfl⟩ | ⟨rfl, rfl, rfl⟩ | ⟨rfl, rfl, rfl⟩ | ⟨rfl, rfl, rfl⟩ | ⟨rfl, rfl, rfl⟩
    · refine wpOp_step rfl (fun K' hK => ?_)
      go_simp
      refine hK _ _ ?_
      exact hI.first esz (by decide) rfl (by decide) (World.ownsRow_made w' #[] 0 (Nat.le_trans (Nat.le_refl _) bel.size) (by decide) rfl) (bel.alloc bel.size _) (fun _ _ _ h => h.alloc _) (fun _ _ _ h => h.alloc _)
    · refine wpOp_step rfl (fun K' hK => ?_)
      refine wp_cat_row 22 9 (.string ⟨#[]⟩) 1 16 Tryz.underlying22 (by kernel_rfl) rfl (by decide) (by decide) _ _ rfl W6.heap.size (0) ([]) rfl (q1.get (n := 0) rfl) (agr.eval rfl |>.trans e88) (HTA.out.below ((B6.out.mono hBH.out).trans (bel.mono (Nat.le_trans hBH.out B6.out.size)))) (by rw [Nat.mul_one, strsC_len]; exact hT1H.out) (strsC_one _) (by omega) bel.size ?_
      intro v2 w2 h1 h2 h3
      exact hK _ _ (hI.first esz (by decide) rfl (by decide) (by rw [Nat.zero_add, List.nil_append] at h1; exact h1) (h3 _ _ (Nat.le_refl _) bel) (fun _ _ _ h => h.kept h2 (own_own_ne h (q1.get (n := 0) rfl) (by decide))) (fun _ _ _ h => h.grown h2 (Ne.symm (own_blk_ne (q1.get (n := 0) rfl) h (by decide)))))
    · refine wpOp_step rfl (fun K' hK => ?_)
      refine wp_cat_row 22 9 (.string ⟨#[]⟩) 1 16 Tryz.underlying22 (by kernel_rfl) rfl (by decide) (by decide) _ _ rfl W6.heap.size (T1) (strsC a.texts) rfl (q1.get (n := 1) rfl) (agr.eval rfl |>.trans e91) (HTB.out.below ((B6.out.mono hBH.out).trans (bel.mono (Nat.le_trans hBH.out B6.out.size)))) (by rw [Nat.mul_one, strsC_len]; exact hT2H.out) (strsC_one _) (by omega) bel.size ?_
      intro v2 w2 h1 h2 h3
      exact hK _ _ (hI.first esz (by decide) rfl (by decide) h1 (h3 _ _ (Nat.le_refl _) bel) (fun _ _ _ h => h.kept h2 (own_own_ne h (q1.get (n := 1) rfl) (by decide))) (fun _ _ _ h => h.grown h2 (Ne.symm (own_blk_ne (q1.get (n := 1) rfl) h (by decide)))))
    · refine wpOp_step rfl (fun K' hK => ?_)
      go_simp
      refine hK _ _ ?_
      exact hI.second esz (by decide) rfl (by decide) (World.ownsRow_made w' #[] 0 (Nat.le_trans (Nat.le_refl _) bel.size) (by decide) rfl) (bel.alloc bel.size _) (fun _ _ _ h => h.alloc _) (fun _ _ _ h => h.alloc _)
    · refine wpOp_step rfl (fun K' hK => ?_)
      refine wp_cat_row 23 53 (.agg #[.int .i64 0, .slice none 0 0, .string ⟨#[]⟩]) 3 48 Tryz.underlying23 (by kernel_rfl) rfl (by decide) (by decide) _ _ rfl W6.heap.size (0) ([]) rfl (q2.get (n := 0) rfl) (agr.eval rfl |>.trans e95) (ra.below ((B6.out.mono hBH.out).trans (bel.mono (Nat.le_trans hBH.out B6.out.size)))) (by rw [stepsC_len _ _ la, hN1H.out]) (args_one la fa) (by omega) bel.size ?_
      intro v2 w2 h1 h2 h3
      exact hK _ _ (hI.second esz (by decide) rfl (by decide) (by rw [Nat.zero_add, List.nil_append] at h1; exact h1) (h3 _ _ (Nat.le_refl _) bel) (fun _ _ _ h => h.kept h2 (own_own_ne h (q2.get (n := 0) rfl) (by decide))) (fun _ _ _ h => h.grown h2 (Ne.symm (own_blk_ne (q2.get (n := 0) rfl) h (by decide)))))
    · refine wpOp_step rfl (fun K' hK => ?_)
      refine wp_cat_row 23 53 (.agg #[.int .i64 0, .slice none 0 0, .string ⟨#[]⟩]) 3 48 Tryz.underlying23 (by kernel_rfl) rfl (by decide) (by decide) _ _ rfl W6.heap.size (N1) (stepsC a.steps vsa) rfl (q2.get (n := 1) rfl) (agr.eval rfl |>.trans e98) (rb.below ((B6.out.mono hBH.out).trans (bel.mono (Nat.le_trans hBH.out B6.out.size)))) (by rw [stepsC_len _ _ lb, hN2H.out]) (args_one lb fb) (by omega) bel.size ?_
      intro v2 w2 h1 h2 h3
      exact hK _ _ (hI.second esz (by decide) rfl (by decide) h1 (h3 _ _ (Nat.le_refl _) bel) (fun _ _ _ h => h.kept h2 (own_own_ne h (q2.get (n := 1) rfl) (by decide))) (fun _ _ _ h => h.grown h2 (Ne.symm (own_blk_ne (q2.get (n := 1) rfl) h (by decide)))))
    · have h3 : k1 = 3 := by
        rcases k1 with _ | _ | _ | k1
        · rcases k3 with _ | _ | k3
          · exact absurd hrd (Bool.eq_false_iff.1 (by kernel_rfl))
          · exact absurd hrd (Bool.eq_false_iff.1 (by kernel_rfl))
          · simp at hk3
        · rcases k3 with _ | _ | k3
          · exact absurd hrd (Bool.eq_false_iff.1 (by kernel_rfl))
          · exact absurd hrd (Bool.eq_false_iff.1 (by kernel_rfl))
          · simp at hk3
        · rcases k3 with _ | _ | k3
          · exact absurd hrd (Bool.eq_false_iff.1 (by kernel_rfl))
          · exact absurd hrd (Bool.eq_false_iff.1 (by kernel_rfl))
          · simp at hk3
        · simp at hk1
          omega
      subst h3
      refine wpOp_step rfl (fun K' hK => ?_)
      obtain ⟨A1, c1, v1⟩ := own_slice (q1.get (n := 2) rfl)
      obtain ⟨A2, c2, v2⟩ := own_slice (q2.get (n := 2) rfl)
      dsimp only at v1 v2
      have w1 : a'.tmps[92]?.getD undef = .slice A1 (T1 + T2) c1 := by rw [← Array.getD_eq_getD_getElem?]; exact v1
      have w2 : a'.tmps[99]?.getD undef = .slice A2 (N1 + N2) c2 := by rw [← Array.getD_eq_getD_getElem?]; exact v2
      go_simp
      refine hK _ _ ?_
      exact hI.built esz v1 v2
    · refine wpOp_step rfl (fun K' hK => ?_)
      go_simp
      refine hK _ _ ?_
      exact hI.boxed esz bel.size
  case hend =>
    intro a' w' hI
    obtain ⟨bel, agr, q1, q2, q4, q5, q3⟩ := hI
    have r1 := q1.get (n := 2) rfl
    have r2 := q2.get (n := 2) rfl
    obtain ⟨zb, e12, hgb, hZB⟩ : ∃ b, a'.eval (.tmp 12) = .pointer (some ⟨b, 0, none⟩) ∧ W6.heap.size ≤ b ∧ Blk w' b 25 #[.slice none 0 0, .slice none 0 0] := q3.resolve_left (fun h => by cases h)
    have e100 := q4 rfl
    dsimp only at r1 r2
    obtain ⟨A1, c1, v1⟩ := own_slice r1
    obtain ⟨A2, c2, v2⟩ := own_slice r2
    rw [v1] at r1
    rw [v2] at r2
    rw [v1, v2] at e100
    have hA := agr.out
    simp only [List.foldl_cons, List.foldl_nil, e12, e100, v1, v2] at hA
    generalize a'.eval (.tmp 86) = x86 at hA
    generalize a'.eval (.tmp 89) = x89 at hA
    generalize a'.eval (.tmp 93) = x93 at hA
    generalize a'.eval (.tmp 96) = x96 at hA
    rw [← ha0] at hA
    simp only [Act.put, List.setIfInBounds_toArray, List.set_cons_zero, List.set_cons_succ] at hA
    clear q1 q2 q3 q4 q5 agr e12 e100 v1 v2 e88 e91 e95 e98 esz ha0
    subst hA
    have c0 := hZB.cell 0
    have c1' := hZB.cell 1
    have f0 := hZB.frozen 0
    have f1 := hZB.frozen 1
    refine wpAnyH_ready (rs := [16]) (by kernel_rfl) (by simp) ?_
    refine AllReadyH.cons rfl (fun K hK => ?_) AllReadyH.nil
    go_simp
    refine world_is (P := fun W => K _ W) (fun W8 hW8 => ?_)
    have bel8 : Below W6.heap.size W6 W8 := by rw [← hW8]; exact (bel.setCell (p := ⟨zb, 0, none⟩) hgb _).setCell (p := ⟨zb, 1, none⟩) hgb _
    have Z8 : Hid (Blk W8 zb 25 #[.slice A1 (T1 + T2) c1, .slice A2 (N1 + N2) c2]) := by unfold Hid; rw [← hW8]; exact (hZB.set_ 0 _).set_ 1 _
    have R1 : Hid (RowAt W8 W8.heap.size (.slice A1 (T1 + T2) c1) (T1 + T2) (strsC a.texts ++ strsC b.texts)) := by
      unfold Hid
      refine own_rowAt (B := W6.heap.size) (k := 1) (e := 9) ?_ bel8.size
      rw [← hW8]
      exact ownsRow_setCell_ne' (ownsRow_setCell_ne' r1 hZB (by decide) 0 _) (hZB.set_ 0 _) (by decide) 1 _
    have R2 : Hid (RowAt W8 W8.heap.size (.slice A2 (N1 + N2) c2) (N1 + N2) (stepsC a.steps vsa ++ stepsC b.steps vsb)) := by
      unfold Hid
      refine own_rowAt (B := W6.heap.size) (k := 3) (e := 53) ?_ bel8.size
      rw [← hW8]
      exact ownsRow_setCell_ne' (ownsRow_setCell_ne' r2 hZB (by decide) 0 _) (hZB.set_ 0 _) (by decide) 1 _
    refine hK.out _ _ ⟨bel8, hC.out _ bel8⟩ (fun hHeld2 => ?_)
    clear hHeld2 hK K hW8 c0 c1' f0 f1 hZB r1 r2 bel
    try simp only [Act.put, List.setIfInBounds_toArray, List.set_cons_zero, List.set_cons_succ, List.getElem_toArray, List.getElem_cons_zero, List.getElem_cons_succ]
    refine wpAnyH_done (by kernel_rfl) ?_ _
    have B8 := Lib.hid (B6.out.trans (bel8.mono B6.out.size))
    have Z6b := Lib.hid (Z6.out.below bel8 Z6.out.lt)
    have S8 := Lib.hid ((S6.out.below bel8).mono bel8.size)
    have V8 : Hid (ScrAt W8 W8.heap.size (.agg #[.slice A1 (T1 + T2) c1, .slice A2 (N1 + N2) c2]) (joinS a b)) := by
      have hbw : Below B w W8 := B8.out.mono hBH.out
      have hle : B ≤ W8.heap.size := Nat.le_trans hBH.out B8.out.size
      refine ⟨_, _, rfl, ?_, ?_⟩
      · show RowAt _ _ _ (a.texts ++ b.texts).length (strsC (a.texts ++ b.texts))
        rw [List.length_append, hT1H.out, hT2H.out, show strsC (a.texts ++ b.texts) = strsC a.texts ++ strsC b.texts from List.map_append]
        exact R1.out
      · refine steps_join la lb (fun i x u hx hu => ((fa i x u hx hu).below hbw).mono hle) (fun i x u hx hu => ((fb i x u hx hu).below hbw).mono hle) ?_
        rw [hN1H.out, hN2H.out]
        exact R2.out
    have hJin : Hid (ScrIn (joinS a b)) := joinS_in HIA.out HIB.out (by rw [hT1H.out, hT2H.out]; omega) (by rw [hN1H.out, hN2H.out]; omega)
    clear bel8 R1 R2 fa fb ra rb la lb hC b0 B6 X6 Y6 Z6 S6
    go_wp2_with fail
    refine (HS.out W8 B8.out).mono ?_
    rintro e w9 ⟨rfl, hb⟩
    have B9 := Lib.hid (B8.out.trans (hb.mono B8.out.size))
    have Z9 := Lib.hid (Z6b.out.below hb Z6b.out.lt)
    have Y9 := Lib.hid (Z8.out.below hb Z8.out.lt)
    have S9 := Lib.hid ((S8.out.below hb).mono hb.size)
    have V9 := Lib.hid ((V8.out.below hb).mono hb.size)
    clear hb B8 Z6b Z8 S8 V8
    have x0 := Z9.out.cell 0
    have x1 := Z9.out.cell 1
    have y0 := Y9.out.cell 0
    have y1 := Y9.out.cell 1
    have HSm := rSame_any (joinS a b) (joinS a b) _ _ w9.heap.size w9 S9.out V9.out (Nat.le_refl _) hJin.out hJin.out
    rw [sameE_self] at HSm
    have HSmH := Lib.hid HSm
    clear HSm
    go_wp2_with fail
    refine HSmH.out.mono ?_
    rintro e w10 ⟨rfl, hb⟩
    have B10 := Lib.hid (B9.out.trans (hb.mono B9.out.size))
    clear hb
    go_wp2_with fail
    go_ret
    exact ⟨rfl, B10.out⟩
end Go.Proofs.YtldkfhimpkiigaaGreatDoor
