/-
  Layer 29 (session), the specification: place, Find, Free, Same.
-/
import Derived.Test.YtbhagfdkipgggaaDoorMO
namespace Go.Proofs.YtbhagfdkipgggaaDoor
open Go.RowKit Go.Shelf
attribute [local go_sem] Oper.semAt_some
theorem rplace_any (w : World) (v : Value) (L : List Ses) (id : Int) (h : TabAt w v L) :
    Calls Tryd.prog 55 #[v, .int .i64 id] w fun e w' => e = .returned (.int .i64 (idxI (hasId id) L)) ∧ Below w.heap.size w w' := by
  obtain ⟨A, c, rfl, hc1, hm, hc3⟩ := h
  have H3 := Lib.hid hc3
  have H63 : Hid (L.length ≤ 9223372036854775807) := Nat.le_trans hc1 hm
  clear hc3 hc1 hm
  go_enter Tryd.func55, Tryd.ntmps55
  go_wp2_with fail
  go_loopw [5] (fun i wr => ∃ k : Nat, k ≤ L.length ∧ i = .int .i64 k ∧ Hid (∀ j t, j < k → L[j]? = some t → hasId id t = false) ∧ wr = w) (fun i _ => L.length - (intOf i).toNat)
  case atStart => exact ⟨0, Nat.zero_le _, rfl, fun j t hj => absurd hj (Nat.not_lt_zero j), rfl⟩
  case round =>
    obtain ⟨k, hk, rfl, hn, rfl⟩ := hrel
    by_cases hkl : k < L.length
    · have d1 : decide (k < L.length) = true := decide_eq_true hkl
      have hk0 : (0 : Int) ≤ (k : Int) := by omega
      have hk1 : (k : Int) < (L.length : Int) := by omega
      obtain ⟨s, hs⟩ : ∃ s, L[k]? = some s := ⟨_, List.getElem?_eq_getElem hkl⟩
      obtain ⟨b, o, rfl, hbb, hcells⟩ := H3.out (by omega)
      have c0 := (tab_cells (fun j u hj => hcells j u hj) hs).1
      have hklH := Lib.hid hkl
      have hsH := Lib.hid hs
      clear hcells hkl hs
      by_cases he : s.id = id
      · have d2 : (s.id == id) = true := beq_iff_eq.2 he
        have hJ := Lib.hid (idxI_hit hsH.out (show hasId id s = true from decide_eq_true he) hn.out)
        clear he
        go_wp2_with fail
        go_ret
        exact ⟨by rw [hJ.out]; rfl, Below.refl _ _⟩
      · have d2 : (s.id == id) = false := beq_eq_false_iff_ne.2 he
        have hh := Lib.hid (show hasId id s = false from decide_eq_false he)
        clear he
        go_wp2_with fail
        have hwk : wrap64 ((k : Int) + 1) = ((k + 1 : Nat) : Int) := by rw [Int.natCast_add]; exact wrap64_in _ ⟨by omega, by have := hklH.out; have := H63.out; omega⟩
        rw [hwk]
        refine ⟨⟨k + 1, hklH.out, rfl, fun j t hj ht => ?_, trivial⟩, by have := hklH.out; simp [intOf]; omega⟩
        rcases Nat.lt_succ_iff_lt_or_eq.1 hj with h | rfl
        · exact hn.out j t h ht
        · rw [hsH.out] at ht
          cases ht
          exact hh.out
    · obtain rfl : k = L.length := by omega
      have d1 : decide (L.length < L.length) = false := decide_eq_false (Nat.lt_irrefl _)
      have hJ := Lib.hid (idxI_none (p := hasId id) (L := L) (fun i t ht => hn.out i t (List.getElem?_eq_some_iff.1 ht).1 ht))
      go_wp2_with fail
      go_ret
      exact ⟨by rw [hJ.out]; rfl, Below.refl _ _⟩
set_option maxHeartbeats 1600000 in
theorem rfind_any (w : World) (v : Value) (L : List Ses) (id : Int) (h : TabAt w v L) :
    Calls Tryd.prog 28 #[v, .int .i64 id] w fun e w' => e = .returned (.tuple #[sesV (findP L id).1, .int .i64 ((findP L id).2 : Nat)]) ∧ Below w.heap.size w w' := by
  have hB0 := (Below.refl w.heap.size w).alloc (Nat.le_refl _) (.cells #[.int .i64 0, .int .i64 0, .int .i64 0, .string ⟨#[]⟩, .int .i64 0, .int .i64 0, .int .u64 0] 32)
  have hT := h.below hB0 (Nat.le_refl _)
  have HC := Lib.hid (rplace_any (w.alloc (.cells #[.int .i64 0, .int .i64 0, .int .i64 0, .string ⟨#[]⟩, .int .i64 0, .int .i64 0, .int .u64 0] 32)) v L id hT)
  have HB0 := Lib.hid hB0
  have HN := Lib.hid (Blk.new w 32 #[.int .i64 0, .int .i64 0, .int .i64 0, .string ⟨#[]⟩, .int .i64 0, .int .i64 0, .int .u64 0])
  obtain ⟨A, c, rfl, hc1, _, hc3⟩ := hT
  have H3 := Lib.hid hc3
  clear hc3 h hB0
  rcases idx_cases (hasId id) L with ⟨hf, hi⟩ | ⟨k, s, hf, hi, hk, _⟩
  · have hJ : findP L id = (noSes, 11) := by unfold findP; rw [hf]
    rw [hJ]
    rw [hi] at HC
    clear hJ hf hi H3
    go_enter Tryd.func28, Tryd.ntmps28
    go_wp2_with (first | (go_at_call 55; refine HC.out.mono ?_; rintro e w1 ⟨rfl, hB⟩; have HB1 := Lib.hid (HB0.out.trans (hB.mono HB0.out.size)); have HR := Lib.hid (HN.out.below hB (by rw [World.size_alloc]; exact Nat.lt_succ_self _)); clear hB; have z0 := HR.out.cell 0; have f0 := HR.out.frozen 0; have z1 := HR.out.cell 1; have f1 := HR.out.frozen 1; have z2 := HR.out.cell 2; have f2 := HR.out.frozen 2; have z3 := HR.out.cell 3; have f3 := HR.out.frozen 3; have z4 := HR.out.cell 4; have f4 := HR.out.frozen 4; have z5 := HR.out.cell 5; have f5 := HR.out.frozen 5; have z6 := HR.out.cell 6; have f6 := HR.out.frozen 6) | fail)
    have hL1 := blk7_same HR.out
    have hBL := Below.setCell (p := ⟨w.heap.size, 6, none⟩) (Below.setCell (p := ⟨w.heap.size, 5, none⟩) (Below.setCell (p := ⟨w.heap.size, 4, none⟩) (Below.setCell (p := ⟨w.heap.size, 3, none⟩) (Below.setCell (p := ⟨w.heap.size, 2, none⟩) (Below.setCell (p := ⟨w.heap.size, 1, none⟩) (Below.setCell (p := ⟨w.heap.size, 0, none⟩) (HB1.out) (Nat.le_refl _) (.int .i64 0)) (Nat.le_refl _) (.int .i64 0)) (Nat.le_refl _) (.int .i64 0)) (Nat.le_refl _) (.string ⟨#[]⟩)) (Nat.le_refl _) (.int .i64 0)) (Nat.le_refl _) (.int .i64 0)) (Nat.le_refl _) (.int .u64 0)
    exact bodyPost_ret (v := .tuple #[.agg zSes, .int .i64 11]) (results_ct (P := Tryd.prog) (p := 4) (q := 5) rfl _ _ w.heap.size 32 zSes _ rfl hL1 Tryd.underlying32 rfl infoSes) rfl ⟨rfl, hBL⟩
  · have hkl := (List.getElem?_eq_some_iff.1 hk).1
    have hJ : findP L id = (s, 0) := by
      unfold findP
      rw [hf]
      dsimp only
      rw [List.getD_eq_getElem?_getD, hk]
      rfl
    rw [hJ]
    rw [hi] at HC
    obtain ⟨b, o, rfl, hbb, hcells⟩ := H3.out (by omega)
    have hcc := Lib.hid (tab_cells (fun j u hj => hcells j u hj) hk)
    have hne : b < w.heap.size + 1 := by rw [World.size_alloc] at hbb; exact hbb
    have q1 : decide ((k : Int) < 0) = false := decide_eq_false (by omega)
    clear hJ hf hi hcells hk H3
    go_enter Tryd.func28, Tryd.ntmps28
    go_wp2_with (first | (go_at_call 55; refine HC.out.mono ?_; rintro e w1 ⟨rfl, hB⟩; have HB1 := Lib.hid (HB0.out.trans (hB.mono HB0.out.size)); have HR := Lib.hid (HN.out.below hB (by rw [World.size_alloc]; exact Nat.lt_succ_self _)); obtain ⟨c0, c1, c2, c3, c4, c5, c6⟩ := hcc.out; have d0 := (hB.cell (p := ⟨b, o + k * 7, none⟩) hbb).trans c0; have d1 := (hB.cell (p := ⟨b, o + k * 7 + 1, none⟩) hbb).trans c1; have d2 := (hB.cell (p := ⟨b, o + k * 7 + 2, none⟩) hbb).trans c2; have d3 := (hB.cell (p := ⟨b, o + k * 7 + 3, none⟩) hbb).trans c3; have d4 := (hB.cell (p := ⟨b, o + k * 7 + 4, none⟩) hbb).trans c4; have d5 := (hB.cell (p := ⟨b, o + k * 7 + 5, none⟩) hbb).trans c5; have d6 := (hB.cell (p := ⟨b, o + k * 7 + 6, none⟩) hbb).trans c6; clear hB c0 c1 c2 c3 c4 c5 c6; have z0 := HR.out.cell 0; have f0 := HR.out.frozen 0; have z1 := HR.out.cell 1; have f1 := HR.out.frozen 1; have z2 := HR.out.cell 2; have f2 := HR.out.frozen 2; have z3 := HR.out.cell 3; have f3 := HR.out.frozen 3; have z4 := HR.out.cell 4; have f4 := HR.out.frozen 4; have z5 := HR.out.cell 5; have f5 := HR.out.frozen 5; have z6 := HR.out.cell 6; have f6 := HR.out.frozen 6) | fail)
    have hL1 := blk7_put HR.out (.int .i64 s.id) (.int .i64 s.role) (.int .i64 s.side) (.string s.key) (.int .i64 s.sent) (.int .i64 s.top) (.int .u64 (s.seen : Int))
    have hBL := Below.setCell (p := ⟨w.heap.size, 6, none⟩) (Below.setCell (p := ⟨w.heap.size, 5, none⟩) (Below.setCell (p := ⟨w.heap.size, 4, none⟩) (Below.setCell (p := ⟨w.heap.size, 3, none⟩) (Below.setCell (p := ⟨w.heap.size, 2, none⟩) (Below.setCell (p := ⟨w.heap.size, 1, none⟩) (Below.setCell (p := ⟨w.heap.size, 0, none⟩) (HB1.out) (Nat.le_refl _) (.int .i64 s.id)) (Nat.le_refl _) (.int .i64 s.role)) (Nat.le_refl _) (.int .i64 s.side)) (Nat.le_refl _) (.string s.key)) (Nat.le_refl _) (.int .i64 s.sent)) (Nat.le_refl _) (.int .i64 s.top)) (Nat.le_refl _) (.int .u64 (s.seen : Int))
    exact bodyPost_ret (v := .tuple #[.agg #[.int .i64 s.id, .int .i64 s.role, .int .i64 s.side, .string s.key, .int .i64 s.sent, .int .i64 s.top, .int .u64 (s.seen : Int)], .int .i64 0]) (results_ct (P := Tryd.prog) (p := 4) (q := 5) rfl _ _ w.heap.size 32 #[.int .i64 s.id, .int .i64 s.role, .int .i64 s.side, .string s.key, .int .i64 s.sent, .int .i64 s.top, .int .u64 (s.seen : Int)] _ rfl hL1 Tryd.underlying32 rfl infoSes) rfl ⟨rfl, hBL⟩
set_option maxRecDepth 100000 in
set_option maxHeartbeats 4000000 in
theorem rfree_any (w : World) (v : Value) (L : List Ses) (hT : TabAt w v L) :
    Calls Tryd.prog 34 #[v] w fun e w' => e = .returned (.tuple #[.int .i64 (freeP L).1, .int .i64 ((freeP L).2 : Nat)]) ∧ Below w.heap.size w w' := by
  have HPL : Hid (∀ (id : Int) wx, Below w.heap.size w wx → Calls Tryd.prog 55 #[v, .int .i64 id] wx fun e w' => e = .returned (.int .i64 (idxI (hasId id) L)) ∧ Below wx.heap.size wx w') := fun id wx hB => rplace_any wx v L id (hT.below hB (Nat.le_refl _))
  clear hT
  go_enter Tryd.func34, Tryd.ntmps34
  go_wp2_with fail
  go_loopw [4] (fun q wr => ∃ m : Nat, q = .int .i64 m ∧ Hid (1 ≤ m ∧ m ≤ 65) ∧ Hid (∀ i, 1 ≤ i → i < m → 0 ≤ idxI (hasId (i : Int)) L) ∧ Hid (Below w.heap.size w wr)) (fun q _ => 70 - (intOf q).toNat)
  case atStart => exact ⟨1, rfl, ⟨Nat.le_refl _, by decide⟩, (fun i h1 h2 => absurd h1 (by omega)), Below.refl _ w⟩
  case round =>
    obtain ⟨m, rfl, hm, hn, hB⟩ := hrel
    by_cases hlt : m ≤ 64
    · have d1 : decide (m ≤ 64) = true := decide_eq_true hlt
      have d2 : decide ((m : Int) ≤ 64) = true := decide_eq_true (by omega)
      have HP := Lib.hid (HPL.out (m : Int) _ hB.out)
      have hltH := Lib.hid hlt
      clear hlt
      rcases idx_cases (hasId (m : Int)) L with ⟨_, hi⟩ | ⟨k, x, _, hi, _, _⟩
      · rw [hi] at HP
        have hJ := Lib.hid (freeP_hit hm.out.1 hltH.out hn.out (by rw [hi]; decide))
        clear hi
        go_wp2_with (first | (go_at_call 55; refine (HP.out.mono ?_); rintro e w1 ⟨rfl, hB1⟩; have HB1 := Lib.hid (hB.out.trans (hB1.mono hB.out.size)); clear hB1) | fail)
        go_ret2
        rw [hJ.out]
        exact ⟨rfl, HB1.out⟩
      · rw [hi] at HP
        have hk0 := Lib.hid (hi ▸ Int.natCast_nonneg k : 0 ≤ idxI (hasId (m : Int)) L)
        clear hi
        have q0 : decide ((k : Int) < 0) = false := decide_eq_false (by omega)
        go_wp2_with (first | (go_at_call 55; refine (HP.out.mono ?_); rintro e w1 ⟨rfl, hB1⟩; have HB1 := Lib.hid (hB.out.trans (hB1.mono hB.out.size)); clear hB1) | fail)
        have hwk : wrap64 ((m : Int) + 1) = ((m + 1 : Nat) : Int) := by rw [Int.natCast_add]; exact wrap64_in _ ⟨by have := hltH.out; omega, by have := hltH.out; omega⟩
        rw [hwk]
        refine ⟨⟨m + 1, rfl, ⟨Nat.le_add_left _ _, Nat.succ_le_succ hltH.out⟩, fun i h1 h2 => ?_, HB1.out⟩, ?_⟩
        · rcases Nat.lt_succ_iff_lt_or_eq.1 h2 with h | h
          · exact hn.out i h1 h
          · rw [h]; exact hk0.out
        · have := hltH.out
          simp [intOf]
          omega
    · have d1 : decide (m ≤ 64) = false := decide_eq_false hlt
      have d2 : decide ((m : Int) ≤ 64) = false := decide_eq_false (by omega)
      have hJ := Lib.hid (freeP_none (L := L) (fun i h1 h2 => hn.out i h1 (by omega)))
      clear hlt
      go_wp2_with fail
      go_ret2
      rw [hJ.out]
      exact ⟨rfl, hB.out⟩
set_option maxRecDepth 100000 in
set_option maxHeartbeats 1600000 in
theorem rsame_any (w : World) (v v' : Value) (L : List Ses) (h : TabAt w v L) (h' : TabAt w v' L) :
    Calls Tryd.prog 35 #[v, v'] w fun e w' => e = .returned (.bool true) ∧ Below w.heap.size w w' := by
  have HT := Lib.hid h
  have HT' := Lib.hid h'
  obtain ⟨A, c, rfl, hc1, hm, _⟩ := h
  obtain ⟨A', c', rfl, hc1', _, _⟩ := h'
  have H63 : Hid (L.length ≤ 9223372036854775807) := Nat.le_trans hc1 hm
  clear hc1 hc1' hm
  have d0 : ((L.length : Int) != (L.length : Int)) = false := bne_self_eq_false _
  go_enter Tryd.func35, Tryd.ntmps35
  go_wp2_with fail
  go_loopw [5] (fun i wr => ∃ k : Nat, k ≤ L.length ∧ i = .int .i64 k ∧ Hid (Below w.heap.size w wr)) (fun i _ => L.length - (intOf i).toNat)
  case atStart => exact ⟨0, Nat.zero_le _, rfl, Below.refl _ _⟩
  case round =>
    obtain ⟨k, hk, rfl, hB⟩ := hrel
    by_cases hkl : k < L.length
    · have d1 : decide (k < L.length) = true := decide_eq_true hkl
      have hk0 : (0 : Int) ≤ (k : Int) := by omega
      have hk1 : (k : Int) < (L.length : Int) := by omega
      obtain ⟨s, hs⟩ : ∃ s, L[k]? = some s := ⟨_, List.getElem?_eq_getElem hkl⟩
      have hT2 := HT.out.below hB.out (Nat.le_refl _)
      have hT2' := HT'.out.below hB.out (Nat.le_refl _)
      obtain ⟨A0, c0, e0, _, _, h3⟩ := hT2
      obtain ⟨A0', c0', e0', _, _, h3'⟩ := hT2'
      cases e0
      cases e0'
      obtain ⟨b, o, rfl, hbb, hcells⟩ := h3 (by omega)
      obtain ⟨b', o', rfl, hbb', hcells'⟩ := h3' (by omega)
      obtain ⟨p0, p1, p2, p3, p4, p5, p6⟩ := tab_cells (fun j u hj => hcells j u hj) hs
      obtain ⟨q0, q1, q2, q3, q4, q5, q6⟩ := tab_cells (fun j u hj => hcells' j u hj) hs
      have hklH := Lib.hid hkl
      clear hcells hcells' hs h3 h3' hkl
      obtain ⟨s0, s1, s2, s3, s4, s5, s6⟩ := s
      dsimp only at p0 p1 p2 p3 p4 p5 p6 q0 q1 q2 q3 q4 q5 q6
      go_wp2_with fail
      go_quiet (fail)
      have hB2 : Hid (Below w.heap.size w (wr.drewN nq)) := below_drewN2 hB.out nq
      clear p0 p1 p2 p3 p4 p5 p6 q0 q1 q2 q3 q4 q5 q6 hB
      generalize wr.drewN nq = w2 at hB2 ⊢
      go_wp2_with fail
      have hwk : wrap64 ((k : Int) + 1) = ((k + 1 : Nat) : Int) := by rw [Int.natCast_add]; exact wrap64_in _ ⟨by omega, by have := hklH.out; have := H63.out; omega⟩
      rw [hwk]
      exact ⟨⟨k + 1, hklH.out, rfl, hB2⟩, by have := hklH.out; simp [intOf]; omega⟩
    · obtain rfl : k = L.length := by omega
      have d1 : decide (L.length < L.length) = false := decide_eq_false (Nat.lt_irrefl _)
      go_wp2_with fail
      go_ret
      exact ⟨rfl, hB.out⟩
end Go.Proofs.YtbhagfdkipgggaaDoor
