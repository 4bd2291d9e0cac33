/-
  Layer 24 (sector): SectorMixed, the walk.
-/
import Derived.Test.YtcifkahmeimniabDoorSecL6
import Derived.Deep.RegionLaw
import Derived.Deep.AppendLies
namespace Go.Proofs.YtcifkahmeimniabDoor
open Go.RowKit Go.Shelf
attribute [local go_sem] Oper.semAt_some
section
variable {W : World}
set_option maxRecDepth 100000 in
set_option maxHeartbeats 4000000 in
theorem l24mixed_in (a b : Int) (x y : ByteArray) {v : Value} {cs : List Int} (hv : IntsAt W v cs) (hx : x.size ≤ 2000) (hy : y.size ≤ 2000) (hcs : cs.length ≤ 60) (hab : a ≠ b) (l m : List ByteArray) (h1 : packE a x = (l, 0)) (h2 : packE b y = (m, 0)) :
    Calls Tryd.prog 8 #[.int .i64 a, .string x, .int .i64 b, .string y, v] W fun e w' => e = .returned (.bool true) ∧ Below W.heap.size W w' := by
  obtain ⟨i0, hi, hz0, hz1, hz2⟩ := info_parts infoString
  have HP := fun w => Lib.hid (pack_any w a x)
  have HQ := fun w => Lib.hid (pack_any w b y)
  rw [h1] at HP
  rw [h2] at HQ
  dsimp only at HP HQ
  have hl0 : 0 < l.length ∧ l.length ≤ 46 := by
    obtain ⟨_, _, _, rfl⟩ := packE_ok h1
    have := count_pos x.size
    have : countN x.size ≤ 46 := by unfold countN; omega
    simp; omega
  have hm0 : 0 < m.length ∧ m.length ≤ 46 := by
    obtain ⟨_, _, _, rfl⟩ := packE_ok h2
    have := count_pos y.size
    have : countN y.size ≤ 46 := by unfold countN; omega
    simp; omega
  have ho1 := fun i => (orZ_pack h1 i).1
  have ho2 := fun i => (orZ_pack h2 i).1
  have Ho1 := Lib.hid ho1
  have Ho2 := Lib.hid ho2
  have hpl := mixed_plain h1 h2 hab cs (max l.length m.length)
  have Hpl := Lib.hid hpl
  obtain ⟨Ac, cc, rfl, hcc, hcm, hcat⟩ := hv
  have Hcat := Lib.hid hcat
  have d1 : decide (2000 < (x.size : Int)) = false := decide_eq_false (by omega)
  have d2 : decide (2000 < (y.size : Int)) = false := decide_eq_false (by omega)
  have d3 : decide (60 < cs.length) = false := decide_eq_false (by omega)
  have d4 : (a == b) = false := beq_f hab
  obtain ⟨N, hN⟩ : ∃ N, max l.length m.length = N := ⟨_, rfl⟩
  rw [hN] at Hpl
  have hN46 : N ≤ 46 := by omega
  have HN := Lib.hid hN
  clear ho1 ho2 hpl hcat hab h1 h2 hN hx hy
  go_enter Tryd.func8, Tryd.ntmps8
  go_wp2_with (first
    | (go_at_call_of 10 x; refine (HP _).out.mono ?_; rintro e w1 ⟨v1, rfl, hT1⟩; have hB1 := hT1.2.2; have hS1 := strsAt_of_row hT1.1; obtain ⟨A1, c1, rfl⟩ := hS1.form; clear hT1 HP)
    | (go_at_call_of 10 y; refine (HQ _).out.mono ?_; rintro e w2 ⟨v2, rfl, hT2⟩; have hB2 := hT2.2.2; have hS2 := strsAt_of_row hT2.1; obtain ⟨A2, c2, rfl⟩ := hS2.form; clear hT2 HQ))
  have hS1' := hS1.below hB2 (Nat.le_refl _)
  obtain ⟨_, _, e1, hlc1, hcm1, hat1⟩ := hS1'
  cases e1
  obtain ⟨b1, o1, rfl, hb1, hc1⟩ := hat1 hl0.1
  obtain ⟨_, _, e2, hlc2, hcm2, hat2⟩ := hS2
  cases e2
  obtain ⟨b2, o2, rfl, hb2, hc2⟩ := hat2 hm0.1
  have Hc1 := Lib.hid hc1
  have Hc2 := Lib.hid hc2
  have H1 := Lib.hid hlc1
  have H2 := Lib.hid hlc2
  have H3 := Lib.hid hcc
  clear hat1 hat2 hc1 hc2 hS1 hlc1 hlc2 hcc
  go_loopw [15, 16] (fun sv i wr => ∃ (k : Nat), k ≤ N ∧ i = .int .i64 k ∧ Below w2.heap.size w2 wr ∧ wr.ownsRow w2.heap.size 9 1 sv k (strCells ((List.range k).map (mixB l m cs)))) (fun _ i _ => N - (intOf i).toNat)
  case atStart => exact ⟨0, Nat.zero_le _, rfl, Below.refl _ _, World.ownsRow_nil _ _ _ _⟩
  case round =>
    obtain ⟨k, hk, rfl, hB, hrow⟩ := hrel
    have Hrow := Lib.hid hrow
    clear hrow
    have hbs := hB.size
    by_cases hkN : k < N
    · have hmk : ∀ w, (Instr.makeSlice 42 (.int .i64 64) (.int .i64 64)).run Tryd.prog w = .ok (.slice (some ⟨World.heap w |>.size, 0, none⟩) 64 64) (w.alloc (.cells (Array.replicate 64 (Value.int .u8 0)) 5)) := fun w => make_zero 64 (by decide) w
      have hcva : ∀ w, (convert 42 9 (.slice (some ⟨World.heap w |>.size, 0, none⟩) 64 64)).run Tryd.prog (w.alloc (.cells (Array.replicate 64 (Value.int .u8 0)) 5)) = .ok (.string zeroT) (w.alloc (.cells (Array.replicate 64 (Value.int .u8 0)) 5)) := fun w => zat_conv (zat_new 64 w)
      have hz64 := zeroT_size
      have hlm : (l.length < m.length ∧ k < m.length) ∨ (¬ l.length < m.length ∧ k < l.length) := by
        have := HN.out
        omega
      obtain ⟨S, hSe, hS⟩ : ∃ S, orZ l k = S ∧ ((k < l.length ∧ wr.cell? ⟨b1, o1 + k, none⟩ = some (.string S)) ∨ (¬ k < l.length ∧ S = zeroT)) := by
        refine ⟨_, rfl, ?_⟩
        by_cases h : k < l.length
        · refine .inl ⟨h, ?_⟩
          unfold orZ
          rw [List.getElem?_eq_getElem h]
          exact (hB.cell (p := ⟨b1, o1 + k, none⟩) hb1).trans (Hc1.out k _ (List.getElem?_eq_getElem h))
        · refine .inr ⟨h, ?_⟩
          unfold orZ
          rw [List.getElem?_eq_none (by omega)]
          rfl
      obtain ⟨T, hTe, hT⟩ : ∃ S, orZ m k = S ∧ ((k < m.length ∧ wr.cell? ⟨b2, o2 + k, none⟩ = some (.string S)) ∨ (¬ k < m.length ∧ S = zeroT)) := by
        refine ⟨_, rfl, ?_⟩
        by_cases h : k < m.length
        · refine .inl ⟨h, ?_⟩
          unfold orZ
          rw [List.getElem?_eq_getElem h]
          exact (hB.cell (p := ⟨b2, o2 + k, none⟩) hb2).trans (Hc2.out k _ (List.getElem?_eq_getElem h))
        · refine .inr ⟨h, ?_⟩
          unfold orZ
          rw [List.getElem?_eq_none (by omega)]
          rfl
      have hbw : Below W.heap.size W wr := (bel_trans hB1 hB2).trans (hB.mono (bel_trans hB1 hB2).size)
      obtain ⟨c, hce, hc64, hC⟩ : ∃ c, cutF cs k = c ∧ c ≤ 64 ∧ ((¬ k < cs.length ∧ c = 64) ∨ (k < cs.length ∧ ∃ z bc oc, Ac = some ⟨bc, oc, none⟩ ∧ wr.cell? ⟨bc, oc + k, none⟩ = some (.int .i64 z) ∧ bc < wr.heap.size ∧ max 0 (min 64 z) = (c : Int))) := by
        refine ⟨_, rfl, cutF_le cs k, ?_⟩
        by_cases h : k < cs.length
        · obtain ⟨bc, oc, hA, hbc, hcell⟩ := Hcat.out (by omega)
          refine .inr ⟨h, cs[k], bc, oc, hA, (hbw.cell (p := ⟨bc, oc + k, none⟩) hbc).trans (hcell k _ (List.getElem?_eq_getElem h)), by have := hbw.size; omega, ?_⟩
          unfold cutF
          rw [List.getElem?_eq_getElem h]
          dsimp only
          omega
        · refine .inl ⟨h, ?_⟩
          unfold cutF
          rw [List.getElem?_eq_none (by omega)]
      have hsS : S.size = 64 := hSe ▸ Ho1.out k
      have hsT : T.size = 64 := hTe ▸ Ho2.out k
      have hadd : ∀ w, (Op.stringOp .add (S.extract 0 c) (T.extract c 64)).run Tryd.prog w = .ok (.string (S.extract 0 c ++ T.extract c 64)) w := fun w => run_string_add_sum w _ _ (by rw [ByteArray.size_extract, ByteArray.size_extract]; omega)
      have hci : (c : Int) ≤ 64 := by omega
      have hmix : Hid (mixB l m cs k = S.extract 0 c ++ T.extract c 64) := by
        unfold Hid mixB
        rw [hSe, hTe, hce]
      have Hbw := Lib.hid hbw
      clear hSe hTe hce hbw Ho1 Ho2
      have hrA : Hid ((wr.alloc (.cells (Array.replicate 64 (Value.int .u8 0)) 5)).ownsRow w2.heap.size 9 1 u15 k (strCells ((List.range k).map (mixB l m cs)))) := Hrow.out.alloc _
      have hBA : Hid (Below w2.heap.size w2 (wr.alloc (.cells (Array.replicate 64 (Value.int .u8 0)) 5))) := hB.alloc hbs _
      have hbA : w2.heap.size ≤ (wr.alloc (.cells (Array.replicate 64 (Value.int .u8 0)) 5)).heap.size := by rw [World.size_alloc]; omega
      rcases hC with ⟨hc1, rfl⟩ | ⟨hc1, z, bc, oc, rfl, hcc, hbc, hzc⟩
      all_goals rcases hS with ⟨hS1, hS2⟩ | ⟨hS1, rfl⟩
      all_goals rcases hT with ⟨hT1, hT2⟩ | ⟨hT1, rfl⟩
      all_goals rcases hlm with ⟨hm1, hm2⟩ | ⟨hm1, hm2⟩
      all_goals try (exfalso; omega)
      all_goals have hmb : b1 < wr.heap.size := by omega
      all_goals have hmb2 : b2 < wr.heap.size := by omega
      all_goals go_wp2_with fail
      all_goals generalize (wr.alloc (.cells (Array.replicate 64 (Value.int .u8 0)) 5)) = wa at hrA hBA hbA ⊢
      all_goals clear hmk hcva
      all_goals go_region_law ((refine step_append_lies _ (by rfl) _ _ _ (by rfl) w2.heap.size 9 i0 _ 1 16 Tryd.underlying23 hi hz0 hz1 hz2 rfl (by omega) u15 k (strCells ((List.range k).map (mixB l m cs))) (by rfl) (hrA.out.alloc _) ⟨wa.heap.size, 0, none⟩ 1 1 [.string _] (by rfl) (by rfl) (fun j u hu => World.news_of_block (heap_alloc_new wa.drew _) j u hu) (by simp [Value.oneCell']) (by omega) (by unfold maxLen; omega) (by omega) (by simp; omega) (wa.heap.size + 1) (by simp) ?_; intro g cap w3 hown3 hgrow hat hlt3))
      all_goals
        have hrow4 : Hid (w3.ownsRow w2.heap.size 9 1 (.slice (some ⟨g, 0, none⟩) (k + 1) cap) (k + 1) (strCells ((List.range (k + 1)).map (mixB l m cs)))) := by
          unfold Hid
          rw [List.range_succ, List.map_append, List.map_cons, List.map_nil, strCells_snoc, hmix.out]
          first | exact hown3 | simpa using hown3
        have hB3 : Below w2.heap.size w2 w3 := ((hBA.out.drew).alloc hbA _).grown hgrow (by simp; omega) (fun g e => (hrA.out.lt g e).1)
        clear hown3 hgrow hat
        go_wp2_with fail
        go_roundw
        case rel => exact ⟨k + 1, by omega, by go_num, hB3, hrow4.out⟩
        case measure => simp [intOf]; omega
    · have hkN2 : k = N := by omega
      subst hkN2
      have hS := strsAt_of_row (l := (List.range k).map (mixB l m cs)) (by rw [List.length_map, List.length_range]; exact Hrow.out)
      obtain ⟨J, hJ⟩ : ∃ J, joinE ((List.range k).map (mixB l m cs)) = J := ⟨_, rfl⟩
      rw [hJ] at Hpl
      obtain ⟨jn, jt, ju, je⟩ := J
      dsimp only at Hpl
      have HJ := Lib.hid (join_at hS hJ)
      obtain ⟨jT, hjT⟩ : ∃ T : ByteArray, ⟨jt.toArray⟩ = T := ⟨_, rfl⟩
      rw [hjT] at HJ Hpl
      have hbw : Below W.heap.size W wr := (bel_trans hB1 hB2).trans (hB.mono (bel_trans hB1 hB2).size)
      have hlm : (l.length < m.length ∧ ¬ k < m.length) ∨ (¬ l.length < m.length ∧ ¬ k < l.length) := by
        have := HN.out
        omega
      clear hS hJ hjT
      have hres : (je ≠ 0) ∨ je = 0 ∧ (jn : Int) = a ∧ jT = x ∨ je = 0 ∧ (jn : Int) = b ∧ jT = y := by
        by_cases h : je = 0
        · rcases Hpl.out with h2 | h2 | h2
          · exact absurd h h2
          · exact .inr (.inl ⟨h, h2⟩)
          · exact .inr (.inr ⟨h, h2⟩)
        · exact .inl h
      have d5 : (b == a) = false := beq_f (fun h => by subst h; simp at d4)
      rcases hlm with ⟨hm1, hm2⟩ | ⟨hm1, hm2⟩
      all_goals rcases hres with h | ⟨rfl, h, rfl⟩ | ⟨rfl, h, rfl⟩
      all_goals try (have hje := bne_t h)
      all_goals
        go_wp2_with (first
          | (go_at_call 18; refine HJ.out.mono ?_; rintro e w4 ⟨rfl, hB4⟩)
          | (go_at_call 9; refine (sanity_true _).mono ?_; rintro e w5 ⟨rfl, hB5⟩))
        go_ret
        exact ⟨rfl, bel_trans (bel_trans hbw hB4) hB5⟩
end
end Go.Proofs.YtcifkahmeimniabDoor
