/-
  Layer 29 (session): the law of the table.
-/
import Derived.Test.YtbhagfdkipgggaaDoorSanW4
import Derived.Test.YtbhagfdkipgggaaDoorR29T3
namespace Go.Proofs.YtbhagfdkipgggaaDoor
open Go.RowKit Go.Shelf
attribute [local go_sem] Oper.semAt_some
/-- A row that is empty, but not nil. -/
theorem own_empty (w : World) (base : Nat) (hb : base ≤ w.heap.size) : (w.alloc (.cells #[] 32)).ownsRow base 32 7 (.slice (some ⟨w.heap.size, 0, none⟩) 0 0) 0 [] :=
  ⟨rfl, .inr ⟨w.heap.size, 0, #[], rfl, hb, heap_alloc_new w _, Nat.le_refl _, Nat.zero_le _, rfl, rfl⟩⟩
set_option maxRecDepth 100000 in
set_option maxHeartbeats 8000000 in
theorem law_table (w : World) (v : Value) (L : List Ses) (s : Ses) (id0 : Int) (hK : KAt w 1) (hT : TabAt w v L) (hs : s.key.size ≤ 400 → s.Fits) :
    Calls Tryd.prog 6 #[v, sesV s, .int .i64 id0] w fun e w' => e = .returned (.bool true) ∧ Below w.heap.size w w' := by
  have HSA : Hid (∀ wx, Below w.heap.size w wx → Calls Tryd.prog 10 #[] wx fun e w' => e = .returned (.bool true) ∧ Below wx.heap.size wx w') := fun wx hB => sanity_any wx (hK.below hB)
  by_cases hsm : L.length ≤ 70 ∧ s.key.size ≤ 400
  · have hfit := hs hsm.2
    have hN : L.length ≤ 1000 := by omega
    have HFI : Hid (∀ wx, Below w.heap.size w wx → Calls Tryd.prog 27 #[v, .int .i64 id0] wx fun e w' => e = .returned (.tuple #[sesV (findP L id0).1, .int .i64 ((findP L id0).2 : Nat)]) ∧ Below wx.heap.size wx w') := fun wx hB => find_any wx v L id0 (hT.below hB (Nat.le_refl _))
    have HRFI : Hid (∀ wx v2, TabAt wx v2 L → Calls Tryd.prog 28 #[v2, .int .i64 id0] wx fun e w' => e = .returned (.tuple #[sesV (findP L id0).1, .int .i64 ((findP L id0).2 : Nat)]) ∧ Below wx.heap.size wx w') := fun wx v2 h => rfind_any wx v2 L id0 h
    have HPU : Hid (∀ wx, Below w.heap.size w wx → Calls Tryd.prog 29 #[v, sesV s] wx fun e w' => ∃ v', e = .returned (.tuple #[v', .int .i64 ((putP L s).2 : Nat)]) ∧ TabAt w' v' (putP L s).1 ∧ Below wx.heap.size wx w') := fun wx hB => (tput_any wx v L s (hT.below hB (Nat.le_refl _)) hfit hN).mono fun e w' ⟨v', h1, h2, h3⟩ => ⟨v', h1, tabAt_of_row h2, h3⟩
    have HRPU : Hid (∀ wx v2, TabAt wx v2 L → Calls Tryd.prog 30 #[v2, sesV s] wx fun e w' => ∃ v', e = .returned (.tuple #[v', .int .i64 ((putP L s).2 : Nat)]) ∧ TabAt w' v' (putP L s).1 ∧ Below wx.heap.size wx w') := fun wx v2 h => (rput_any wx v2 L s h hfit hN).mono fun e w' ⟨v', h1, h2, h3⟩ => ⟨v', h1, tabAt_of_row h2, h3⟩
    have HRM : Hid (∀ wx, Below w.heap.size w wx → Calls Tryd.prog 31 #[v, .int .i64 id0] wx fun e w' => ∃ v', e = .returned (.tuple #[v', .int .i64 ((removeP L id0).2 : Nat)]) ∧ TabAt w' v' (removeP L id0).1 ∧ Below wx.heap.size wx w') := fun wx hB => (tremove_any wx v L id0 (hT.below hB (Nat.le_refl _)) hN).mono fun e w' ⟨v', h1, h2, h3⟩ => ⟨v', h1, tabAt_of_row h2, h3⟩
    have HRRM : Hid (∀ wx v2, TabAt wx v2 L → Calls Tryd.prog 32 #[v2, .int .i64 id0] wx fun e w' => ∃ v', e = .returned (.tuple #[v', .int .i64 ((removeP L id0).2 : Nat)]) ∧ TabAt w' v' (removeP L id0).1 ∧ Below wx.heap.size wx w') := fun wx v2 h => (rremove_any wx v2 L id0 h hN).mono fun e w' ⟨v', h1, h2, h3⟩ => ⟨v', h1, tabAt_of_row h2, h3⟩
    have HFR : Hid (∀ wx, Below w.heap.size w wx → Calls Tryd.prog 33 #[v] wx fun e w' => e = .returned (.tuple #[.int .i64 (freeP L).1, .int .i64 ((freeP L).2 : Nat)]) ∧ Below wx.heap.size wx w') := fun wx hB => tfree_any wx v L (hT.below hB (Nat.le_refl _))
    have HRFR : Hid (∀ wx v2, TabAt wx v2 L → Calls Tryd.prog 34 #[v2] wx fun e w' => e = .returned (.tuple #[.int .i64 (freeP L).1, .int .i64 ((freeP L).2 : Nat)]) ∧ Below wx.heap.size wx w') := fun wx v2 h => rfree_any wx v2 L h
    have dL : decide ((70 : Int) < (L.length : Int)) = false := decide_eq_false (by omega)
    have dK : decide ((400 : Int) < (s.key.size : Int)) = false := decide_eq_false (by omega)
    have HT := Lib.hid hT
    have hl1 : Hid ((tabC L).length = L.length * 7) := tabC_len L
    have hb1 : Hid (0 + L.length ≤ 1000000) := by unfold Hid; omega
    have hcell : Hid (∀ A c, v = .slice A L.length c → ∀ wx, TabAt wx v L → ∀ ad, A = some ad → ∀ j u, (tabC L)[j]? = some u → wx.cell? (ad.add j) = some u) := fun A c e wx h => by subst e; exact tab_cell L h
    have hnone : Hid (∀ A c, v = .slice A L.length c → A = none → L.length = 0) := fun A c e => by subst e; exact tab_none hT
    obtain ⟨A, c, hv, _, _, _⟩ := hT
    have hcell2 := Lib.hid (hcell.out A c hv)
    have hnone2 := Lib.hid (hnone.out A c hv)
    clear hs hK hfit hsm hN hcell hnone
    subst hv
    generalize findP L id0 = FI at *
    generalize putP L s = PU at *
    generalize removeP L id0 = RM at *
    generalize freeP L = FR at *
    obtain ⟨⟨f0, f1, f2, f3, f4, f5, f6⟩, fe⟩ := FI
    obtain ⟨PL, pe⟩ := PU
    obtain ⟨RL, re⟩ := RM
    obtain ⟨fn, fre⟩ := FR
    obtain ⟨id, role, side, key, sent, top, seen⟩ := s
    unfold sesV sesC at HFI HRFI HPU HRPU ⊢
    dsimp only at HFI HRFI HPU HRPU HRM HRRM HFR HRFR dK ⊢
    go_enter Tryd.func6, Tryd.ntmps6
    go_upto_region 4 with (first | (go_at_call 10; refine (HSA.out _ ((Below.refl w.heap.size w).alloc (Nat.le_refl _) _)).mono ?_; rintro e w1 ⟨rfl, hB⟩; have HS := Lib.hid ((Blk.new w 32 #[.int .i64 id, .int .i64 role, .int .i64 side, .string key, .int .i64 sent, .int .i64 top, .int .u64 (seen : Int)]).below hB (by rw [World.size_alloc]; exact Nat.lt_succ_self _)); have HB := Lib.hid (((Below.refl w.heap.size w).alloc (Nat.le_refl _) (.cells #[.int .i64 id, .int .i64 role, .int .i64 side, .string key, .int .i64 sent, .int .i64 top, .int .u64 (seen : Int)] 32)).trans (hB.mono (by rw [World.size_alloc]; exact Nat.le_succ _))); have c3 := HS.out.cell 3; clear hB) | fail)
    clear c3 HSA dL dK
    go_upto_region 5 with (first
      | (refine wp_gcat_any 55 32 (.agg #[.int .i64 0, .int .i64 0, .int .i64 0, .string ⟨#[]⟩, .int .i64 0, .int .i64 0, .int .u64 0]) 7 64 Tryd.underlying55 infoSes3 rfl (by decide) (by decide) rfl _ _ rfl w1.heap.size (.slice (some ⟨w1.heap.size, 0, none⟩) 0 0) 0 [] rfl (own_empty w1 _ (Nat.le_refl _)) A L.length c (tabC L) rfl hl1.out hnone2.out (hcell2.out _ (HT.out.below (HB.out.alloc HB.out.size _) (Nat.le_refl _))) (tabC_one _) hb1.out (by rw [World.size_alloc]; exact Nat.le_succ _) ?_; intro v2 wg hPg)
      | fail)
    try simp only [Act.put, List.setIfInBounds_toArray, List.set_cons_zero, List.set_cons_succ]
    have HG : Hid (TabAt wg v2 L) := by
      have h1 := hPg.row
      rw [Nat.zero_add, List.nil_append] at h1
      exact tabAt_of_row h1
    have HBg : Hid (Below w.heap.size w wg) := hPg.bel _ _ HB.out.size (by rw [World.size_alloc]; exact Nat.le_succ _) (HB.out.alloc HB.out.size _)
    have HSg : Hid (Blk wg w.heap.size 32 #[.int .i64 id, .int .i64 role, .int .i64 side, .string key, .int .i64 sent, .int .i64 top, .int .u64 (seen : Int)]) := (HS.out.alloc _).grown hPg.grown (fun e => absurd (Option.some.inj e) (Nat.ne_of_lt HS.out.lt))
    clear HS HB hPg
    have HS := HSg; have HB := HBg
    clear HSg HBg hl1 hb1 hcell2 hnone2
    go_upto_region 6 with (first | (go_at_call 27; refine (HFI.out _ HB.out).mono ?_; rintro e u2 ⟨rfl, hB⟩; have HSx := Lib.hid (HS.out.below hB HS.out.lt); have HGx := Lib.hid (HG.out.below hB (Nat.le_refl _)); have HBx := Lib.hid (HB.out.trans (hB.mono HB.out.size)); clear hB) | fail)
    refine world_is (P := fun W => Code.wp _ _ _ _ W) (fun W2 hW2 => ?_)
    have HSn : Hid (Blk W2 w.heap.size 32 #[.int .i64 id, .int .i64 role, .int .i64 side, .string key, .int .i64 sent, .int .i64 top, .int .u64 (seen : Int)]) := by unfold Hid; rw [← hW2]; exact HSx.out.alloc _
    have HGn : Hid (TabAt W2 v2 L) := by unfold Hid; rw [← hW2]; exact HGx.out.below ((Below.refl _ u2).alloc (Nat.le_refl _) _) (Nat.le_refl _)
    have HFn : Hid (Blk W2 u2.heap.size 32 #[.int .i64 f0, .int .i64 f1, .int .i64 f2, .string f3, .int .i64 f4, .int .i64 f5, .int .u64 (f6 : Int)]) := by unfold Hid; rw [← hW2]; exact Blk.new u2 _ _
    have HBn : Hid (Below w.heap.size w W2) := by unfold Hid; rw [← hW2]; exact HBx.out.alloc HBx.out.size _
    clear hW2 HB HBx HS HSx HG HGx
    obtain ⟨gHF, eg⟩ : ∃ g, u2.heap.size = g := ⟨_, rfl⟩
    rw [eg] at HFn ⊢
    clear eg
    have HS := HSn
    have HG := HGn
    have HF := HFn
    have HB := HBn
    clear HSn HGn HFn HBn
    go_upto_region 7 with (first | (go_at_call 28; refine (HRFI.out _ _ HG.out).mono ?_; rintro e u3 ⟨rfl, hB⟩; have HSx := Lib.hid (HS.out.below hB HS.out.lt); have HGx := Lib.hid (HG.out.below hB (Nat.le_refl _)); have HFx := Lib.hid (HF.out.below hB HF.out.lt); have HBx := Lib.hid (HB.out.trans (hB.mono HB.out.size)); clear hB) | fail)
    refine world_is (P := fun W => Code.wp _ _ _ _ W) (fun W3 hW3 => ?_)
    have HSn : Hid (Blk W3 w.heap.size 32 #[.int .i64 id, .int .i64 role, .int .i64 side, .string key, .int .i64 sent, .int .i64 top, .int .u64 (seen : Int)]) := by unfold Hid; rw [← hW3]; exact HSx.out.alloc _
    have HGn : Hid (TabAt W3 v2 L) := by unfold Hid; rw [← hW3]; exact HGx.out.below ((Below.refl _ u3).alloc (Nat.le_refl _) _) (Nat.le_refl _)
    have HFn : Hid (Blk W3 gHF 32 #[.int .i64 f0, .int .i64 f1, .int .i64 f2, .string f3, .int .i64 f4, .int .i64 f5, .int .u64 (f6 : Int)]) := by unfold Hid; rw [← hW3]; exact HFx.out.alloc _
    have HKn : Hid (Blk W3 u3.heap.size 32 #[.int .i64 f0, .int .i64 f1, .int .i64 f2, .string f3, .int .i64 f4, .int .i64 f5, .int .u64 (f6 : Int)]) := by unfold Hid; rw [← hW3]; exact Blk.new u3 _ _
    have HBn : Hid (Below w.heap.size w W3) := by unfold Hid; rw [← hW3]; exact HBx.out.alloc HBx.out.size _
    clear hW3 HB HBx HS HSx HG HGx HF HFx
    obtain ⟨gHK, eg⟩ : ∃ g, u3.heap.size = g := ⟨_, rfl⟩
    rw [eg] at HKn ⊢
    clear eg
    have HS := HSn
    have HG := HGn
    have HF := HFn
    have HK := HKn
    have HB := HBn
    clear HSn HGn HFn HKn HBn
    have c0 := HS.out.cell 0; have c1 := HS.out.cell 1; have c2 := HS.out.cell 2; have c3 := HS.out.cell 3; have c4 := HS.out.cell 4; have c5 := HS.out.cell 5; have c6 := HS.out.cell 6
    go_upto_region 8 with (first | (go_at_call 29; refine (HPU.out _ HB.out).mono ?_; rintro e u4 ⟨p1, rfl, hT, hB⟩; have HSx := Lib.hid (HS.out.below hB HS.out.lt); have HGx := Lib.hid (HG.out.below hB (Nat.le_refl _)); have HFx := Lib.hid (HF.out.below hB HF.out.lt); have HKx := Lib.hid (HK.out.below hB HK.out.lt); have HBx := Lib.hid (HB.out.trans (hB.mono HB.out.size)); have HPx := Lib.hid hT; clear hB) | fail)
    clear c0 c1 c2 c3 c4 c5 c6
    clear HB HS HG HF HK
    have HS := HSx
    have HG := HGx
    have HF := HFx
    have HK := HKx
    have HB := HBx
    have HP := HPx
    clear HSx HGx HFx HKx HBx HPx
    have c0 := HS.out.cell 0; have c1 := HS.out.cell 1; have c2 := HS.out.cell 2; have c3 := HS.out.cell 3; have c4 := HS.out.cell 4; have c5 := HS.out.cell 5; have c6 := HS.out.cell 6
    go_upto_region 9 with (first | (go_at_call 30; refine (HRPU.out _ _ HG.out).mono ?_; rintro e u5 ⟨p2, rfl, hT, hB⟩; have HSx := Lib.hid (HS.out.below hB HS.out.lt); have HGx := Lib.hid (HG.out.below hB (Nat.le_refl _)); have HFx := Lib.hid (HF.out.below hB HF.out.lt); have HKx := Lib.hid (HK.out.below hB HK.out.lt); have HPx := Lib.hid (HP.out.below hB (Nat.le_refl _)); have HBx := Lib.hid (HB.out.trans (hB.mono HB.out.size)); have HQx := Lib.hid hT; clear hB) | fail)
    clear c0 c1 c2 c3 c4 c5 c6
    clear HB HS HG HF HK HP
    have HS := HSx
    have HG := HGx
    have HF := HFx
    have HK := HKx
    have HP := HPx
    have HB := HBx
    have HQ := HQx
    clear HSx HGx HFx HKx HPx HBx HQx
    go_upto_region 10 with (first | (go_at_call 31; refine (HRM.out _ HB.out).mono ?_; rintro e u6 ⟨x1, rfl, hT, hB⟩; have HSx := Lib.hid (HS.out.below hB HS.out.lt); have HGx := Lib.hid (HG.out.below hB (Nat.le_refl _)); have HFx := Lib.hid (HF.out.below hB HF.out.lt); have HKx := Lib.hid (HK.out.below hB HK.out.lt); have HPx := Lib.hid (HP.out.below hB (Nat.le_refl _)); have HQx := Lib.hid (HQ.out.below hB (Nat.le_refl _)); have HBx := Lib.hid (HB.out.trans (hB.mono HB.out.size)); have HXx := Lib.hid hT; clear hB) | fail)
    clear HB HS HG HF HK HP HQ
    have HS := HSx
    have HG := HGx
    have HF := HFx
    have HK := HKx
    have HP := HPx
    have HQ := HQx
    have HB := HBx
    have HX := HXx
    clear HSx HGx HFx HKx HPx HQx HBx HXx
    go_upto_region 11 with (first | (go_at_call 32; refine (HRRM.out _ _ HG.out).mono ?_; rintro e u7 ⟨x2, rfl, hT, hB⟩; have HSx := Lib.hid (HS.out.below hB HS.out.lt); have HGx := Lib.hid (HG.out.below hB (Nat.le_refl _)); have HFx := Lib.hid (HF.out.below hB HF.out.lt); have HKx := Lib.hid (HK.out.below hB HK.out.lt); have HPx := Lib.hid (HP.out.below hB (Nat.le_refl _)); have HQx := Lib.hid (HQ.out.below hB (Nat.le_refl _)); have HXx := Lib.hid (HX.out.below hB (Nat.le_refl _)); have HBx := Lib.hid (HB.out.trans (hB.mono HB.out.size)); have HYx := Lib.hid hT; clear hB) | fail)
    clear HB HS HG HF HK HP HQ HX
    have HS := HSx
    have HG := HGx
    have HF := HFx
    have HK := HKx
    have HP := HPx
    have HQ := HQx
    have HX := HXx
    have HB := HBx
    have HY := HYx
    clear HSx HGx HFx HKx HPx HQx HXx HBx HYx
    go_upto_region 12 with (first | (go_at_call 33; refine (HFR.out _ HB.out).mono ?_; rintro e u8 ⟨rfl, hB⟩; have HSx := Lib.hid (HS.out.below hB HS.out.lt); have HGx := Lib.hid (HG.out.below hB (Nat.le_refl _)); have HFx := Lib.hid (HF.out.below hB HF.out.lt); have HKx := Lib.hid (HK.out.below hB HK.out.lt); have HPx := Lib.hid (HP.out.below hB (Nat.le_refl _)); have HQx := Lib.hid (HQ.out.below hB (Nat.le_refl _)); have HXx := Lib.hid (HX.out.below hB (Nat.le_refl _)); have HYx := Lib.hid (HY.out.below hB (Nat.le_refl _)); have HBx := Lib.hid (HB.out.trans (hB.mono HB.out.size)); clear hB) | fail)
    clear HB HS HG HF HK HP HQ HX HY
    have HS := HSx
    have HG := HGx
    have HF := HFx
    have HK := HKx
    have HP := HPx
    have HQ := HQx
    have HX := HXx
    have HY := HYx
    have HB := HBx
    clear HSx HGx HFx HKx HPx HQx HXx HYx HBx
    go_upto_region 13 with (first | (go_at_call 34; refine (HRFR.out _ _ HG.out).mono ?_; rintro e u9 ⟨rfl, hB⟩; have HSx := Lib.hid (HS.out.below hB HS.out.lt); have HGx := Lib.hid (HG.out.below hB (Nat.le_refl _)); have HFx := Lib.hid (HF.out.below hB HF.out.lt); have HKx := Lib.hid (HK.out.below hB HK.out.lt); have HPx := Lib.hid (HP.out.below hB (Nat.le_refl _)); have HQx := Lib.hid (HQ.out.below hB (Nat.le_refl _)); have HXx := Lib.hid (HX.out.below hB (Nat.le_refl _)); have HYx := Lib.hid (HY.out.below hB (Nat.le_refl _)); have HBx := Lib.hid (HB.out.trans (hB.mono HB.out.size)); clear hB) | fail)
    clear HB HS HG HF HK HP HQ HX HY
    have HS := HSx
    have HG := HGx
    have HF := HFx
    have HK := HKx
    have HP := HPx
    have HQ := HQx
    have HX := HXx
    have HY := HYx
    have HB := HBx
    clear HSx HGx HFx HKx HPx HQx HXx HYx HBx
    go_upto_region 14 with (first | (go_at_call 35; refine ((rsame_any _ _ _ _ HP.out HQ.out)).mono ?_; rintro e u10 ⟨rfl, hB⟩; have HSx := Lib.hid (HS.out.below hB HS.out.lt); have HGx := Lib.hid (HG.out.below hB (Nat.le_refl _)); have HFx := Lib.hid (HF.out.below hB HF.out.lt); have HKx := Lib.hid (HK.out.below hB HK.out.lt); have HPx := Lib.hid (HP.out.below hB (Nat.le_refl _)); have HQx := Lib.hid (HQ.out.below hB (Nat.le_refl _)); have HXx := Lib.hid (HX.out.below hB (Nat.le_refl _)); have HYx := Lib.hid (HY.out.below hB (Nat.le_refl _)); have HBx := Lib.hid (HB.out.trans (hB.mono HB.out.size)); clear hB) | fail)
    clear HB HS HG HF HK HP HQ HX HY
    have HS := HSx
    have HG := HGx
    have HF := HFx
    have HK := HKx
    have HP := HPx
    have HQ := HQx
    have HX := HXx
    have HY := HYx
    have HB := HBx
    clear HSx HGx HFx HKx HPx HQx HXx HYx HBx
    go_upto_region 15 with (first | (go_at_call 35; refine ((rsame_any _ _ _ _ HX.out HY.out)).mono ?_; rintro e u11 ⟨rfl, hB⟩; have HSx := Lib.hid (HS.out.below hB HS.out.lt); have HGx := Lib.hid (HG.out.below hB (Nat.le_refl _)); have HFx := Lib.hid (HF.out.below hB HF.out.lt); have HKx := Lib.hid (HK.out.below hB HK.out.lt); have HPx := Lib.hid (HP.out.below hB (Nat.le_refl _)); have HQx := Lib.hid (HQ.out.below hB (Nat.le_refl _)); have HXx := Lib.hid (HX.out.below hB (Nat.le_refl _)); have HYx := Lib.hid (HY.out.below hB (Nat.le_refl _)); have HBx := Lib.hid (HB.out.trans (hB.mono HB.out.size)); clear hB) | fail)
    clear HB HS HG HF HK HP HQ HX HY
    have HS := HSx
    have HG := HGx
    have HF := HFx
    have HK := HKx
    have HP := HPx
    have HQ := HQx
    have HX := HXx
    have HY := HYx
    have HB := HBx
    clear HSx HGx HFx HKx HPx HQx HXx HYx HBx
    go_upto_region 16 with (first | (go_at_call 35; refine ((rsame_any _ _ _ _ (HT.out.below HB.out (Nat.le_refl _)) HG.out)).mono ?_; rintro e u12 ⟨rfl, hB⟩; have HSx := Lib.hid (HS.out.below hB HS.out.lt); have HGx := Lib.hid (HG.out.below hB (Nat.le_refl _)); have HFx := Lib.hid (HF.out.below hB HF.out.lt); have HKx := Lib.hid (HK.out.below hB HK.out.lt); have HPx := Lib.hid (HP.out.below hB (Nat.le_refl _)); have HQx := Lib.hid (HQ.out.below hB (Nat.le_refl _)); have HXx := Lib.hid (HX.out.below hB (Nat.le_refl _)); have HYx := Lib.hid (HY.out.below hB (Nat.le_refl _)); have HBx := Lib.hid (HB.out.trans (hB.mono HB.out.size)); clear hB) | fail)
    clear HB HS HG HF HK HP HQ HX HY
    have HS := HSx
    have HG := HGx
    have HF := HFx
    have HK := HKx
    have HP := HPx
    have HQ := HQx
    have HX := HXx
    have HY := HYx
    have HB := HBx
    clear HSx HGx HFx HKx HPx HQx HXx HYx HBx
    have d0 := HF.out.cell 0; have d1 := HF.out.cell 1; have d2 := HF.out.cell 2; have d3 := HF.out.cell 3; have d4 := HF.out.cell 4; have d5 := HF.out.cell 5; have d6 := HF.out.cell 6
    have e0 := HK.out.cell 0; have e1 := HK.out.cell 1; have e2 := HK.out.cell 2; have e3 := HK.out.cell 3; have e4 := HK.out.cell 4; have e5 := HK.out.cell 5; have e6 := HK.out.cell 6
    go_wp2_with fail
    go_ret
    exact ⟨rfl, HB.out⟩
  · have dd : (decide ((70 : Int) < (L.length : Int)) = true) ∨ (decide ((70 : Int) < (L.length : Int)) = false ∧ decide ((400 : Int) < (s.key.size : Int)) = true) := by
      by_cases h : L.length ≤ 70
      · exact .inr ⟨decide_eq_false (by omega), decide_eq_true (by omega)⟩
      · exact .inl (decide_eq_true (by omega))
    obtain ⟨A, c, rfl, _, _, _⟩ := hT
    clear hs hK hsm
    obtain ⟨id, role, side, key, sent, top, seen⟩ := s
    unfold sesV sesC
    dsimp only at dd ⊢
    rcases dd with dL | ⟨dL, dK⟩
    · go_enter Tryd.func6, Tryd.ntmps6
      go_wp2_with (first | (go_at_call 10; refine (HSA.out _ ((Below.refl w.heap.size w).alloc (Nat.le_refl _) _)).mono ?_; rintro e w1 ⟨rfl, hB⟩; have HS := Lib.hid ((Blk.new w 32 #[.int .i64 id, .int .i64 role, .int .i64 side, .string key, .int .i64 sent, .int .i64 top, .int .u64 (seen : Int)]).below hB (by rw [World.size_alloc]; exact Nat.lt_succ_self _)); have HB := Lib.hid (((Below.refl w.heap.size w).alloc (Nat.le_refl _) (.cells #[.int .i64 id, .int .i64 role, .int .i64 side, .string key, .int .i64 sent, .int .i64 top, .int .u64 (seen : Int)] 32)).trans (hB.mono (by rw [World.size_alloc]; exact Nat.le_succ _))); have c3 := HS.out.cell 3; clear hB) | fail)
      go_ret
      exact ⟨rfl, HB.out⟩
    · go_enter Tryd.func6, Tryd.ntmps6
      go_wp2_with (first | (go_at_call 10; refine (HSA.out _ ((Below.refl w.heap.size w).alloc (Nat.le_refl _) _)).mono ?_; rintro e w1 ⟨rfl, hB⟩; have HS := Lib.hid ((Blk.new w 32 #[.int .i64 id, .int .i64 role, .int .i64 side, .string key, .int .i64 sent, .int .i64 top, .int .u64 (seen : Int)]).below hB (by rw [World.size_alloc]; exact Nat.lt_succ_self _)); have HB := Lib.hid (((Below.refl w.heap.size w).alloc (Nat.le_refl _) (.cells #[.int .i64 id, .int .i64 role, .int .i64 side, .string key, .int .i64 sent, .int .i64 top, .int .u64 (seen : Int)] 32)).trans (hB.mono (by rw [World.size_alloc]; exact Nat.le_succ _))); have c3 := HS.out.cell 3; clear hB) | fail)
      go_ret
      exact ⟨rfl, HB.out⟩
end Go.Proofs.YtbhagfdkipgggaaDoor
