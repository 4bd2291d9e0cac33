/-
  Layer 29 (session), the specification: Put.
-/
import Derived.Test.YtbhagfdkipgggaaDoorR29T2
namespace Go.Proofs.YtbhagfdkipgggaaDoor
open Go.RowKit Go.Shelf
attribute [local go_sem] Oper.semAt_some
theorem spot_low {L : List Ses} {id : Int} {j : Nat} {t : Ses} (hj : j < spotP L id) (ht : L[j]? = some t) : t.id ≤ id := by
  unfold spotP at hj
  cases h : L.findIdx? (overId id) with
  | none =>
    have := List.findIdx?_eq_none_iff.1 h t (List.mem_of_getElem? ht)
    unfold overId at this
    have := of_decide_eq_false this
    omega
  | some i =>
    rw [h] at hj
    obtain ⟨hi, hp, hn⟩ := List.findIdx?_eq_some_iff_getElem.1 h
    have h2 := hn j hj
    obtain ⟨_, e⟩ := List.getElem?_eq_some_iff.1 ht
    rw [e] at h2
    unfold overId at h2
    simp at h2
    omega
theorem spot_over {L : List Ses} {id : Int} {t : Ses} (ht : L[spotP L id]? = some t) : id < t.id := by
  unfold spotP at ht
  cases h : L.findIdx? (overId id) with
  | none =>
    rw [h] at ht
    have := (List.getElem?_eq_some_iff.1 ht).1
    dsimp only at this
    omega
  | some i =>
    rw [h] at ht
    obtain ⟨hi, hp, hn⟩ := List.findIdx?_eq_some_iff_getElem.1 h
    dsimp only at ht
    obtain ⟨_, e⟩ := List.getElem?_eq_some_iff.1 ht
    rw [e] at hp
    unfold overId at hp
    exact of_decide_eq_true hp
theorem sesC_ones (s : Ses) : ∀ u ∈ sesC s, u.oneCell' = true := sesC_one s
set_option maxRecDepth 100000 in
set_option maxHeartbeats 4000000 in
theorem rput_any (w : World) (v : Value) (L : List Ses) (s : Ses) (hT : TabAt w v L) (hs : s.Fits) (hN : L.length ≤ 1000) :
    Calls Tryd.prog 30 #[v, sesV s] w fun e w' => ∃ v', e = .returned (.tuple #[v', .int .i64 ((putP L s).2 : Nat)]) ∧ w'.ownsRow w.heap.size 32 7 v' (putP L s).1.length (tabC (putP L s).1) ∧ Below w.heap.size w w' := by
  have HPL : Hid (∀ wx, Below w.heap.size w wx → Calls Tryd.prog 55 #[v, .int .i64 s.id] wx fun e w' => e = .returned (.int .i64 (idxI (hasId s.id) L)) ∧ Below wx.heap.size wx w') := fun wx hB => rplace_any wx v L s.id (hT.below hB (Nat.le_refl _))
  have HV : Hid (∀ wx, Calls Tryd.prog 22 #[sesV s] wx fun e w' => e = .returned (.bool (validP s)) ∧ Below wx.heap.size wx w') := fun wx => rvalid_any wx s hs
  obtain ⟨A, c, rfl, hlc, hcm, h4⟩ := hT
  have HT : Hid (TabAt w (.slice A L.length c) L) := ⟨A, c, rfl, hlc, hcm, h4⟩
  have HL := Lib.hid hlc
  clear h4 hcm hs
  by_cases hv : validP s = true
  · rw [hv] at HV
    rcases idx_cases (hasId s.id) L with ⟨hf, hi⟩ | ⟨k, x, hf, hi, hk, _⟩
    · rw [hi] at HPL
      by_cases h64 : 64 ≤ L.length
      · have hJ : putP L s = ([], 15) := by unfold putP; rw [if_pos hv, hf]; dsimp only; rw [if_pos h64]
        rw [hJ]
        clear hJ hf hi hv HT hlc
        have q64 : decide ((64 : Int) ≤ (L.length : Int)) = true := decide_eq_true (by omega)
        obtain ⟨id, role, side, key, sent, top, seen⟩ := s
        unfold sesV sesC at HV ⊢
        dsimp only at HV HPL ⊢
        go_enter Tryd.func30, Tryd.ntmps30
        go_upto_region 1 with fail
        refine world_is (P := fun W => Code.wp _ _ _ _ W) (fun Wa hWa => ?_)
        have HX0 : Hid (Blk Wa w.heap.size 32 #[.int .i64 id, .int .i64 role, .int .i64 side, .string key, .int .i64 sent, .int .i64 top, .int .u64 (seen : Int)]) := by unfold Hid; rw [← hWa]; exact Blk.new w _ _
        have HB0 : Hid (Below w.heap.size w Wa) := by unfold Hid; rw [← hWa]; exact (Below.refl w.heap.size w).alloc (Nat.le_refl _) _
        have HZw : Hid (w.heap.size ≤ Wa.heap.size) := HB0.out.size
        clear hWa
        have c0 := HX0.out.cell 0; have c1 := HX0.out.cell 1; have c2 := HX0.out.cell 2; have c3 := HX0.out.cell 3; have c4 := HX0.out.cell 4; have c5 := HX0.out.cell 5; have c6 := HX0.out.cell 6
        go_wp2_with (first | (go_at_call 55; refine ((HPL.out _ HB1.out).mono ?_); rintro e w2 ⟨rfl, hB⟩; have HX2 := Lib.hid (HX1.out.below hB HX1.out.lt); have HB2 := Lib.hid (HB1.out.trans (hB.mono HB1.out.size)); have hz2 : Hid (Wa.heap.size ≤ w2.heap.size) := Nat.le_trans hz1.out hB.size; clear hB) | (go_at_call 22; refine ((HV.out _).mono ?_); rintro e w1 ⟨rfl, hB⟩; have HX1 := Lib.hid (HX0.out.below hB HX0.out.lt); have HB1 := Lib.hid (HB0.out.trans (hB.mono HB0.out.size)); have hz1 : Hid (Wa.heap.size ≤ w1.heap.size) := hB.size; clear hB; have d0 := HX1.out.cell 0) | fail)
        go_ret2
        exact ⟨_, rfl, World.ownsRow_nil _ _ _ _, HB2.out⟩
      · obtain ⟨at_, hat⟩ : ∃ at_, spotP L s.id = at_ := ⟨_, rfl⟩
        have hatl : at_ ≤ L.length := by rw [← hat]; exact spotP_le L s.id
        have hJ : putP L s = (L.take at_ ++ s :: L.drop at_, 0) := by unfold putP; rw [if_pos hv, hf]; dsimp only; rw [if_neg h64, hat]
        rw [hJ]
        dsimp only
        have hlow : Hid (∀ j t, j < at_ → L[j]? = some t → t.id ≤ s.id) := fun j t hj ht => spot_low (by rw [hat]; exact hj) ht
        have hover : Hid (∀ t, L[at_]? = some t → s.id < t.id) := fun t ht => spot_over (by rw [hat]; exact ht)
        have q64 : decide ((64 : Int) ≤ (L.length : Int)) = false := decide_eq_false (by omega)
        have hl1 : Hid ((tabC (L.take at_)).length = at_ * 7) := by unfold Hid; rw [tabC_len, List.length_take, Nat.min_eq_left hatl]
        have hl2 : Hid ((tabC (L.drop at_)).length = (L.length - at_) * 7) := by unfold Hid; rw [tabC_len, List.length_drop]
        have hb1 : Hid (0 + at_ ≤ 1000000) := by unfold Hid; omega
        have hb3 : Hid (0 + at_ + 1 ≤ 1000000) := by unfold Hid; omega
        have hb2 : Hid (0 + at_ + 1 + (L.length - at_) ≤ 1000000) := by unfold Hid; omega
        have r1 := fun wx => tab_to A L.length c at_ (by omega) wx
        obtain ⟨A2, hA2⟩ : ∃ A2, (if c = at_ then A else A.map (·.add (at_ * 7))) = A2 := ⟨_, rfl⟩
        have r2 : ∀ wx, (Instr.slice 55 (.slice A L.length c) (some (.int .i64 (at_ : Int))) none none).run Tryd.prog wx = .ok (.slice A2 (L.length - at_) (c - at_)) wx := fun wx => by
          have h := tab_from A L.length c at_ hatl hlc wx
          rw [hA2] at h
          exact h
        have HD : Hid (∀ wx, TabAt wx (.slice A L.length c) L → ∀ ad, A2 = some ad → ∀ j u, (tabC (L.drop at_))[j]? = some u → wx.cell? (ad.add j) = some u) := fun wx h ad e => tab_drop_cell L at_ hlc h ad (hA2.trans e)
        have hA0 : Hid (A = none → at_ = 0) := fun e => by have := tab_none HT.out e; omega
        have hAA : Hid (A2 = none → L.length - at_ = 0) := fun e => by
          rw [← hA2] at e
          split at e
          · have := tab_none HT.out e; omega
          · have := tab_none HT.out (Option.map_eq_none_iff.1 e); omega
        have hone : Hid (∀ u ∈ (sesC s).toArray.toList, u.oneCell' = true) := sesC_ones s
        have hatH := Lib.hid hatl
        have h64H : Hid (L.length ≤ 64) := by unfold Hid; omega
        clear hJ hf hi hv hat hA2 hatl hlc h64
        obtain ⟨id, role, side, key, sent, top, seen⟩ := s
        unfold sesV sesC at HV
        unfold sesC at hone
        unfold sesV
        dsimp only at HV HPL hone hlow hover ⊢
        go_enter Tryd.func30, Tryd.ntmps30
        go_upto_region 1 with fail
        refine world_is (P := fun W => Code.wp _ _ _ _ W) (fun Wa hWa => ?_)
        have HX0 : Hid (Blk Wa w.heap.size 32 #[.int .i64 id, .int .i64 role, .int .i64 side, .string key, .int .i64 sent, .int .i64 top, .int .u64 (seen : Int)]) := by unfold Hid; rw [← hWa]; exact Blk.new w _ _
        have HB0 : Hid (Below w.heap.size w Wa) := by unfold Hid; rw [← hWa]; exact (Below.refl w.heap.size w).alloc (Nat.le_refl _) _
        have HZw : Hid (w.heap.size ≤ Wa.heap.size) := HB0.out.size
        clear hWa
        have c0 := HX0.out.cell 0; have c1 := HX0.out.cell 1; have c2 := HX0.out.cell 2; have c3 := HX0.out.cell 3; have c4 := HX0.out.cell 4; have c5 := HX0.out.cell 5; have c6 := HX0.out.cell 6
        go_upto_region 13 with (first | (go_at_call 55; refine ((HPL.out _ HB1.out).mono ?_); rintro e w2 ⟨rfl, hB⟩; have HX2 := Lib.hid (HX1.out.below hB HX1.out.lt); have HB2 := Lib.hid (HB1.out.trans (hB.mono HB1.out.size)); have hz2 : Hid (Wa.heap.size ≤ w2.heap.size) := Nat.le_trans hz1.out hB.size; clear hB) | (go_at_call 22; refine ((HV.out _).mono ?_); rintro e w1 ⟨rfl, hB⟩; have HX1 := Lib.hid (HX0.out.below hB HX0.out.lt); have HB1 := Lib.hid (HB0.out.trans (hB.mono HB0.out.size)); have hz1 : Hid (Wa.heap.size ≤ w1.heap.size) := hB.size; clear hB; have d0 := HX1.out.cell 0) | fail)
        have HZ2 := hz2
        go_loopw [9] (fun i wr => ∃ k : Nat, k ≤ at_ ∧ i = .int .i64 k ∧ Hid (Blk wr w.heap.size 32 #[.int .i64 id, .int .i64 role, .int .i64 side, .string key, .int .i64 sent, .int .i64 top, .int .u64 (seen : Int)]) ∧ Hid (Below w.heap.size w wr) ∧ Hid (Wa.heap.size ≤ wr.heap.size)) (fun i _ => at_ - (intOf i).toNat)
        case atStart => exact ⟨0, Nat.zero_le _, rfl, HX2, HB2, HZ2⟩
        case round =>
          clear HX2 HB2 HZ2 HX1 HB1 HX0 HB0 d0
          obtain ⟨k, hk, rfl, HX, HB, HZ⟩ := hrel
          have hTw := HT.out.below HB.out (Nat.le_refl _)
          have s0 := HX.out.cell 0
          by_cases hka : k < at_
          · have hkl : k < L.length := Nat.lt_of_lt_of_le hka hatH.out
            have d1 : decide (k < L.length) = true := decide_eq_true hkl
            have hk0 : (0 : Int) ≤ (k : Int) := by omega
            have hk1 : (k : Int) < (L.length : Int) := by omega
            obtain ⟨t, ht⟩ : ∃ t, L[k]? = some t := ⟨_, List.getElem?_eq_getElem hkl⟩
            have d2 : decide (t.id ≤ id) = true := decide_eq_true (hlow.out k t hka ht)
            obtain ⟨A3, c3, e3, _, _, h3⟩ := hTw
            cases e3
            obtain ⟨b, o, rfl, hbb, hcells⟩ := h3 (by omega)
            have t0 := (tab_cells (fun j u hj => hcells j u hj) ht).1
            have hkaH := Lib.hid hka
            clear hcells ht h3 hkl hka
            go_wp2_with fail
            go_quiet (fail)
            have HX3 : Hid (Blk (wr.drewN nq) w.heap.size 32 #[.int .i64 id, .int .i64 role, .int .i64 side, .string key, .int .i64 sent, .int .i64 top, .int .u64 (seen : Int)]) := HX.out
            have HB3 : Hid (Below w.heap.size w (wr.drewN nq)) := below_drewN2 HB.out nq
            have HZ3 : Hid (Wa.heap.size ≤ (wr.drewN nq).heap.size) := HZ.out
            clear t0 s0 HX HB HZ
            generalize wr.drewN nq = w3 at HX3 HB3 HZ3 ⊢
            go_wp2_with fail
            exact ⟨⟨k + 1, hkaH.out, by go_num, HX3, HB3, HZ3⟩, by have := hkaH.out; simp [intOf]; omega⟩
          · obtain rfl : k = at_ := by omega
            by_cases hkl : k < L.length
            · have d1 : decide (k < L.length) = true := decide_eq_true hkl
              have hk0 : (0 : Int) ≤ (k : Int) := by omega
              have hk1 : (k : Int) < (L.length : Int) := by omega
              obtain ⟨t, ht⟩ : ∃ t, L[k]? = some t := ⟨_, List.getElem?_eq_getElem hkl⟩
              have d2 : decide (t.id ≤ id) = false := decide_eq_false (by have := hover.out t ht; omega)
              have hTw2 := hTw
              obtain ⟨A3, c3, e3, _, _, h3⟩ := hTw
              cases e3
              obtain ⟨b, o, rfl, hbb, hcells⟩ := h3 (by omega)
              have t0 := (tab_cells (fun j u hj => hcells j u hj) ht).1
              clear hcells ht h3 hkl hka hTw2
              go_wp2_with fail
              go_quiet (fail)
              have HX3 : Hid (Blk (wr.drewN nq) w.heap.size 32 #[.int .i64 id, .int .i64 role, .int .i64 side, .string key, .int .i64 sent, .int .i64 top, .int .u64 (seen : Int)]) := HX.out
              have HB3 : Hid (Below w.heap.size w (wr.drewN nq)) := below_drewN2 HB.out nq
              have HZ3 : Hid (Wa.heap.size ≤ (wr.drewN nq).heap.size) := HZ.out
              clear t0 s0 HX HB HZ d2
              generalize wr.drewN nq = w3 at HX3 HB3 HZ3 ⊢
              have HX := HX3; have HB := HB3; have HZ := HZ3
              clear HX3 HB3 HZ3
              have c0 := HX.out.cell 0; have c1 := HX.out.cell 1; have c2 := HX.out.cell 2; have c3 := HX.out.cell 3; have c4 := HX.out.cell 4; have c5 := HX.out.cell 5; have c6 := HX.out.cell 6
              go_wp2_with (first
                | (refine wp_gcat_any 55 32 (.agg #[.int .i64 0, .int .i64 0, .int .i64 0, .string ⟨#[]⟩, .int .i64 0, .int .i64 0, .int .u64 0]) 7 64 Tryd.underlying55 infoSes3 rfl (by decide) (by decide) rfl _ _ rfl Wa.heap.size v2 _ _ rfl hP2.row A2 (L.length - k) (c - k) (tabC (L.drop k)) rfl hl2.out hAA.out (HD.out _ (HT.out.below HB6.out (Nat.le_refl _))) (tabC_one _) hb2.out HZ6.out ?_; intro v3 w7 hP3)
                | (refine wp_gpush 55 32 (.agg #[.int .i64 0, .int .i64 0, .int .i64 0, .string ⟨#[]⟩, .int .i64 0, .int .i64 0, .int .u64 0]) 7 64 Tryd.underlying55 infoSes3 rfl (by decide) (by decide) rfl _ _ rfl Wa.heap.size v1 _ _ rfl hP1.row 1 1 #[.int .i64 id, .int .i64 role, .int .i64 side, .string key, .int .i64 sent, .int .i64 top, .int .u64 (seen : Int)] rfl rfl hone.out hb3.out HZ5.out ?_; intro v2 w6 hP2; have HB6 := Lib.hid (hP2.bel _ _ HZw.out HZ5.out HB5.out); have HZ6 := Lib.hid (Nat.le_trans HZ5.out hP2.grown.size))
                | (refine wp_gcat_any 55 32 (.agg #[.int .i64 0, .int .i64 0, .int .i64 0, .string ⟨#[]⟩, .int .i64 0, .int .i64 0, .int .u64 0]) 7 64 Tryd.underlying55 infoSes3 rfl (by decide) (by decide) rfl _ _ rfl Wa.heap.size (.slice none 0 0) 0 [] rfl (World.ownsRow_nil _ _ _ _) (some ⟨b, o, none⟩) k c (tabC (L.take k)) rfl hl1.out hA0.out (tab_take_cell L k (HT.out.below HB.out (Nat.le_refl _))) (tabC_one _) hb1.out HZ.out ?_; intro v1 w5 hP1; have HX5 := Lib.hid (HX.out.grown hP1.grown (by simp [Value.ownBlock])); have HB5 := Lib.hid (hP1.bel _ _ HZw.out HZ.out HB.out); have HZ5 := Lib.hid (Nat.le_trans HZ.out hP1.grown.size); have d0 := HX5.out.cell 0; have d1 := HX5.out.cell 1; have d2 := HX5.out.cell 2; have d3 := HX5.out.cell 3; have d4 := HX5.out.cell 4; have d5 := HX5.out.cell 5; have d6 := HX5.out.cell 6)
                | fail)
              try simp only [Act.put, List.setIfInBounds_toArray, List.set_cons_zero, List.set_cons_succ]
              go_wp2_with fail
              go_ret2
              refine ⟨_, rfl, ?_, hP3.bel _ _ HZw.out HZ6.out HB6.out⟩
              have hlen2 : min k L.length + (L.length - k + 1) = 0 + k + 1 + (L.length - k) := by rw [Nat.min_eq_left hatH.out]; omega
              rw [hlen2, tab_insert]
              have hr := row_lower hP3.row HZw.out
              rw [tabC_take, tabC_drop] at hr
              exact hr
            · have d1 : decide (k < L.length) = false := decide_eq_false hkl
              clear hTw hkl hka
              go_wp2_with fail
              go_quiet (fail)
              have HX3 : Hid (Blk (wr.drewN nq) w.heap.size 32 #[.int .i64 id, .int .i64 role, .int .i64 side, .string key, .int .i64 sent, .int .i64 top, .int .u64 (seen : Int)]) := HX.out
              have HB3 : Hid (Below w.heap.size w (wr.drewN nq)) := below_drewN2 HB.out nq
              have HZ3 : Hid (Wa.heap.size ≤ (wr.drewN nq).heap.size) := HZ.out
              clear s0 HX HB HZ
              generalize wr.drewN nq = w3 at HX3 HB3 HZ3 ⊢
              have HX := HX3; have HB := HB3; have HZ := HZ3
              clear HX3 HB3 HZ3
              have c0 := HX.out.cell 0; have c1 := HX.out.cell 1; have c2 := HX.out.cell 2; have c3 := HX.out.cell 3; have c4 := HX.out.cell 4; have c5 := HX.out.cell 5; have c6 := HX.out.cell 6
              go_wp2_with (first
                | (refine wp_gcat_any 55 32 (.agg #[.int .i64 0, .int .i64 0, .int .i64 0, .string ⟨#[]⟩, .int .i64 0, .int .i64 0, .int .u64 0]) 7 64 Tryd.underlying55 infoSes3 rfl (by decide) (by decide) rfl _ _ rfl Wa.heap.size v2 _ _ rfl hP2.row A2 (L.length - k) (c - k) (tabC (L.drop k)) rfl hl2.out hAA.out (HD.out _ (HT.out.below HB6.out (Nat.le_refl _))) (tabC_one _) hb2.out HZ6.out ?_; intro v3 w7 hP3)
                | (refine wp_gpush 55 32 (.agg #[.int .i64 0, .int .i64 0, .int .i64 0, .string ⟨#[]⟩, .int .i64 0, .int .i64 0, .int .u64 0]) 7 64 Tryd.underlying55 infoSes3 rfl (by decide) (by decide) rfl _ _ rfl Wa.heap.size v1 _ _ rfl hP1.row 1 1 #[.int .i64 id, .int .i64 role, .int .i64 side, .string key, .int .i64 sent, .int .i64 top, .int .u64 (seen : Int)] rfl rfl hone.out hb3.out HZ5.out ?_; intro v2 w6 hP2; have HB6 := Lib.hid (hP2.bel _ _ HZw.out HZ5.out HB5.out); have HZ6 := Lib.hid (Nat.le_trans HZ5.out hP2.grown.size))
                | (refine wp_gcat_any 55 32 (.agg #[.int .i64 0, .int .i64 0, .int .i64 0, .string ⟨#[]⟩, .int .i64 0, .int .i64 0, .int .u64 0]) 7 64 Tryd.underlying55 infoSes3 rfl (by decide) (by decide) rfl _ _ rfl Wa.heap.size (.slice none 0 0) 0 [] rfl (World.ownsRow_nil _ _ _ _) A k c (tabC (L.take k)) rfl hl1.out hA0.out (tab_take_cell L k (HT.out.below HB.out (Nat.le_refl _))) (tabC_one _) hb1.out HZ.out ?_; intro v1 w5 hP1; have HX5 := Lib.hid (HX.out.grown hP1.grown (by simp [Value.ownBlock])); have HB5 := Lib.hid (hP1.bel _ _ HZw.out HZ.out HB.out); have HZ5 := Lib.hid (Nat.le_trans HZ.out hP1.grown.size); have d0 := HX5.out.cell 0; have d1 := HX5.out.cell 1; have d2 := HX5.out.cell 2; have d3 := HX5.out.cell 3; have d4 := HX5.out.cell 4; have d5 := HX5.out.cell 5; have d6 := HX5.out.cell 6)
                | fail)
              try simp only [Act.put, List.setIfInBounds_toArray, List.set_cons_zero, List.set_cons_succ]
              go_wp2_with fail
              go_ret2
              refine ⟨_, rfl, ?_, hP3.bel _ _ HZw.out HZ6.out HB6.out⟩
              have hlen2 : min k L.length + (L.length - k + 1) = 0 + k + 1 + (L.length - k) := by rw [Nat.min_eq_left hatH.out]; omega
              rw [hlen2, tab_insert]
              have hr := row_lower hP3.row HZw.out
              rw [tabC_take, tabC_drop] at hr
              exact hr
    · rw [hi] at HPL
      have hkl := (List.getElem?_eq_some_iff.1 hk).1
      have hJ : putP L s = (L.set k s, 0) := by unfold putP; rw [if_pos hv, hf]
      rw [hJ]
      dsimp only
      rw [List.length_set, ← tab_set s L k hkl]
      have HK := Lib.hid hk
      have q0 : decide ((k : Int) < 0) = false := decide_eq_false (by omega)
      have q1 : decide ((0 : Int) ≤ (k : Int)) = true := decide_eq_true (by omega)
      have hl1 : Hid ((tabC L).length = L.length * 7) := tabC_len L
      have hb1 : Hid (0 + L.length ≤ 1000000) := by unfold Hid; omega
      have hA0 : Hid (A = none → L.length = 0) := fun e => tab_none HT.out e
      have h0L : Hid (0 < L.length) := Nat.lt_of_le_of_lt (Nat.zero_le _) hkl
      have hk0 : (0 : Int) ≤ (k : Int) := by omega
      have hk1 : (k : Int) < (L.length : Int) := by omega
      clear hJ hf hi hv hk hkl hlc
      obtain ⟨id, role, side, key, sent, top, seen⟩ := s
      unfold sesV sesC at HV
      unfold sesV sesC
      dsimp only at HV HPL ⊢
      go_enter Tryd.func30, Tryd.ntmps30
      go_upto_region 1 with fail
      refine world_is (P := fun W => Code.wp _ _ _ _ W) (fun Wa hWa => ?_)
      have HX0 : Hid (Blk Wa w.heap.size 32 #[.int .i64 id, .int .i64 role, .int .i64 side, .string key, .int .i64 sent, .int .i64 top, .int .u64 (seen : Int)]) := by unfold Hid; rw [← hWa]; exact Blk.new w _ _
      have HB0 : Hid (Below w.heap.size w Wa) := by unfold Hid; rw [← hWa]; exact (Below.refl w.heap.size w).alloc (Nat.le_refl _) _
      have HZw : Hid (w.heap.size ≤ Wa.heap.size) := HB0.out.size
      clear hWa
      have c0 := HX0.out.cell 0; have c1 := HX0.out.cell 1; have c2 := HX0.out.cell 2; have c3 := HX0.out.cell 3; have c4 := HX0.out.cell 4; have c5 := HX0.out.cell 5; have c6 := HX0.out.cell 6
      go_upto_region 9 with (first | (go_at_call 55; refine ((HPL.out _ HB1.out).mono ?_); rintro e w2 ⟨rfl, hB⟩; have HX2 := Lib.hid (HX1.out.below hB HX1.out.lt); have HB2 := Lib.hid (HB1.out.trans (hB.mono HB1.out.size)); have hz2 : Hid (Wa.heap.size ≤ w2.heap.size) := Nat.le_trans hz1.out hB.size; clear hB) | (go_at_call 22; refine ((HV.out _).mono ?_); rintro e w1 ⟨rfl, hB⟩; have HX1 := Lib.hid (HX0.out.below hB HX0.out.lt); have HB1 := Lib.hid (HB0.out.trans (hB.mono HB0.out.size)); have hz1 : Hid (Wa.heap.size ≤ w1.heap.size) := hB.size; clear hB; have d0 := HX1.out.cell 0) | fail)
      go_upto_region 10 with (first
        | (refine wp_gcat_any 55 32 (.agg #[.int .i64 0, .int .i64 0, .int .i64 0, .string ⟨#[]⟩, .int .i64 0, .int .i64 0, .int .u64 0]) 7 64 Tryd.underlying55 infoSes3 rfl (by decide) (by decide) rfl _ _ rfl Wa.heap.size (.slice none 0 0) 0 [] rfl (World.ownsRow_nil _ _ _ _) A L.length c (tabC L) rfl hl1.out hA0.out (tab_cell L (HT.out.below HB2.out (Nat.le_refl _))) (tabC_one _) hb1.out hz2.out ?_; intro v1 w3 hP1; have HX3 := Lib.hid (HX2.out.grown hP1.grown (by simp [Value.ownBlock])); have HB3 := Lib.hid (hP1.bel _ _ HZw.out hz2.out HB2.out); have HZ3 := Lib.hid (Nat.le_trans hz2.out hP1.grown.size))
        | fail)
      try simp only [Act.put, List.setIfInBounds_toArray, List.set_cons_zero, List.set_cons_succ]
      have hR3 := row_lower hP1.row HZw.out
      rw [Nat.zero_add, List.nil_append] at hR3
      obtain ⟨g3, cap3, e3, hg3, hlc3, hgl3⟩ := row_form hR3 h0L.out
      subst e3
      have HG3 := Lib.hid hgl3
      clear hgl3 d0
      have HR3 := Lib.hid hR3
      have e0 := HX3.out.cell 0; have e1 := HX3.out.cell 1; have e2 := HX3.out.cell 2; have e3 := HX3.out.cell 3; have e4 := HX3.out.cell 4; have e5 := HX3.out.cell 5; have e6 := HX3.out.cell 6
      obtain ⟨t0, t1, t2, t3, t4, t5, t6⟩ := tab_cells (w := w3) (b := g3) (o := 0) (L := L) (row_cells hR3) HK.out
      rw [Nat.zero_add] at t0 t1 t2 t3 t4 t5 t6
      have f0 := hR3.frozenAt (k * 7)
      have f1 := hR3.frozenAt (k * 7 + 1)
      have f2 := hR3.frozenAt (k * 7 + 2)
      have f3 := hR3.frozenAt (k * 7 + 3)
      have f4 := hR3.frozenAt (k * 7 + 4)
      have f5 := hR3.frozenAt (k * 7 + 5)
      have f6 := hR3.frozenAt (k * 7 + 6)
      clear hR3
      go_wp2_with fail
      go_ret2
      refine ⟨_, rfl, ?_, ?_⟩
      · exact (((((((HR3.out.stored _ _).1.stored _ _).1.stored _ _).1.stored _ _).1.stored _ _).1.stored _ _).1.stored _ _).1
      · exact (((((((HB3.out.setCell hg3 _).setCell hg3 _).setCell hg3 _).setCell hg3 _).setCell hg3 _).setCell hg3 _).setCell hg3 _)
  · have hv2 : validP s = false := by simpa using hv
    have hJ : putP L s = ([], 1) := by unfold putP; rw [if_neg hv]
    rw [hJ]
    rw [hv2] at HV
    clear hJ hv hv2 HT hlc
    obtain ⟨id, role, side, key, sent, top, seen⟩ := s
    unfold sesV sesC at HV ⊢
    dsimp only at HV HPL ⊢
    go_enter Tryd.func30, Tryd.ntmps30
    go_upto_region 1 with fail
    refine world_is (P := fun W => Code.wp _ _ _ _ W) (fun Wa hWa => ?_)
    have HX0 : Hid (Blk Wa w.heap.size 32 #[.int .i64 id, .int .i64 role, .int .i64 side, .string key, .int .i64 sent, .int .i64 top, .int .u64 (seen : Int)]) := by unfold Hid; rw [← hWa]; exact Blk.new w _ _
    have HB0 : Hid (Below w.heap.size w Wa) := by unfold Hid; rw [← hWa]; exact (Below.refl w.heap.size w).alloc (Nat.le_refl _) _
    have HZw : Hid (w.heap.size ≤ Wa.heap.size) := HB0.out.size
    clear hWa
    have c0 := HX0.out.cell 0; have c1 := HX0.out.cell 1; have c2 := HX0.out.cell 2; have c3 := HX0.out.cell 3; have c4 := HX0.out.cell 4; have c5 := HX0.out.cell 5; have c6 := HX0.out.cell 6
    go_wp2_with (first | (go_at_call 22; refine ((HV.out _).mono ?_); rintro e w1 ⟨rfl, hB⟩; have HX1 := Lib.hid (HX0.out.below hB HX0.out.lt); have HB1 := Lib.hid (HB0.out.trans (hB.mono HB0.out.size)); have hz1 : Hid (Wa.heap.size ≤ w1.heap.size) := hB.size; clear hB; have d0 := HX1.out.cell 0) | fail)
    go_ret2
    exact ⟨_, rfl, World.ownsRow_nil _ _ _ _, HB1.out⟩
end Go.Proofs.YtbhagfdkipgggaaDoor
