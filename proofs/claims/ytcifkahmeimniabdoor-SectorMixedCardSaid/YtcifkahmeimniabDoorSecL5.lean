/-
  Layer 24 (sector): SectorTorn, the walk.
-/
import Derived.Test.YtcifkahmeimniabDoorSecW13
namespace Go.Proofs.YtcifkahmeimniabDoor
open Go.RowKit Go.Shelf
attribute [local go_sem] Oper.semAt_some

theorem ba_ext {s t : ByteArray} (h : s.data.toList = t.data.toList) : s = t := by
  apply ByteArray.ext
  exact Array.ext' h
theorem ba_append (s t : ByteArray) : (s ++ t).data.toList = s.data.toList ++ t.data.toList := by
  rw [ByteArray.data_append, Array.toList_append]
theorem torn_text (s t : ByteArray) (hs : s.size = 64) (ht : t.size = 64) (k : Nat) (hk : k ≤ 64) : (s.extract 0 k ++ t.extract k 64).data.toList = tornL s.data.toList t.data.toList k := by
  have ht' : t.data.toList.length = 64 := by rw [Array.length_toList]; exact ht
  rw [ba_append, ext_list, ext_list]
  unfold tornL
  rw [List.drop_zero, Nat.sub_zero, List.take_of_length_le (l := t.data.toList.drop k) (by rw [List.length_drop]; omega)]
/-- What Torn needs of a torn sector. -/
theorem torn_any {s t : ByteArray} {sn tn : Int} (hs : ∃ N P L T, openE s = (partVal N P L T, 0) ∧ sn = N) (ht : (∃ N P L T, openE t = (partVal N P L T, 0) ∧ tn = N) ∨ t = ⟨(List.replicate 64 (0 : UInt8)).toArray⟩) (hne : t = ⟨(List.replicate 64 (0 : UInt8)).toArray⟩ ∨ sn ≠ tn) (k : Nat) (hk : k ≤ 64) :
    s.size = 64 ∧ t.size = 64 ∧ (s.extract 0 k ++ t.extract k 64 = s ∨ s.extract 0 k ++ t.extract k 64 = t ∨ (openE (s.extract 0 k ++ t.extract k 64)).2 = 7) := by
  obtain ⟨N, P, L, T, h1, rfl⟩ := hs
  obtain ⟨p, hsz, hop, hE⟩ : ∃ p, s.size = 64 ∧ openL s.data.toList = some p ∧ openE s = (partVal p.number p.part p.left ⟨p.text.toArray⟩, 0) := by
    rcases openE_cases s with h | ⟨_, ev, hev, hE⟩
    · exact h
    · rw [hE] at h1
      injection h1 with _ h1
      exact absurd h1 hev
  have hpn : (p.number : Int) = sn := by
    rw [hE] at h1
    injection h1 with h1 _
    unfold partVal at h1
    injection h1 with h1
    simp at h1
    exact h1.1
  have hs' : s.data.toList.length = 64 := by rw [Array.length_toList]; exact hsz
  have key : t.size = 64 → (tornL s.data.toList t.data.toList k = s.data.toList ∨ tornL s.data.toList t.data.toList k = t.data.toList ∨ openL (tornL s.data.toList t.data.toList k) = none) →
      s.extract 0 k ++ t.extract k 64 = s ∨ s.extract 0 k ++ t.extract k 64 = t ∨ (openE (s.extract 0 k ++ t.extract k 64)).2 = 7 := by
    intro hts h
    have ht' : t.data.toList.length = 64 := by rw [Array.length_toList]; exact hts
    have e := torn_text s t hsz hts k hk
    rcases h with h | h | h
    · exact .inl (ba_ext (by rw [e, h]))
    · exact .inr (.inl (ba_ext (by rw [e, h])))
    · refine .inr (.inr ?_)
      have h64 : (s.extract 0 k ++ t.extract k 64).size = 64 := by
        have := torn_len (k := k) hs' ht'
        rw [← e, Array.length_toList] at this
        exact this
      unfold openE
      rw [if_pos h64, e, h]
  by_cases hz : t = ⟨(List.replicate 64 (0 : UInt8)).toArray⟩
  · have hts : t.size = 64 := by rw [hz, mk_size]; rfl
    have hd : t.data.toList = zeroL := by rw [hz]; rfl
    refine ⟨hsz, hts, key hts ?_⟩
    rw [hd]
    exact torn_zero hs' hk hop
  · have hne' : sn ≠ tn := hne.resolve_left hz
    obtain ⟨N2, P2, L2, T2, h2, rfl⟩ := ht.resolve_right hz
    obtain ⟨q, htz, hoq, hE2⟩ : ∃ p, t.size = 64 ∧ openL t.data.toList = some p ∧ openE t = (partVal p.number p.part p.left ⟨p.text.toArray⟩, 0) := by
      rcases openE_cases t with h | ⟨_, ev, hev, hE2⟩
      · exact h
      · rw [hE2] at h2
        injection h2 with _ h2
        exact absurd h2 hev
    have hqn : (q.number : Int) = tn := by
      rw [hE2] at h2
      injection h2 with h2 _
      unfold partVal at h2
      injection h2 with h2
      simp at h2
      exact h2.1
    have ht' : t.data.toList.length = 64 := by rw [Array.length_toList]; exact htz
    exact ⟨hsz, htz, key htz (torn_open hs' ht' hk hop hoq (by omega))⟩
theorem torn_false {e : Int} (h : ¬ e = 7) : ((e == 7) = false) := beq_f h
section
variable {W : World}
set_option maxRecDepth 100000 in
set_option maxHeartbeats 4000000 in
theorem l24torn_in (s t : ByteArray) (z : Bool) (k : Nat) (hk : k ≤ 64) (N1 P1 L1 N2 P2 L2 e2 : Int) (T1 T2 : ByteArray) (h1 : openE s = (partVal N1 P1 L1 T1, 0)) (h2 : openE t = (partVal N2 P2 L2 T2, e2))
    (U : ByteArray) (hU : (z = true ∧ U = ⟨(List.replicate 64 (0 : UInt8)).toArray⟩ ∧ N1 ≠ 0) ∨ (z = false ∧ U = t ∧ e2 = 0 ∧ N1 ≠ N2)) :
    Calls Tryd.prog 7 #[.string s, .string t, .bool z, .int .i64 k] W fun e w' => e = .returned (.bool true) ∧ Below W.heap.size W w' := by
  have HO1 := fun w => Lib.hid (open_at h1 w)
  have HO2 := fun w => Lib.hid (open_at h2 w)
  have hmk : ∀ w, (Instr.makeSlice 42 (.int .i64 64) (.int .i64 64)).run Tryd.prog w = .ok (.slice (some ⟨World.heap w |>.size, 0, none⟩) 64 64) (w.alloc (.cells (Array.replicate 64 (Value.int .u8 0)) 5)) := fun w => make_zero 64 (by decide) w
  have hcva := fun w => zat_conv (zat_new 64 w)
  obtain ⟨hs64, hu64, hfin⟩ := torn_any (s := s) (t := U) (sn := N1) (tn := N2) ⟨_, _, _, _, h1, rfl⟩ (by
    rcases hU with ⟨_, h, _⟩ | ⟨_, rfl, rfl, _⟩
    · exact .inr h
    · exact .inl ⟨_, _, _, _, h2, rfl⟩) (by
    rcases hU with ⟨_, h, _⟩ | ⟨_, _, _, h⟩
    · exact .inl h
    · exact .inr h) k hk
  obtain ⟨oa, ob, oc, ot, oe, hE⟩ : ∃ a b c t e, openE (s.extract 0 k ++ U.extract k 64) = (partVal a b c t, e) := by
    rcases openE_cases (s.extract 0 k ++ U.extract k 64) with ⟨p, _, _, h⟩ | ⟨_, ev, _, h⟩
    · exact ⟨_, _, _, _, _, h⟩
    · exact ⟨_, _, _, _, _, h⟩
  have HO3 := fun w => Lib.hid (open_at hE w)
  rw [hE] at hfin
  dsimp only at hfin
  have hadd : ∀ w, (Op.stringOp .add (s.extract 0 k) (U.extract k 64)).run Tryd.prog w = .ok (.string (s.extract 0 k ++ U.extract k 64)) w := fun w => run_string_add_sum w _ _ (by rw [ByteArray.size_extract, ByteArray.size_extract]; omega)
  obtain ⟨M, hM⟩ : ∃ M, s.extract 0 k ++ U.extract k 64 = M := ⟨_, rfl⟩
  rw [hM] at hfin HO3 hadd
  have d1 : decide ((k : Int) < 0) = false := decide_eq_false (by omega)
  have d2 : decide (64 < (k : Int)) = false := decide_eq_false (by omega)
  have hfin2 : (M.toList == s.toList) = true ∨ (M.toList == s.toList) = false ∧ (M.toList == U.toList) = true ∨ (M.toList == s.toList) = false ∧ (M.toList == U.toList) = false ∧ (oe == 7) = true := by
    cases e1 : (M.toList == s.toList) with
    | true => exact .inl rfl
    | false =>
      cases e2 : (M.toList == U.toList) with
      | true => exact .inr (.inl ⟨rfl, rfl⟩)
      | false =>
        refine .inr (.inr ⟨rfl, rfl, ?_⟩)
        rcases hfin with h | h | h
        · rw [h] at e1; simp at e1
        · rw [h] at e2; simp at e2
        · rw [h]; rfl
  clear hfin hM hE h1 h2
  rcases hU with ⟨rfl, hUz, hne⟩ | ⟨rfl, rfl, rfl, hne⟩
  · have d0 : (N1 == 0) = false := beq_f hne
    have hcvb : ∀ w, (convert 42 9 (.slice (some ⟨World.heap w |>.size, 0, none⟩) 64 64)).run Tryd.prog (w.alloc (.cells (Array.replicate 64 (Value.int .u8 0)) 5)) = .ok (.string U) (w.alloc (.cells (Array.replicate 64 (Value.int .u8 0)) 5)) := fun w => by rw [hUz]; exact hcva w
    clear hcva hUz hne
    go_enter Tryd.func7, Tryd.ntmps7
    go_wp2_with (first
      | (go_at_call_of 12 s; refine (HO1 _).out.mono ?_; rintro e w1 ⟨rfl, hB1⟩; have b1 := Blk.new w1 28 #[.int .i64 N1, .int .i64 P1, .int .i64 L1, .string T1])
      | (go_at_call_of 12 t; refine (HO2 _).out.mono ?_; rintro e w2 ⟨rfl, hB2⟩; have b12 := b1.below hB2 b1.lt; have hl12 := b12.lt; have x0 := b12.cell 0; have k2 := bel_trans (below_grow hB1 _) hB2; have hcv3 := hcvb (w2.alloc (.cells #[.int .i64 N2, .int .i64 P2, .int .i64 L2, .string T2] 28)); rw [World.size_alloc] at hcv3))
    go_quiet (fail)
    rcases hfin2 with e1 | ⟨e1, e2⟩ | ⟨e1, e2, e3⟩
    all_goals
      go_wp2_with (first
        | (go_at_call_of 12 M; refine (HO3 _).out.mono ?_; rintro e w3 ⟨rfl, hB3⟩)
        | (go_at_call 9; refine (sanity_true _).mono ?_; rintro e w5 ⟨rfl, hB5⟩))
      go_ret
      exact ⟨rfl, bel_trans (below_grow (bel_trans (below_drewN (below_grow (below_grow k2 _) _) nq) hB3) _) hB5⟩
  · have d0 : (N1 == N2) = false := beq_f hne
    clear hcva hne
    go_enter Tryd.func7, Tryd.ntmps7
    go_wp2_with (first
      | (go_at_call_of 12 s; refine (HO1 _).out.mono ?_; rintro e w1 ⟨rfl, hB1⟩; have b1 := Blk.new w1 28 #[.int .i64 N1, .int .i64 P1, .int .i64 L1, .string T1])
      | (go_at_call_of 12 U; refine (HO2 _).out.mono ?_; rintro e w2 ⟨rfl, hB2⟩; have b12 := b1.below hB2 b1.lt; have hl12 := b12.lt; have x0 := b12.cell 0; have k2 := bel_trans (below_grow hB1 _) hB2))
    go_quiet (fail)
    rcases hfin2 with e1 | ⟨e1, e2⟩ | ⟨e1, e2, e3⟩
    all_goals
      go_wp2_with (first
        | (go_at_call_of 12 M; refine (HO3 _).out.mono ?_; rintro e w3 ⟨rfl, hB3⟩)
        | (go_at_call 9; refine (sanity_true _).mono ?_; rintro e w5 ⟨rfl, hB5⟩))
      go_ret
      exact ⟨rfl, bel_trans (below_grow (bel_trans (below_drewN (below_grow k2 _) nq) hB3) _) hB5⟩
set_option maxRecDepth 100000 in
set_option maxHeartbeats 4000000 in
theorem l24torn_out (s t : ByteArray) (z : Bool) (k : Int) (N1 P1 L1 N2 P2 L2 e1 e2 : Int) (T1 T2 : ByteArray) (h1 : openE s = (partVal N1 P1 L1 T1, e1)) (h2 : openE t = (partVal N2 P2 L2 T2, e2))
    (hbad : e1 ≠ 0 ∨ (z = false ∧ e2 ≠ 0) ∨ (z = true ∧ N1 = 0) ∨ (z = false ∧ N1 = N2) ∨ k < 0 ∨ 64 < k) :
    Calls Tryd.prog 7 #[.string s, .string t, .bool z, .int .i64 k] W fun e w' => e = .returned (.bool true) ∧ Below W.heap.size W w' := by
  have HO1 := fun w => Lib.hid (open_at h1 w)
  have HO2 := fun w => Lib.hid (open_at h2 w)
  have hmk : ∀ w, (Instr.makeSlice 42 (.int .i64 64) (.int .i64 64)).run Tryd.prog w = .ok (.slice (some ⟨World.heap w |>.size, 0, none⟩) 64 64) (w.alloc (.cells (Array.replicate 64 (Value.int .u8 0)) 5)) := fun w => make_zero 64 (by decide) w
  have hcvb := fun w => zat_conv (zat_new 64 w)
  obtain ⟨U, hU⟩ : ∃ U : ByteArray, ⟨(List.replicate 64 (0 : UInt8)).toArray⟩ = U := ⟨_, rfl⟩
  rw [hU] at hcvb
  clear h1 h2 hU
  cases z with
  | true =>
    have hall : ((((e1 != 0) || (N1 == 0)) || decide (k < 0)) || decide (64 < k)) = true := by
      rcases hbad with h | h | h | h | h | h
      · rw [bne_t h]; rfl
      · exact absurd h.1 (by decide)
      · rw [h.2]; simp
      · exact absurd h.1 (by decide)
      · rw [decide_eq_true h]; simp
      · rw [decide_eq_true h]; simp
    clear hbad
    go_enter Tryd.func7, Tryd.ntmps7
    go_wp2_with (first
      | (go_at_call_of 12 s; refine (HO1 _).out.mono ?_; rintro e w1 ⟨rfl, hB1⟩; have b1 := Blk.new w1 28 #[.int .i64 N1, .int .i64 P1, .int .i64 L1, .string T1])
      | (go_at_call_of 12 t; refine (HO2 _).out.mono ?_; rintro e w2 ⟨rfl, hB2⟩; have b12 := b1.below hB2 b1.lt; have hl12 := b12.lt; have x0 := b12.cell 0; have k2 := bel_trans (below_grow hB1 _) hB2; have hcv3 := hcvb (w2.alloc (.cells #[.int .i64 N2, .int .i64 P2, .int .i64 L2, .string T2] 28)); rw [World.size_alloc] at hcv3)
      | (go_at_call 9; refine (sanity_true _).mono ?_; rintro e w5 ⟨rfl, hB5⟩))
    all_goals first
      | (go_ret; exact ⟨rfl, bel_trans (below_grow (below_grow k2 _) _) hB5⟩)
      | (exfalso; revert hall; simp [*]; done)
  | false =>
    have hall : (((((e1 != 0) || (e2 != 0)) || (N1 == N2)) || decide (k < 0)) || decide (64 < k)) = true := by
      rcases hbad with h | h | h | h | h | h
      · rw [bne_t h]; rfl
      · rw [bne_t h.2]; simp
      · exact absurd h.1 (by decide)
      · rw [h.2]; simp
      · rw [decide_eq_true h]; simp
      · rw [decide_eq_true h]; simp
    clear hbad
    go_enter Tryd.func7, Tryd.ntmps7
    go_wp2_with (first
      | (go_at_call_of 12 s; refine (HO1 _).out.mono ?_; rintro e w1 ⟨rfl, hB1⟩; have b1 := Blk.new w1 28 #[.int .i64 N1, .int .i64 P1, .int .i64 L1, .string T1])
      | (go_at_call_of 12 t; refine (HO2 _).out.mono ?_; rintro e w2 ⟨rfl, hB2⟩; have b12 := b1.below hB2 b1.lt; have hl12 := b12.lt; have x0 := b12.cell 0; have k2 := bel_trans (below_grow hB1 _) hB2)
      | (go_at_call 9; refine (sanity_true _).mono ?_; rintro e w5 ⟨rfl, hB5⟩))
    all_goals first
      | (go_ret; exact ⟨rfl, bel_trans (below_grow k2 _) hB5⟩)
      | (exfalso; revert hall; simp [*]; done)
theorem l24torn_any (s t : ByteArray) (z : Bool) (k : Int) :
    Calls Tryd.prog 7 #[.string s, .string t, .bool z, .int .i64 k] W fun e w' => e = .returned (.bool true) ∧ Below W.heap.size W w' := by
  have form : ∀ u, ∃ a b c t e, openE u = (partVal a b c t, e) := fun u => by
    rcases openE_cases u with ⟨p, _, _, h⟩ | ⟨_, ev, _, h⟩
    · exact ⟨_, _, _, _, _, h⟩
    · exact ⟨_, _, _, _, _, h⟩
  obtain ⟨N1, P1, L1, T1, e1, h1⟩ := form s
  obtain ⟨N2, P2, L2, T2, e2, h2⟩ := form t
  by_cases hb : e1 ≠ 0 ∨ (z = false ∧ e2 ≠ 0) ∨ (z = true ∧ N1 = 0) ∨ (z = false ∧ N1 = N2) ∨ k < 0 ∨ 64 < k
  · exact l24torn_out s t z k N1 P1 L1 N2 P2 L2 e1 e2 T1 T2 h1 h2 hb
  · have he : e1 = 0 := Decidable.not_not.1 fun h => hb (.inl h)
    subst he
    have hk0 : 0 ≤ k ∧ k ≤ 64 := ⟨Int.not_lt.1 fun h => hb (.inr (.inr (.inr (.inr (.inl h))))), Int.not_lt.1 fun h => hb (.inr (.inr (.inr (.inr (.inr h)))))⟩
    obtain ⟨k, rfl⟩ := Int.eq_ofNat_of_zero_le hk0.1
    cases z with
    | true => exact l24torn_in s t true k (by omega) N1 P1 L1 N2 P2 L2 e2 T1 T2 h1 h2 _ (.inl ⟨rfl, rfl, fun h => hb (.inr (.inr (.inl ⟨rfl, h⟩)))⟩)
    | false => exact l24torn_in s t false k (by omega) N1 P1 L1 N2 P2 L2 e2 T1 T2 h1 h2 t (.inr ⟨rfl, rfl, Decidable.not_not.1 fun h => hb (.inr (.inl ⟨rfl, h⟩)), fun h => hb (.inr (.inr (.inr (.inl ⟨rfl, h⟩))))⟩)
end
end Go.Proofs.YtcifkahmeimniabDoor
