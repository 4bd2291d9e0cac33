/-
  The walks of layer 24 (sector): the specification's Pack.
-/
import Derived.Test.YtcifkahmeimniabDoorSecZ
import Derived.IntWalk
namespace Go.Proofs.YtcifkahmeimniabDoor
open Go.RowKit Go.Shelf
attribute [local go_sem] Oper.semAt_some

theorem sec_bytes (number : Nat) (rec : ByteArray) (k m : Nat) (R T : ByteArray) (hR : R.data.toList = rec.data.toList.drop (44 * k)) (hT : T.data.toList = R.data.toList.take 44) (hm : 44 - T.size = m) :
    (⟨(putL number 8).toArray⟩ : ByteArray) ++ ⟨(putL k 2).toArray⟩ ++ ⟨(putL R.size 2).toArray⟩ ++ T ++ ⟨(List.replicate m (0 : UInt8)).toArray⟩ ++ ⟨(putL number 8).toArray⟩ = secText number rec k := by
  have e2 : R.size = (rec.data.toList.drop (44 * k)).length := by rw [← hR, Array.length_toList]; rfl
  have e3 : T.size = ((rec.data.toList.drop (44 * k)).take 44).length := by rw [← hR, ← hT, Array.length_toList]; rfl
  apply ByteArray.ext
  apply Array.ext'
  rw [hR] at hT
  unfold secText packAt
  rw [← hm, e3, e2]
  simp [ByteArray.data_append, hT]

/-- Several ways that end alike but for one value and the world. -/
theorem meet_upw {C : World → Prop} {G : Value → World → Prop} {R : Prop} (h : (∀ v w', C w' → G v w') → R) (g : ∀ v w', C w' → G v w') : R := h g
theorem bel_alloc {a W : World} (h : Below a.heap.size a W) (o : Obj) : Below a.heap.size a (W.alloc o) := h.alloc h.size o
theorem rput8 (num : Nat) (h : num < 9223372036854775808) (w : World) : Calls Tryd.prog 21 #[.int .i64 num, .int .i64 8] w fun e w' => e = .returned (.string ⟨(putL num 8).toArray⟩) ∧ Below w.heap.size w w' := rput_any w num 8 h (by decide) (by decide)
theorem rput2 (num : Nat) (h : num < 9223372036854775808) (w : World) : Calls Tryd.prog 21 #[.int .i64 num, .int .i64 2] w fun e w' => e = .returned (.string ⟨(putL num 2).toArray⟩) ∧ Below w.heap.size w w' := rput_any w num 2 h (by decide) (by decide)
set_option maxHeartbeats 4000000 in
set_option maxRecDepth 100000 in
theorem rpack_in (w : World) (number : Nat) (rec : ByteArray) (h1 : 1 ≤ number) (h2 : number ≤ mostN) (hr : rec.size ≤ 8000) :
    Calls Tryd.prog 11 #[.int .i64 number, .string rec] w fun e w' => ∃ v, e = .returned (.tuple #[v, .int .i64 0]) ∧ NewTexts w w' v ((List.range (countN rec.size)).map (secText number rec)) := by
  obtain ⟨i0, hi, hz0, hz1, hz2⟩ := info_parts infoString
  have d1 : decide ((number : Int) < 1) = false := decide_eq_false (by omega)
  have d2 : decide (4611686018427387904 < (number : Int)) = false := decide_eq_false (by unfold mostN at h2; omega)
  have d3 : decide (8000 < (rec.size : Int)) = false := decide_eq_false (by omega)
  have HC := fun w => Lib.hid (rcount_nat rec.size hr w)
  have hm : rec.size ≤ maxLen := by unfold maxLen; omega
  unfold maxLen at hm
  obtain ⟨N, hN⟩ : ∃ N, countN rec.size = N := ⟨_, rfl⟩
  have hN1 : N ≤ 182 := by rw [← hN]; unfold countN; omega
  have HN := Lib.hid hN
  rw [hN] at HC ⊢
  clear hN
  go_enter Tryd.func11, Tryd.ntmps11
  go_wp2_with fail
  go_loopw [6, 7] (fun b i wr => ∃ k : Nat, k ≤ N ∧ i = .int .i64 k ∧ wr.ownsRow w.heap.size 9 1 b k (strCells ((List.range k).map (secText number rec))) ∧ (b = .slice none 0 0 ↔ k = 0) ∧ Below w.heap.size w wr) (fun _ i _ => N - (intOf i).toNat)
  case atStart => exact ⟨0, Nat.zero_le _, rfl, World.ownsRow_nil _ _ _ _, by simp, Below.refl _ _⟩
  case round =>
    obtain ⟨k, hk, rfl, hrow, hnil, hB⟩ := hrel
    have hBs := hB.size
    have Hrow := Lib.hid hrow
    have Hnil := Lib.hid hnil
    clear hrow hnil
    by_cases hkl : k < N
    · have hkr : 44 * k ≤ rec.size := by
        have := HN.out
        unfold countN at this
        omega
      have hlt : decide (k < N) = true := decide_eq_true hkl
      have hRl : (rec.extract (44 * k) rec.size).data.toList = rec.data.toList.drop (44 * k) := by
        rw [ext_list, List.take_of_length_le (by simp)]
      go_wp2_with (first | (go_at_call 15; refine (HC _).out.mono ?_; rintro e w1 ⟨rfl, rfl⟩))
      have hTl : ((rec.extract (44 * k) rec.size).extract 0 (min 44 ((rec.size - 44 * k : Nat) : Int)).toNat).data.toList = (rec.extract (44 * k) rec.size).data.toList.take 44 := by
        have hl : (rec.extract (44 * k) rec.size).data.toList.length = rec.size - 44 * k := by
          rw [hRl, List.length_drop, Array.length_toList]; rfl
        rw [ext_list, List.drop_zero, Nat.sub_zero]
        by_cases h44 : rec.size - 44 * k ≤ 44
        · rw [List.take_of_length_le (by omega), List.take_of_length_le (by omega)]
        · congr 1; omega
      generalize (rec.extract (44 * k) rec.size).extract 0 (min 44 ((rec.size - 44 * k : Nat) : Int)).toNat = T at hTl ⊢
      generalize hRR : rec.extract (44 * k) rec.size = R at hRl hTl ⊢
      have hRs : R.size ≤ 8000 := by
        have := congrArg List.length hRl
        rw [Array.length_toList, List.length_drop, Array.length_toList] at this
        have e1 : R.data.size = R.size := rfl
        have e2 : rec.data.size = rec.size := rfl
        omega
      have hTs : T.size ≤ 44 := by
        have := congrArg List.length hTl
        rw [Array.length_toList, List.length_take] at this
        have e1 : T.data.size = T.size := rfl
        omega
      have HRl := Lib.hid hRl
      have HTl := Lib.hid hTl
      clear hRl hTl hRR hkr
      obtain ⟨m, hm44⟩ : ∃ m, 44 - T.size = m := ⟨_, rfl⟩
      have HM := Lib.hid hm44
      have hsub : IntKind.i64.wrap (44 - (T.size : Int)) = (m : Int) := by rw [IntWalk.i64_in _ ⟨by omega, by omega⟩]; omega
      have hm1000 : m ≤ 1000 := by omega
      have hmk := make_zero m hm1000
      have hcv0 := @zat_conv m
      have hn63 : number < 9223372036854775808 := by unfold mostN at h2; omega
      have hk63 : k < 9223372036854775808 := by omega
      have hR63 : R.size < 9223372036854775808 := by omega
      have HP8 := fun w => Lib.hid (rput8 number hn63 w)
      have HPk := fun w => Lib.hid (rput2 k hk63 w)
      have HPR := fun w => Lib.hid (rput2 R.size hR63 w)
      obtain ⟨A8, hA8⟩ : ∃ A8 : ByteArray, ⟨(putL number 8).toArray⟩ = A8 := ⟨_, rfl⟩
      obtain ⟨AK, hAK⟩ : ∃ AK : ByteArray, ⟨(putL k 2).toArray⟩ = AK := ⟨_, rfl⟩
      obtain ⟨AR, hAR⟩ : ∃ AR : ByteArray, ⟨(putL R.size 2).toArray⟩ = AR := ⟨_, rfl⟩
      obtain ⟨AZ, hAZ⟩ : ∃ AZ : ByteArray, ⟨(List.replicate m (0 : UInt8)).toArray⟩ = AZ := ⟨_, rfl⟩
      have s8 : A8.size = 8 := by rw [← hA8, mk_size, putL_len]
      have sK : AK.size = 2 := by rw [← hAK, mk_size, putL_len]
      have sR : AR.size = 2 := by rw [← hAR, mk_size, putL_len]
      have sZ : AZ.size = m := by rw [← hAZ, mk_size, List.length_replicate]
      have ha1 : ∀ w, (Op.stringOp .add A8 AK).run Tryd.prog w = .ok (.string (A8 ++ AK)) w := fun w => run_string_add_sum w _ _ (by omega)
      have ha2 : ∀ w, (Op.stringOp .add (A8 ++ AK) AR).run Tryd.prog w = .ok (.string (A8 ++ AK ++ AR)) w := fun w => run_string_add_sum w _ _ (by rw [ByteArray.size_append]; omega)
      have ha3 : ∀ w, (Op.stringOp .add (A8 ++ AK ++ AR) T).run Tryd.prog w = .ok (.string (A8 ++ AK ++ AR ++ T)) w := fun w => run_string_add_sum w _ _ (by rw [ByteArray.size_append, ByteArray.size_append]; omega)
      have ha4 : ∀ w, (Op.stringOp .add (A8 ++ AK ++ AR ++ T) AZ).run Tryd.prog w = .ok (.string (A8 ++ AK ++ AR ++ T ++ AZ)) w := fun w => run_string_add_sum w _ _ (by rw [ByteArray.size_append, ByteArray.size_append, ByteArray.size_append]; omega)
      have ha5 : ∀ w, (Op.stringOp .add (A8 ++ AK ++ AR ++ T ++ AZ) A8).run Tryd.prog w = .ok (.string (A8 ++ AK ++ AR ++ T ++ AZ ++ A8)) w := fun w => run_string_add_sum w _ _ (by rw [ByteArray.size_append, ByteArray.size_append, ByteArray.size_append, ByteArray.size_append]; omega)
      clear s8 sK sR sZ
      rw [hA8] at HP8
      rw [hAK] at HPk
      rw [hAR] at HPR
      have hcv : ∀ {w : World} {b : Nat}, Zat m w b → (convert 42 9 (.slice (some ⟨b, 0, none⟩) m m)).run Tryd.prog w = .ok (.string AZ) w := fun h => by rw [hcv0 h, hAZ]
      have hcva := fun w => hcv (zat_new m w)
      have hcvb := fun w => hcv (zat_newd m w)
      have HCV := @hcv
      have HCV' := Lib.hid (fun (w : World) (b : Nat) => @hcv w b)
      clear HCV hcv
      have HAll := Lib.hid (And.intro hA8 (And.intro hAK (And.intro hAR hAZ)))
      clear hcv0 hA8 hAK hAR hAZ hm44
      refine' meet_upw (C := fun w' => Below wr.heap.size wr w') (fun hgo => ?body) ?rest
      case body =>
        go_region_with (first
          | (go_at_call_of 21 (Value.int IntKind.i64 8); refine (HP8 _).out.mono ?_; rintro e w5 ⟨rfl, hB5⟩; have hbW := bel_trans (a := wr) (by first | assumption | exact bel_alloc (by assumption) _ | exact (Below.refl _ wr).drew | exact bel_alloc (Below.refl _ wr).drew _ | exact (bel_alloc (Below.refl _ wr) _).drew) hB5; (try (have hz5 := zat_below (m := m) (b := _) (by first | assumption | exact zat_new _ _ | exact zat_newd _ _) hB5; have hcv5 := HCV'.out _ _ hz5)))
          | (go_at_call_of 21 (ByteArray.size R); refine (HPR _).out.mono ?_; rintro e w5 ⟨rfl, hB5⟩; have hbW := bel_trans (a := wr) (by first | assumption | exact bel_alloc (by assumption) _ | exact (Below.refl _ wr).drew | exact bel_alloc (Below.refl _ wr).drew _ | exact (bel_alloc (Below.refl _ wr) _).drew) hB5; (try (have hz5 := zat_below (m := m) (b := _) (by first | assumption | exact zat_new _ _ | exact zat_newd _ _) hB5; have hcv5 := HCV'.out _ _ hz5)))
          | (go_at_call 21; refine (HPk _).out.mono ?_; rintro e w5 ⟨rfl, hB5⟩; have hbW := bel_trans (a := wr) (by first | assumption | exact bel_alloc (by assumption) _ | exact (Below.refl _ wr).drew | exact bel_alloc (Below.refl _ wr).drew _ | exact (bel_alloc (Below.refl _ wr) _).drew) hB5; (try (have hz5 := zat_below (m := m) (b := _) (by first | assumption | exact zat_new _ _ | exact zat_newd _ _) hB5; have hcv5 := HCV'.out _ _ hz5))))
        all_goals simp only [Act.put, List.getElem_toArray, List.getElem_cons_succ, List.getElem_cons_zero, List.setIfInBounds_toArray, List.set_cons_zero, List.set_cons_succ]
        all_goals generalize Value.slice (some ⟨_, 0, none⟩) m m = vz
        all_goals exact hgo vz _ (by first | assumption | exact bel_alloc (by assumption) _)
      intro vz w5 hBW
      have hsec := sec_bytes number rec k m R T HRl.out HTl.out HM.out
      rw [HAll.out.1, HAll.out.2.1, HAll.out.2.2.1, HAll.out.2.2.2] at hsec
      have HSec := Lib.hid hsec
      clear hsec HP8 HPk HPR hmk hcva hcvb HCV' ha1 ha2 ha3 ha4 ha5 HRl HTl HM HAll hsub
      rw [HSec.out]
      have hrow5 := ownsRow_below Hrow.out hBW (Nat.le_refl _)
      have hB5 : Below w.heap.size w w5 := hB.trans (hBW.mono hBs)
      have hBs5 := hB5.size
      have Hrow5 := Lib.hid hrow5
      clear hrow5 Hrow hBW
      go_wp2_with (at_builtin; refine wpList_append_own _ rfl _ _ 23 rfl w.heap.size 9 i0 _ 1 16 Tryd.underlying23 hi hz0 hz1 hz2 rfl (by decide) _ k (strCells ((List.range k).map (secText number rec))) rfl (Hrow5.out.alloc _) ⟨w5.heap.size, 0, none⟩ 1 1 [.string (secText number rec k)] rfl rfl ?c1 ?c2 ?c3 ?c4 ?c5 ?_)
      case c1 => exact cell_one_new _ _ _
      case c2 => simp [Value.oneCell']
      case c3 => unfold maxLen; omega
      case c4 => omega
      case c5 => simp; omega
      intro v' w6 hown6 hg6 hn6
      have hB6 : Below w.heap.size w w6 := (hB5.alloc (by omega) _).grown hg6 (by simp; omega) (fun g e => (Hrow5.out.lt g e).1)
      have hnil6 : v' = .slice none 0 0 ↔ k + 1 = 0 := ⟨fun e => (hn6 e).elim, fun e => by omega⟩
      have hown7 : Hid (w6.ownsRow w.heap.size 9 1 v' (k + 1) (strCells ((List.range (k + 1)).map (secText number rec)))) := by
        unfold Hid
        rw [List.range_succ, List.map_append, List.map_cons, List.map_nil, strCells_snoc]
        exact hown6
      have Hn := Lib.hid hnil6
      clear hg6 hn6 hown6 hnil6 Hnil
      go_wp2_with fail
      go_roundw
      case rel => exact ⟨k + 1, by omega, by go_num, hown7.out, Hn.out, hB6⟩
      case measure => simp [intOf]; omega
    · have hlt : decide (k < N) = false := decide_eq_false hkl
      obtain rfl : k = N := by omega
      go_wp2_with (first | (go_at_call 15; refine (HC _).out.mono ?_; rintro e w1 ⟨rfl, rfl⟩))
      go_ret2
      refine ⟨_, rfl, ?_, ?_, hB⟩
      · rw [List.length_map, List.length_range]
        exact Hrow.out
      · exact Iff.trans Hnil.out (by simp)
theorem rpack_any (w : World) (number : Int) (rec : ByteArray) :
    Calls Tryd.prog 11 #[.int .i64 number, .string rec] w fun e w' => ∃ v, e = .returned (.tuple #[v, .int .i64 (packE number rec).2]) ∧ NewTexts w w' v (packE number rec).1 := by
  unfold packE
  by_cases h1 : number < 1
  · rw [if_pos (.inl h1)]
    have d1 : decide (number < 1) = true := decide_eq_true h1
    go_enter Tryd.func11, Tryd.ntmps11
    go_wp2_with fail
    go_ret2
    exact ⟨_, rfl, newTexts_nil (Below.refl _ _)⟩
  have d1 : decide (number < 1) = false := decide_eq_false h1
  by_cases h2 : 4611686018427387904 < number
  · rw [if_pos (.inr h2)]
    have d2 : decide (4611686018427387904 < number) = true := decide_eq_true h2
    go_enter Tryd.func11, Tryd.ntmps11
    go_wp2_with fail
    go_ret2
    exact ⟨_, rfl, newTexts_nil (Below.refl _ _)⟩
  have d2 : decide (4611686018427387904 < number) = false := decide_eq_false h2
  rw [if_neg (by omega)]
  by_cases h3 : 8000 < rec.size
  · rw [if_pos h3]
    have d3 : decide (8000 < (rec.size : Int)) = true := decide_eq_true (by omega)
    go_enter Tryd.func11, Tryd.ntmps11
    go_wp2_with fail
    go_ret2
    exact ⟨_, rfl, newTexts_nil (Below.refl _ _)⟩
  · rw [if_neg h3]
    obtain ⟨n, rfl⟩ := Int.eq_ofNat_of_zero_le (show 0 ≤ number by omega)
    have := rpack_in w n rec (by omega) (by unfold mostN; omega) (by omega)
    simpa using this
end Go.Proofs.YtcifkahmeimniabDoor
