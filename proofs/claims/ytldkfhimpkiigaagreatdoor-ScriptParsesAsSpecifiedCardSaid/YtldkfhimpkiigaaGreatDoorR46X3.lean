/-
  Layer 46 (script), the specification: words.
-/
import Derived.Test.YtldkfhimpkiigaaGreatDoorR46X2
namespace Go.Proofs.YtldkfhimpkiigaaGreatDoor
open Go.RowKit ScrP
attribute [local go_sem] Oper.semAt_some

set_option maxRecDepth 100000 in
set_option maxHeartbeats 12800000 in
theorem rwords_any (s : ByteArray) (w : World) (hs : s.size ≤ 100000000) : Calls Tryz.prog 58 #[.string s] w (TxtPost (wordsB s.data.toList) w) := by
  have HSp := Lib.hid (rsplit_any s 32 w hs)
  have hcount : Hid ((partsB 32 s.data.toList).length ≤ s.size + 1) := by
    unfold Hid
    have h := parts_size 32 s.data.toList
    rw [show s.data.toList.length = s.size from Array.length_toList] at h
    generalize partsB 32 s.data.toList = L at h ⊢
    have : ∀ L : List (List UInt8), L.length ≤ (L.map fun x => x.length + 1).sum := by
      intro L
      induction L with
      | nil => exact Nat.zero_le _
      | cons a L ih => simp only [List.length_cons, List.map_cons, List.sum_cons]; omega
    have := this L
    omega
  have hW : Hid (wordsB s.data.toList = (partsB 32 s.data.toList).filter fun w => !w.isEmpty) := rfl
  obtain ⟨L, hL⟩ : ∃ L, partsB 32 s.data.toList = L := ⟨_, rfl⟩
  rw [hL] at HSp hcount hW
  obtain ⟨n, hn⟩ : ∃ n, L.length = n := ⟨_, rfl⟩
  have hn8 : n ≤ 100000001 := by rw [← hn]; have := hcount.out; omega
  unfold TxtPost at HSp
  rw [hn] at HSp
  have hnH := Lib.hid hn
  clear hs hL hn hcount
  go_enter Tryz.func58, Tryz.ntmps58
  go_wp2_with fail
  refine HSp.out.mono ?_
  rintro e w1 ⟨A, c, ts, rfl, hts, hrow, hb⟩
  have B1 := Lib.hid hb
  have htl : Hid (ts.length = n) := by unfold Hid; rw [← bls_len, hts]; exact hnH.out
  have HR := Lib.hid (own_rowAt hrow hb.size)
  have htsH := Lib.hid hts
  obtain ⟨B0, hB0⟩ : ∃ g, w1.heap.size = g := ⟨_, rfl⟩
  have hBw : Hid (w1.heap.size = B0) := hB0
  rw [hB0] at HR
  clear hb hrow hts HSp hB0
  go_wp2_with fail
  go_loopw [4, 5] (fun v4 v5 wr => ∃ (k : Nat) (us : List ByteArray), v5 = .int .i64 (k : Int) ∧ Hid (k ≤ n) ∧ Hid (bls us = (L.take k).filter fun w => !w.isEmpty) ∧ Hid (us.length ≤ k) ∧ Hid (wr.ownsRow B0 9 1 v4 us.length (strsC us)) ∧ Hid (Below B0 w1 wr)) (fun _ v5 _ => n - (intOf v5).toNat)
  case atStart => exact ⟨0, [], rfl, Nat.zero_le _, rfl, Nat.le_refl _, World.ownsRow_nil _ _ _ _, Below.refl _ _⟩
  case round =>
  obtain ⟨k, us, rfl, hk, hE, hul, hR, hF⟩ := hrel
  obtain ⟨w3, hw3⟩ : ∃ x, x = wr := ⟨_, rfl⟩
  subst hw3
  have hbb : Hid (B0 ≤ w3.heap.size) := Nat.le_trans (Nat.le_of_eq hBw.out.symm) hF.out.size
  by_cases hlt : k < n
  · have d1 : decide (k < n) = true := decide_eq_true hlt
    have d2 : decide ((k : Int) < (n : Int)) = true := decide_eq_true (by omega)
    have q0 : (0 : Int) ≤ (k : Int) := by omega
    have q1 : (k : Int) < (n : Int) := by omega
    have hlS : Hid (us.length + 1 ≤ 1000000000) := by unfold Hid; have := hul.out; omega
    obtain ⟨x, hx⟩ : ∃ x, ts[k]? = some x := ⟨_, List.getElem?_eq_getElem (by rw [htl.out]; exact hlt)⟩
    obtain ⟨b, o, rfl, ca⟩ := text_at (HR.out.below hF.out) htl.out hx
    have hLk : L[k]? = some x.data.toList := by rw [← htsH.out]; unfold bls; rw [List.getElem?_map, hx]; rfl
    have hst : Hid ((L.take (k + 1)).filter (fun w => !w.isEmpty) = (L.take k).filter (fun w => !w.isEmpty) ++ if x.data.toList.isEmpty then [] else [x.data.toList]) := by
      unfold Hid
      rw [take_m4 hLk, List.filter_append, List.filter_cons]
      cases x.data.toList.isEmpty <;> rfl
    have hltH := Lib.hid hlt
    clear hx hLk hlt
    obtain ⟨Av, Cv, rfl⟩ := own_slice hR.out
    by_cases he : x.data.toList = []
    · have e1 : (x.toList == []) = true := by rw [ByteArray.toList_eq, he]; rfl
      have hnew : Hid (bls us = (L.take (k + 1)).filter fun w => !w.isEmpty) := by
        unfold Hid
        rw [hst.out, he, hE.out]
        simp
      clear he
      go_wp2_with fail
      go_roundw
      case rel => exact ⟨k + 1, us, by go_num, hltH.out, hnew.out, by have := hul.out; unfold Hid; omega, hR.out, hF.out⟩
      case measure => have := hltH.out; simp [intOf]; omega
    · have e1 : (x.toList == []) = false := by rw [ByteArray.toList_eq, beq_eq_false_iff_ne]; exact he
      have hnew : Hid (bls (us ++ [x]) = (L.take (k + 1)).filter fun w => !w.isEmpty) := by
        unfold Hid
        rw [hst.out, bls_snoc, hE.out]
        cases hxl : x.data.toList with
        | nil => exact absurd hxl he
        | cons a r => rfl
      have ho1 : ∀ u ∈ (#[.string x] : Array Value).toList, u.oneCell' = true := fun u hu => by rw [List.mem_singleton.1 hu]; rfl
      clear he
      go_upto_region 5 with (refine wp_gpush_list 22 9 (.string ⟨#[]⟩) 1 16 Tryz.underlying22 (by kernel_rfl) rfl (by decide) (by decide) rfl _ _ rfl B0 (.slice Av us.length Cv) us.length (strsC us) rfl hR.out 1 1 #[.string x] rfl rfl ho1 hlS.out hbb.out ?_; intro v9 w9 hP9; obtain ⟨A9, C9, rfl⟩ := own_slice hP9.row)
      have R9 : Hid (w9.ownsRow B0 9 1 (.slice A9 (us.length + 1) C9) (us ++ [x]).length (strsC (us ++ [x]))) := by
        unfold Hid
        rw [strsC_snoc, List.length_append]
        exact hP9.row
      have F9 := Lib.hid (hP9.bel B0 w1 (Nat.le_refl _) hbb.out hF.out)
      clear hP9 hR hF ho1
      go_wp2_with fail
      go_roundw
      case rel => exact ⟨k + 1, us ++ [x], by go_num, hltH.out, hnew.out, by have := hul.out; unfold Hid; rw [List.length_append]; show us.length + 1 ≤ _; omega, R9.out, F9.out⟩
      case measure => have := hltH.out; simp [intOf]; omega
  · have d1 : decide (k < n) = false := decide_eq_false hlt
    have d2 : decide ((k : Int) < (n : Int)) = false := decide_eq_false (by omega)
    have hfin : Hid (bls us = wordsB s.data.toList) := by
      unfold Hid
      rw [hE.out, hW.out, List.take_of_length_le (by rw [hnH.out]; omega)]
    have hlenL : Hid ((wordsB s.data.toList).length = us.length) := by unfold Hid; rw [← hfin.out, bls_len]
    obtain ⟨Av, Cv, rfl⟩ := own_slice hR.out
    clear hlt
    go_wp2_with fail
    go_ret
    refine ⟨Av, Cv, us, by rw [hlenL.out]; rfl, hfin.out, ?_, B1.out.trans (hF.out.mono (Nat.le_trans B1.out.size (Nat.le_of_eq hBw.out)))⟩
    rw [hlenL.out]
    exact own_more hR.out (Nat.le_trans B1.out.size (Nat.le_of_eq hBw.out))
end Go.Proofs.YtldkfhimpkiigaaGreatDoor
