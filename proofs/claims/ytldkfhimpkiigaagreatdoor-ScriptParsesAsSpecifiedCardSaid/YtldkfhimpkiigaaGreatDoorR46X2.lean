/-
  Layer 46 (script), the specification: split, words.
-/
import Derived.Test.YtldkfhimpkiigaaGreatDoorR46X1
import Derived.Test.YtldkfhimpkiigaaGreatDoorCatRow
namespace Go.Proofs.YtldkfhimpkiigaaGreatDoor
open Go.RowKit ScrP
attribute [local go_sem] Oper.semAt_some

/-- What split and words leave: a row of texts of the call's own. -/
def TxtPost (L : List (List UInt8)) (w : World) (e : Ending) (w' : World) : Prop := ∃ (A : Option Addr) (c : Nat) (ts : List ByteArray), e = .returned (.slice A L.length c) ∧ bls ts = L ∧ w'.ownsRow w.heap.size 9 1 (.slice A L.length c) L.length (strsC ts) ∧ Below w.heap.size w w'
theorem bls_snoc (ts : List ByteArray) (t : ByteArray) : bls (ts ++ [t]) = bls ts ++ [t.data.toList] := by unfold bls; rw [List.map_append]; rfl
theorem bls_len (ts : List ByteArray) : (bls ts).length = ts.length := by unfold bls; exact List.length_map ..
theorem strsC_snoc (ts : List ByteArray) (t : ByteArray) : strsC (ts ++ [t]) = strsC ts ++ [.string t] := by unfold strsC; rw [List.map_append]; rfl
set_option maxRecDepth 100000 in
set_option maxHeartbeats 12800000 in
theorem rsplit_any (s : ByteArray) (c : UInt8) (w : World) (hs : s.size ≤ 100000000) : Calls Tryz.prog 57 #[.string s, .int .u8 (c.toNat : Int)] w (TxtPost (partsB c s.data.toList) w) := by
  have hlen : Hid (s.data.toList.length = s.size) := Array.length_toList
  have hcount : Hid ((partsB c s.data.toList).length ≤ s.size + 1) := by
    unfold Hid
    have h := parts_size c s.data.toList
    rw [hlen.out] at h
    generalize partsB c s.data.toList = L at h ⊢
    have : ∀ L : List (List UInt8), L.length ≤ (L.map fun x => x.length + 1).sum := by
      intro L
      induction L with
      | nil => exact Nat.zero_le _
      | cons a L ih => simp only [List.length_cons, List.map_cons, List.sum_cons]; omega
    have := this L
    omega
  obtain ⟨B0, hB0⟩ : ∃ g, w.heap.size = g := ⟨_, rfl⟩
  have hBw : Hid (w.heap.size = B0) := hB0
  have hsH := Lib.hid hs
  clear hs hB0
  go_enter Tryz.func57, Tryz.ntmps57
  go_wp2_with fail
  go_loopw [5, 6, 7] (fun v5 v6 v7 wr => ∃ (at_ k : Nat) (ts : List ByteArray), v6 = .int .i64 (at_ : Int) ∧ v7 = .int .i64 (k : Int) ∧ Hid (at_ ≤ k ∧ k ≤ s.size) ∧ Hid (partsB c s.data.toList = bls ts ++ partsB c (s.data.toList.drop at_)) ∧ Hid (∀ x ∈ (s.data.toList.drop at_).take (k - at_), x ≠ c) ∧ Hid (wr.ownsRow B0 9 1 v5 ts.length (strsC ts)) ∧ Hid (Below B0 w wr)) (fun _ _ v7 _ => s.size - (intOf v7).toNat)
  case atStart => exact ⟨0, 0, [], rfl, rfl, ⟨Nat.le_refl _, Nat.zero_le _⟩, rfl, fun x hx => (by rw [Nat.sub_self, List.take_zero] at hx; cases hx), World.ownsRow_nil _ _ _ _, Below.refl _ _⟩
  case round =>
  obtain ⟨a, k, ts, rfl, rfl, hk, hE, hA, hR, hF⟩ := hrel
  obtain ⟨w3, hw3⟩ : ∃ x, x = wr := ⟨_, rfl⟩
  subst hw3
  have hn : Hid (ts.length ≤ 100000000) := by
    unfold Hid
    have h1 := hcount.out
    have h2 := congrArg List.length hE.out
    rw [List.length_append, bls_len] at h2
    have h3 : 1 ≤ (partsB c (s.data.toList.drop a)).length := List.length_pos_iff.2 (parts_ne _ _)
    have := hsH.out
    omega
  have hb : Hid (B0 ≤ w3.heap.size) := Nat.le_trans (Nat.le_of_eq hBw.out.symm) hF.out.size
  have hlS : Hid (ts.length + 1 ≤ 1000000000) := by unfold Hid; have := hn.out; omega
  have ka : a ≤ k := hk.out.1
  have ks : k ≤ s.size := hk.out.2
  have hs8 : s.size ≤ 100000000 := hsH.out
  obtain ⟨Av, Cv, rfl⟩ := own_slice hR.out
  by_cases hlt : k < s.size
  · have d1 : decide (k < s.size) = true := decide_eq_true hlt
    have d2 : decide ((k : Int) < (s.size : Int)) = true := decide_eq_true (by omega)
    obtain ⟨x, hx⟩ : ∃ x, s.data.toList[k]? = some x := ⟨_, List.getElem?_eq_getElem (by rw [hlen.out]; exact hlt)⟩
    have ix := str_index hx
    have hxd : (s.data.toList.drop a)[k - a]? = some x := by rw [List.getElem?_drop, show a + (k - a) = k by omega]; exact hx
    have hxdH := Lib.hid hxd
    have hltH := Lib.hid hlt
    by_cases he : x = c
    · have e1 : ((x.toNat : Int) == (c.toNat : Int)) = true := by rw [he]; exact beq_self_eq_true _
      have sl := str_part s a k ka ks
      obtain ⟨z, hz⟩ : ∃ z, s.extract a k = z := ⟨_, rfl⟩
      have hzl : Hid (z.data.toList = (s.data.toList.drop a).take (k - a)) := by unfold Hid; rw [← hz]; exact ext_list s a k
      rw [hz] at sl
      have hnew : Hid (partsB c s.data.toList = bls (ts ++ [z]) ++ partsB c (s.data.toList.drop (k + 1))) := by
        unfold Hid
        rw [hE.out, bls_snoc, hzl.out, parts_cut (k := k - a) (by rw [hxdH.out, he]) hA.out, List.drop_drop, show a + (k - a + 1) = k + 1 by omega, List.append_assoc]
        rfl
      have ho1 : ∀ u ∈ (#[.string z] : Array Value).toList, u.oneCell' = true := fun u hu => by rw [List.mem_singleton.1 hu]; rfl
      clear he hx hxd hz hlt
      go_upto_region 8 with (refine wp_gpush_list 22 9 (.string ⟨#[]⟩) 1 16 Tryz.underlying22 (by kernel_rfl) rfl (by decide) (by decide) rfl _ _ rfl B0 (.slice Av ts.length Cv) ts.length (strsC ts) rfl hR.out 1 1 #[.string z] rfl rfl ho1 hlS.out hb.out ?_; intro v9 w9 hP9; obtain ⟨A9, C9, rfl⟩ := own_slice hP9.row)
      have R9 : Hid (w9.ownsRow B0 9 1 (.slice A9 (ts.length + 1) C9) (ts ++ [z]).length (strsC (ts ++ [z]))) := by
        unfold Hid
        rw [strsC_snoc, List.length_append]
        exact hP9.row
      have F9 := Lib.hid (hP9.bel B0 w (Nat.le_refl _) hb.out hF.out)
      clear hP9 hR hF ho1
      go_wp2_with fail
      go_roundw
      case rel => exact ⟨k + 1, k + 1, ts ++ [z], by go_num, by go_num, ⟨Nat.le_refl _, hltH.out⟩, hnew.out, fun x hx => (by rw [Nat.sub_self, List.take_zero] at hx; cases hx), R9.out, F9.out⟩
      case measure => have := hltH.out; simp [intOf]; omega
    · have e1 : ((x.toNat : Int) == (c.toNat : Int)) = false := by
        rw [beq_eq_false_iff_ne]
        intro h
        exact he (UInt8.toNat_inj.1 (by omega))
      have hnew : Hid (∀ y ∈ (s.data.toList.drop a).take (k + 1 - a), y ≠ c) := by
        unfold Hid
        rw [show k + 1 - a = (k - a) + 1 by omega, take_m4 hxdH.out]
        intro y hy
        rcases List.mem_append.1 hy with hy | hy
        · exact hA.out y hy
        · rw [List.mem_singleton.1 hy]; exact he
      clear he hx hxd hlt
      go_wp2_with fail
      go_roundw
      case rel => exact ⟨a, k + 1, ts, rfl, by go_num, ⟨by omega, hltH.out⟩, hE.out, hnew.out, hR.out, hF.out⟩
      case measure => have := hltH.out; simp [intOf]; omega
  · have d1 : decide (k < s.size) = false := decide_eq_false hlt
    have d2 : decide ((k : Int) < (s.size : Int)) = false := decide_eq_false (by omega)
    have sl := str_from s a (by omega)
    obtain ⟨z, hz⟩ : ∃ z, s.extract a s.size = z := ⟨_, rfl⟩
    have hzl : Hid (z.data.toList = s.data.toList.drop a) := by
      unfold Hid
      rw [← hz, ext_list, List.take_of_length_le (by rw [List.length_drop, hlen.out]; omega)]
    rw [hz] at sl
    have hfin : Hid (partsB c s.data.toList = bls (ts ++ [z])) := by
      unfold Hid
      have h1 := hA.out
      rw [List.take_of_length_le (by rw [List.length_drop, hlen.out]; omega)] at h1
      rw [hE.out, bls_snoc, hzl.out, parts_none h1]
    have ho1 : ∀ u ∈ (#[.string z] : Array Value).toList, u.oneCell' = true := fun u hu => by rw [List.mem_singleton.1 hu]; rfl
    have hlenL : Hid ((partsB c s.data.toList).length = ts.length + 1) := by unfold Hid; rw [hfin.out, bls_len, List.length_append]; rfl
    clear hlt hz
    go_wp2_with (refine wp_gpush_list 22 9 (.string ⟨#[]⟩) 1 16 Tryz.underlying22 (by kernel_rfl) rfl (by decide) (by decide) rfl _ _ rfl B0 (.slice Av ts.length Cv) ts.length (strsC ts) rfl hR.out 1 1 #[.string z] rfl rfl ho1 hlS.out hb.out ?_; intro v9 w9 hP9; obtain ⟨A9, C9, rfl⟩ := own_slice hP9.row; have R9 := Lib.hid hP9.row; have F9 := Lib.hid (hP9.bel B0 w (Nat.le_refl _) hb.out hF.out); clear hP9)
    go_ret
    refine ⟨A9, C9, ts ++ [z], by rw [hlenL.out]; rfl, hfin.out.symm, ?_, ?_⟩
    · rw [hlenL.out, strsC_snoc, hBw.out]; exact R9.out
    · rw [hBw.out]; exact F9.out
end Go.Proofs.YtldkfhimpkiigaaGreatDoor
