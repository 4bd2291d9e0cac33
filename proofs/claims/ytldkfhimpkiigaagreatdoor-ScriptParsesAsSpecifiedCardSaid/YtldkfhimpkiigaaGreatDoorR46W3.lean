/-
  Layer 46 (script), the specification: Kind, decimal.
-/
import Derived.Test.YtldkfhimpkiigaaGreatDoorR46W2
namespace Go.Proofs.YtldkfhimpkiigaaGreatDoor
open Go.RowKit ScrP
attribute [local go_sem] Oper.semAt_some

def jdx (s : ByteArray) : Nat := (krows.drop 1).findIdx fun r => r.name.toList == s.toList
theorem kindN_jdx (s : ByteArray) : kindN s = if jdx s < 23 then jdx s + 1 else 0 := by
  unfold kindN
  by_cases h0 : s.size = 0
  · rw [if_pos h0]
    have : s = ⟨#[]⟩ := by
      refine ByteArray.ext (Array.ext' ?_)
      exact List.eq_nil_of_length_eq_zero (by rw [Array.length_toList]; exact h0)
    subst this
    have : jdx ⟨#[]⟩ = 23 := by kernel_rfl
    rw [this]
    rfl
  · rw [if_neg h0]
    have h1 : krows.findIdx (fun r => r.name.toList == s.toList) = jdx s + 1 := by
      have e : krows = noRow :: krows.drop 1 := rfl
      rw [e, List.findIdx_cons]
      have : (noRow.name.toList == s.toList) = false := by
        rw [beq_eq_false_iff_ne, ByteArray.toList_eq, ByteArray.toList_eq]
        intro h
        refine h0 ?_
        show s.data.size = 0
        rw [← Array.length_toList, ← h]
        rfl
      rw [this]
      rfl
    dsimp only
    rw [h1]
    by_cases h2 : jdx s < 23
    · rw [if_pos h2, if_pos (by omega)]
    · rw [if_neg h2, if_neg (by omega)]
theorem jdx_step {s : ByteArray} {k : Nat} {r : KRow} (hr : krows[k + 1]? = some r) : (krows.drop (k + 1)).findIdx (fun r => r.name.toList == s.toList) = if (r.name.toList == s.toList) = true then 0 else (krows.drop (k + 2)).findIdx (fun r => r.name.toList == s.toList) + 1 := by
  obtain ⟨h1, h2⟩ := List.getElem?_eq_some_iff.1 hr
  rw [List.drop_eq_getElem_cons h1, h2, List.findIdx_cons]
  cases (r.name.toList == s.toList) <;> rfl
set_option maxRecDepth 100000 in
theorem rKind_any (s : ByteArray) (w : World) : Calls Tryz.prog 12 #[.string s] w fun e w' => e = .returned (.tuple #[.int .i64 (kindN s : Int), .bool (decide (0 < kindN s))]) ∧ Below w.heap.size w w' := by
  have HT := Lib.hid (rtab_any w)
  obtain ⟨b, hbb⟩ : ∃ b, w.heap.size = b := ⟨_, rfl⟩
  rw [hbb] at HT
  have hbH := Lib.hid hbb
  go_enter Tryz.func12, Tryz.ntmps12
  go_wp2_with fail
  refine HT.out.mono ?_
  rintro e w1 ⟨rfl, ht, hb⟩
  have HB : Hid (Below w.heap.size w w1) := by unfold Hid; rw [hbH.out]; exact hb
  have RT := Lib.hid ht
  clear ht hb HT hbb
  go_wp2_with fail
  go_loopw [5] (fun v5 wr => ∃ k : Nat, v5 = .int .i64 (k : Int) ∧ k ≤ 23 ∧ Hid (jdx s = k + (krows.drop (k + 1)).findIdx (fun r => r.name.toList == s.toList)) ∧ wr = w1) (fun v5 _ => 23 - (intOf v5).toNat)
  case atStart => exact ⟨0, rfl, Nat.zero_le _, by unfold Hid jdx; rw [Nat.zero_add], rfl⟩
  case round =>
  obtain ⟨k, rfl, hk, hE, rfl⟩ := hrel
  by_cases hlt : k < 23
  · have d1 : decide (k < 23) = true := decide_eq_true hlt
    have d2 : decide ((k : Int) < 23) = true := decide_eq_true (by omega)
    have k1 : (0 : Int) ≤ (k : Int) := by omega
    have k2 : (k : Int) < 23 := by omega
    obtain ⟨r, hr⟩ : ∃ r, krows[k + 1]? = some r := ⟨_, List.getElem?_eq_getElem (by rw [krows_len]; omega)⟩
    obtain ⟨c0, _⟩ := RT.out.row hr
    have hst := Lib.hid (jdx_step (s := s) hr)
    have hltH := Lib.hid hlt
    obtain ⟨c, hc⟩ : ∃ c, (r.name.toList == s.toList) = c := ⟨_, rfl⟩
    rw [hc] at hst
    clear hr hlt
    cases c
    · go_wp2_with fail
      go_roundw
      case rel =>
        have h3 := hst.out
        rw [if_neg Bool.false_ne_true] at h3
        exact ⟨k + 1, by go_num, hltH.out, by unfold Hid; show jdx s = k + 1 + (krows.drop (k + 2)).findIdx _; rw [hE.out, h3]; omega, by first | rfl | trivial⟩
      case measure => have := hltH.out; simp [intOf]; omega
    · have hK : Hid (kindN s = k + 1) := by
        unfold Hid
        rw [kindN_jdx, hE.out, hst.out, if_pos rfl, Nat.add_zero, if_pos hltH.out]
      go_wp2_with fail
      go_ret2
      exact ⟨by rw [hK.out]; rfl, HB.out⟩
  · have d1 : decide (k < 23) = false := decide_eq_false hlt
    have d2 : decide ((k : Int) < 23) = false := decide_eq_false (by omega)
    have hK : Hid (kindN s = 0) := by
      unfold Hid
      rw [kindN_jdx, hE.out, if_neg (by omega)]
    go_wp2_with fail
    go_ret2
    exact ⟨by rw [hK.out]; rfl, HB.out⟩
/-- What decimal returns as a number. -/
def decN (l : List UInt8) : Nat := if decOk l = true then decVal l else 0
theorem decVal_snoc (l : List UInt8) (c : UInt8) : decVal (l ++ [c]) = 10 * decVal l + (c.toNat - 48) := by unfold decVal; rw [List.foldl_append]; rfl
theorem dec_small0 : ∀ (l : List UInt8) (n : Nat), l.all isD = true → l.foldl (fun n c => 10 * n + (c.toNat - 48)) n < (n + 1) * 10 ^ l.length
  | [], n, _ => by rw [List.foldl_nil, List.length_nil, Nat.pow_zero]; omega
  | c :: l, n, h => by
    rw [List.all_cons, Bool.and_eq_true] at h
    have h2 : c.toNat ≤ 57 := by
      have := h.1
      unfold isD at this
      simp only [Bool.and_eq_true, decide_eq_true_eq] at this
      exact this.2
    have h1 := dec_small0 l (10 * n + (c.toNat - 48)) h.2
    rw [List.foldl_cons, List.length_cons, Nat.pow_succ]
    refine Nat.lt_of_lt_of_le h1 ?_
    rw [Nat.mul_comm (10 ^ l.length) 10, ← Nat.mul_assoc]
    exact Nat.mul_le_mul_right _ (by omega)
theorem dec_small (l : List UInt8) (h : l.all isD = true) : decVal l < 10 ^ l.length := by
  have := dec_small0 l 0 h
  rw [Nat.zero_add, Nat.one_mul] at this
  exact this
end Go.Proofs.YtldkfhimpkiigaaGreatDoor
