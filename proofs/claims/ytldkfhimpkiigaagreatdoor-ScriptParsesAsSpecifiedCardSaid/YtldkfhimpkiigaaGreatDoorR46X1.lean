/-
  Layer 46 (script), the specification: digit, split.
-/
import Derived.Test.YtldkfhimpkiigaaGreatDoorR46W7
import Derived.Test.YtldkfhimpkiigaaGreatDoorScrP8
namespace Go.Proofs.YtldkfhimpkiigaaGreatDoor
open Go.RowKit ScrP
attribute [local go_sem] Oper.semAt_some

def digI (c : UInt8) : Int := match unD c with
  | some v => (v : Int)
  | none => -1
theorem unD_some {c : UInt8} {v : Nat} (h : unD c = some v) : v < 16 ∧ hexD v = c := by
  have ht : ((List.range 256).all fun n => match unD (UInt8.ofNat n) with
    | some v => decide (v < 16) && decide (hexD v = UInt8.ofNat n)
    | none => true) = true := by kernel_rfl
  have h1 := List.all_eq_true.1 ht c.toNat (List.mem_range.2 c.toNat_lt)
  rw [UInt8.ofNat_toNat, h] at h1
  simpa using h1
theorem digI_hit {c : UInt8} {k : Nat} (hk : k < 16) (h : hexD k = c) : digI c = (k : Int) := by
  unfold digI
  rw [← h, (hexD_val hk).1]
theorem digI_miss {c : UInt8} (h : ∀ j, j < 16 → hexD j ≠ c) : digI c = -1 := by
  unfold digI
  cases hu : unD c with
  | none => rfl
  | some v =>
    obtain ⟨h1, h2⟩ := unD_some hu
    exact absurd h2 (h v h1)
theorem hex_at64 (k : Nat) (h : k < 16) (wx : World) : (Instr.index 9 (.string ⟨#[48, 49, 50, 51, 52, 53, 54, 55, 56, 57, 97, 98, 99, 100, 101, 102]⟩) (.int .i64 (k : Int))).run Tryz.prog wx = .ok (.int .u8 ((hexD k).toNat : Int)) wx := by
  have ht : ((List.range 16).all fun j => decide (hexT.data.toList[j]? = some (hexD j))) = true := by kernel_rfl
  exact str_index (s := hexT) (of_decide_eq_true (List.all_eq_true.1 ht k (List.mem_range.2 h))) wx
set_option maxRecDepth 100000 in
theorem rdigit_any (c : UInt8) (w : World) : Calls Tryz.prog 97 #[.int .u8 (c.toNat : Int)] w fun e w' => e = .returned (.int .i64 (digI c)) ∧ w' = w := by
  go_enter Tryz.func97, Tryz.ntmps97
  go_wp2_with fail
  go_loopw [3] (fun v3 wr => ∃ k : Nat, v3 = .int .i64 (k : Int) ∧ Hid (k ≤ 16) ∧ Hid (∀ j, j < k → hexD j ≠ c) ∧ wr = w) (fun v3 _ => 16 - (intOf v3).toNat)
  case atStart => exact ⟨0, rfl, Nat.zero_le _, fun j h => absurd h (Nat.not_lt_zero _), rfl⟩
  case round =>
  obtain ⟨k, rfl, hk, hA, rfl⟩ := hrel
  by_cases hlt : k < 16
  · have d1 : decide (k < 16) = true := decide_eq_true hlt
    have d2 : decide ((k : Int) < 16) = true := decide_eq_true (by omega)
    have i1 := hex_at64 k hlt
    have hltH := Lib.hid hlt
    have q0 : k ≤ 16 := by omega
    by_cases he : hexD k = c
    · have e1 : (((hexD k).toNat : Int) == (c.toNat : Int)) = true := by rw [he]; exact beq_self_eq_true _
      have hR := Lib.hid (digI_hit hlt he)
      clear hlt he
      go_wp2_with fail
      go_ret
      exact ⟨by rw [hR.out]; rfl, rfl⟩
    · have e1 : (((hexD k).toNat : Int) == (c.toNat : Int)) = false := by
        rw [beq_eq_false_iff_ne]
        intro h
        exact he (UInt8.toNat_inj.1 (by omega))
      have hnew : Hid (∀ j, j < k + 1 → hexD j ≠ c) := fun j hj => by
        by_cases h : j = k
        · rw [h]; exact he
        · exact hA.out j (by omega)
      clear hlt he
      go_wp2_with fail
      go_roundw
      case rel => exact ⟨k + 1, by go_num, hltH.out, hnew.out, by first | rfl | trivial⟩
      case measure => have := hltH.out; simp [intOf]; omega
  · have d1 : decide (k < 16) = false := decide_eq_false hlt
    have d2 : decide ((k : Int) < 16) = false := decide_eq_false (by omega)
    have hR : Hid (digI c = -1) := digI_miss fun j hj => hA.out j (by omega)
    clear hlt
    go_wp2_with fail
    go_ret
    exact ⟨by rw [hR.out]; rfl, rfl⟩
/-! split -/
theorem str_part (s : ByteArray) (a b : Nat) (h1 : a ≤ b) (h2 : b ≤ s.size) (wx : World) : (Instr.slice 9 (.string s) (some (.int .i64 (a : Int))) (some (.int .i64 (b : Int))) none).run Tryz.prog wx = .ok (.string (s.extract a b)) wx := by
  have h3 : ¬ (a : Int) < 0 := by omega
  have h4 : ¬ (b : Int) < 0 := by omega
  have h5 : ¬ s.size < b := by omega
  have h6 : ¬ b < a := by omega
  simp [Instr.slice, Instr.sliceBounds, Instr.sliceBound, asIntOf, run_underlying Tryz.underlying9]
  rw [if_pos h2, if_pos h1]
theorem ext_list (s : ByteArray) (a b : Nat) : (s.extract a b).data.toList = (s.data.toList.drop a).take (b - a) := by
  rw [ByteArray.data_extract, Array.toList_extract, List.extract_eq_take_drop]
theorem parts_cut {c : UInt8} {l : List UInt8} {k : Nat} (hk : l[k]? = some c) (h : ∀ x ∈ l.take k, x ≠ c) : partsB c l = l.take k :: partsB c (l.drop (k + 1)) := by
  have hlt := (List.getElem?_eq_some_iff.1 hk).1
  have hx := (List.getElem?_eq_some_iff.1 hk).2
  have e : l = l.take k ++ c :: l.drop (k + 1) := by
    have h0 : l = l.take k ++ l.drop k := (List.take_append_drop k l).symm
    rw [List.drop_eq_getElem_cons hlt, hx] at h0
    exact h0
  have h1 : partsB c l = partsB c (l.take k ++ c :: l.drop (k + 1)) := congrArg (partsB c) e
  rw [h1, parts_app, parts_none h]
  rfl
end Go.Proofs.YtldkfhimpkiigaaGreatDoor
