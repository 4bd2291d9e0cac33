/-
  Layer 46 (script): lines: strings.Split at one byte (plain).
-/
import Derived.Test.YtldkfhimpkiigaaGreatDoorScrP2
import Derived.Lib.SplitLaws
namespace Go.Proofs.YtldkfhimpkiigaaGreatDoor
namespace ScrP
open Go.Lib (splitK splitB splitB_data splitB_all count countB count_cons_eq count_cons_ne count_miss count_hit index index_ge)

theorem index_same (c : UInt8) (l : List UInt8) : index (c :: l) [c] = 0 := by rw [index]; simp [List.isPrefixOf]
theorem index_other {b c : UInt8} (l : List UInt8) (h : b ≠ c) : index (b :: l) [c] = if index l [c] == -1 then -1 else index l [c] + 1 := by
  have hp : ([c] : List UInt8).isPrefixOf (b :: l) = false := by simp [List.isPrefixOf, Ne.symm h]
  rw [index, hp]
  simp
theorem split_parts (c : UInt8) : ∀ l : List UInt8, splitK [c] 0 (count l [c]) l = partsB c l
  | [] => by rw [count_miss (by simp [index])]; rfl
  | b :: l => by
    have ih := split_parts c l
    by_cases h : b = c
    · subst h
      rw [count_cons_eq, Nat.add_comm, splitK, index_same, if_neg (by decide), partsB_hit, ← ih]
      rfl
    · rw [count_cons_ne b c l h]
      obtain ⟨a, t, e1, e2⟩ := partsB_miss l h
      rw [e2]
      rw [e1] at ih
      cases hk : count l [c] with
      | zero =>
        rw [hk] at ih
        injection ih with h1 h2
        rw [← h1, ← h2]
        rfl
      | succ k =>
        rw [hk] at ih
        have hm : index l [c] ≠ -1 := fun e => by rw [count_miss e] at hk; cases hk
        have hge := index_ge l [c]
        obtain ⟨j, hj⟩ : ∃ j : Nat, index l [c] = j := ⟨(index l [c]).toNat, by omega⟩
        have hix : index (b :: l) [c] = ((j + 1 : Nat) : Int) := by rw [index_other l h, if_neg (fun e => hm (beq_iff_eq.1 e)), hj]; omega
        rw [splitK, hj, if_neg (by rw [beq_iff_eq]; omega)] at ih
        injection ih with h1 h2
        rw [splitK, hix, if_neg (by rw [beq_iff_eq]; omega), ← h1, ← h2]
        rfl
theorem lines_of (s : ByteArray) : (splitB ⟨#[10]⟩ 0 (countB s ⟨#[10]⟩) s).map (fun x => x.data.toList) = partsB 10 s.data.toList := by
  have h := splitB_data ⟨#[10]⟩ 0 (countB s ⟨#[10]⟩) s
  rw [h]
  exact split_parts 10 _
theorem lines_len (s : ByteArray) : (splitB ⟨#[10]⟩ 0 (countB s ⟨#[10]⟩) s).length = countB s ⟨#[10]⟩ + 1 := splitB_all ⟨#[10]⟩ (by decide) 0 _ s rfl
/-- The parts and what divides them are as long as the whole. -/
theorem parts_size (c : UInt8) : ∀ l : List UInt8, ((partsB c l).map fun x => x.length + 1).sum = l.length + 1
  | [] => rfl
  | b :: l => by
    have ih := parts_size c l
    by_cases h : b = c
    · subst h
      rw [partsB_hit, List.map_cons, List.sum_cons, ih, List.length_cons]
      show 0 + 1 + _ = _
      omega
    · obtain ⟨a, t, e1, e2⟩ := partsB_miss l h
      rw [e1, List.map_cons, List.sum_cons] at ih
      rw [e2, List.map_cons, List.sum_cons, List.length_cons, List.length_cons]
      omega
end ScrP
end Go.Proofs.YtldkfhimpkiigaaGreatDoor
