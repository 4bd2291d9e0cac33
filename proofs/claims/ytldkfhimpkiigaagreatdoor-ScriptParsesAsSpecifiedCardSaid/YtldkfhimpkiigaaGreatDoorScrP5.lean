/-
  Layer 46 (script): what Print prints (plain).
-/
import Derived.Test.YtldkfhimpkiigaaGreatDoorScrP4
import Derived.Lib.Replace
import Derived.Lib.ItoaLen
namespace Go.Proofs.YtldkfhimpkiigaaGreatDoor
namespace ScrP
open Go.Lib (count count_cons_eq count_cons_ne count_miss index index_ge replaceK replaceNum replace replaceAll)

def barB (l : List UInt8) : List UInt8 := l.flatMap fun c => if c = 10 then [10, 124] else [c]
theorem repl_bar : ∀ l : List UInt8, replaceK [10] [10, 124] (count l [10]) l = barB l
  | [] => by rw [count_miss (by simp [index])]; rfl
  | b :: l => by
    have ih := repl_bar l
    by_cases h : b = 10
    · subst h
      rw [count_cons_eq, Nat.add_comm, replaceK, index_same, if_neg (by decide)]
      show [] ++ [10, 124] ++ replaceK [10] [10, 124] (count l [10]) l = [10, 124] ++ barB l
      rw [ih]
      rfl
    · rw [count_cons_ne b 10 l h]
      have e2 : barB (b :: l) = b :: barB l := by unfold barB; rw [List.flatMap_cons, if_neg h]; rfl
      rw [e2, ← ih]
      cases hk : count l [10] with
      | zero => rfl
      | succ k =>
        have hm : index l [10] ≠ -1 := fun e => by rw [count_miss e] at hk; cases hk
        have hge := index_ge l [10]
        obtain ⟨j, hj⟩ : ∃ j : Nat, index l [10] = j := ⟨(index l [10]).toNat, by omega⟩
        have hix : index (b :: l) [10] = ((j + 1 : Nat) : Int) := by rw [index_other l h, if_neg (fun e => hm (beq_iff_eq.1 e)), hj]; omega
        rw [replaceK, hix, if_neg (by rw [beq_iff_eq]; omega), replaceK, hj, if_neg (by rw [beq_iff_eq]; omega)]
        rfl
theorem repl_all (l : List UInt8) : replaceAll l [10] [10, 124] = barB l := by
  unfold replaceAll replace replaceNum
  rw [if_neg (by decide), if_pos (.inl (by decide))]
  exact repl_bar l
theorem barB_len (l : List UInt8) : (barB l).length ≤ 2 * l.length := by
  unfold barB
  induction l with
  | nil => exact Nat.zero_le _
  | cons a t ih =>
    rw [List.flatMap_cons, List.length_append, List.length_cons]
    have : (if a = 10 then [10, 124] else [a] : List UInt8).length ≤ 2 := by split <;> simp
    omega
theorem textB_bar (t : ByteArray) : textB t = [116, 101, 120, 116, 10, 124] ++ barB t.data.toList ++ [10] := rfl
structure ChkOk (s : Scr) : Prop where
  nt : s.texts.length ≤ 8
  ns : s.steps.length ≤ 400
  txt : ∀ t ∈ s.texts, t.size ≤ 4000
  odd : ∀ t ∈ s.texts, oddT t = false
  stp : ∀ x ∈ s.steps, stepOk x = true
theorem check_ok {s : Scr} (h : (checkS s).2 = 0) : ChkOk s := by
  unfold checkS at h
  split at h
  · cases h
  · rename_i h1
    split at h
    · cases h
    · rename_i h2
      split at h
      · cases h
      · rename_i h3
        have h4 : ¬ 8 < s.texts.length := fun e => h1 (.inl e)
        have h5 : ¬ 400 < s.steps.length := fun e => h1 (.inr (.inl e))
        refine ⟨by omega, by omega, fun t ht => ?_, fun t ht => ?_, fun x hx => ?_⟩
        · by_cases hh : 4000 < t.size
          · exact absurd (.inr (.inr (List.any_eq_true.2 ⟨t, ht, decide_eq_true hh⟩))) h1
          · omega
        · cases e : oddT t with
          | false => rfl
          | true => exact absurd (List.any_eq_true.2 ⟨t, ht, e⟩) h2
        · cases e : stepOk x with
          | true => rfl
          | false => exact absurd (List.findIdx_lt_length_of_exists ⟨x, hx, by rw [e]; rfl⟩) h3
theorem rowOf_small (z : Int) : (rowOf z).most ≤ 18 ∧ (rowOf z).name.size ≤ 10 := by
  unfold rowOf
  by_cases h : z.toNat < 24
  · have ht : ((List.range 24).all fun j => decide ((krows.getD j noRow).most ≤ 18) && decide ((krows.getD j noRow).name.size ≤ 10)) = true := by kernel_rfl
    have h1 := List.all_eq_true.1 ht z.toNat (List.mem_range.2 h)
    simp only [Bool.and_eq_true, decide_eq_true_eq] at h1
    exact h1
  · rw [List.getD_eq_getElem?_getD, List.getElem?_eq_none (by show 24 ≤ z.toNat; omega)]
    exact ⟨Nat.zero_le _, Nat.zero_le _⟩
theorem nameN_small (z : Int) : (nameN z).size ≤ 10 := by
  unfold nameN
  split
  · exact (rowOf_small z).2
  · exact Nat.zero_le _
structure StpB (x : Stp) : Prop where
  kind : isKindB x.kind = true
  nargs : x.args.length ≤ 18
  args : ∀ a ∈ x.args, 0 ≤ a ∧ a ≤ 2199023255552
  data : (dataR x.text).err = 0
  text : x.text.size ≤ 4001
theorem data_small {t : ByteArray} (h : (dataR t).err = 0) : t.size ≤ 4001 := by
  have hs : t.size = t.data.toList.length := Array.length_toList.symm
  unfold dataR at h
  cases hl : t.data.toList with
  | nil => rw [hl] at hs; rw [hs]; exact Nat.zero_le _
  | cons c r =>
    rw [hl] at h hs
    dsimp only at h
    split at h
    · rename_i h1; exact h1.2
    · split at h
      · rename_i h1
        have h2 := h1.2.1
        unfold decOk at h2
        simp only [Bool.and_eq_true, decide_eq_true_eq] at h2
        rw [hs, List.length_cons]
        omega
      · cases h
theorem stpB_of {x : Stp} (h : stepOk x = true) : StpB x := by
  unfold stepOk at h
  simp only [Bool.and_eq_true, decide_eq_true_eq] at h
  obtain ⟨hk, _, h2, _, h3, h4⟩ := h
  refine ⟨hk, Nat.le_trans h2 (rowOf_small _).1, fun a ha => ?_, h4, data_small h4⟩
  have := List.all_eq_true.1 h3 a ha
  unfold argOk at this
  simpa using this
theorem hexB_len' (l : List UInt8) : (hexB l).length = 2 * l.length := by
  unfold hexB
  induction l with
  | nil => rfl
  | cons a t ih => rw [List.flatMap_cons, List.length_append, ih, List.length_cons]; simp; omega
theorem dataB_len (t : ByteArray) : (dataB t).length ≤ 2 + 2 * t.size := by
  have hs : t.size = t.data.toList.length := Array.length_toList.symm
  unfold dataB
  cases hl : t.data.toList with
  | nil => exact Nat.zero_le _
  | cons c r =>
    rw [hl] at hs
    dsimp only
    split
    · simp only [List.length_cons] at hs ⊢; omega
    · simp only [List.length_cons, hexB_len'] at hs ⊢; omega
end ScrP
end Go.Proofs.YtldkfhimpkiigaaGreatDoor
