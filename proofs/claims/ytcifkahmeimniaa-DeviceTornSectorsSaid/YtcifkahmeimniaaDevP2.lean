/-
  Layer 23 (device), plain: what no operation takes back.
-/
import Derived.Test.YtcifkahmeimniaaDevP1
namespace Go.Proofs.Ytcifkahmeimniaa

/-- Nothing goes back from D to E. -/
structure Fwd (D E : Dev) : Prop where
  counter : D.counter ≤ E.counter
  clock : D.clock ≤ E.clock
  fuses : E.fuses.length = D.fuses.length
  slots : E.slots.length = D.slots.length
  M : E.M.length = D.M.length
  burned : ∀ i : Nat, D.fuses[i]? = some true → E.fuses[i]? = some true

theorem Fwd.refl (D : Dev) : Fwd D D := ⟨Int.le_refl _, Int.le_refl _, rfl, rfl, rfl, fun _ h => h⟩
theorem dstep_fwd (D : Dev) (c : Int) (f : Dev → Dev) (h : c = 0 → ∀ l : Int, Fwd D (f { D with left := l })) : Fwd D (D.dstep c f).2 := by
  unfold Dev.dstep
  split
  · exact Fwd.refl D
  · split
    · exact Fwd.refl D
    · rename_i hc
      split
      · exact ⟨Int.le_refl _, Int.le_refl _, rfl, rfl, rfl, fun _ h => h⟩
      · exact h (by omega) _
theorem dplay_fwd (o : DOp) (D : Dev) (img : List ByteArray) : Fwd D (dplay o D img).2.1 := by
  unfold dplay
  by_cases k1 : o.kind = 1
  · rw [if_pos k1]; exact Fwd.refl D
  rw [if_neg k1]
  by_cases k2 : o.kind = 2
  · rw [if_pos k2]
    refine dstep_fwd D _ _ (fun _ l => ?_)
    exact ⟨Int.le_refl _, Int.le_refl _, rfl, rfl, by simp [upd], fun _ h => h⟩
  rw [if_neg k2]
  by_cases k3 : o.kind = 3
  · rw [if_pos k3]
    refine dstep_fwd D _ _ (fun _ l => ?_)
    exact ⟨Int.le_refl _, Int.le_refl _, rfl, rfl, by simp [doneM_len], fun _ h => h⟩
  rw [if_neg k3]
  by_cases k4 : o.kind = 4
  · rw [if_pos k4]; exact Fwd.refl D
  rw [if_neg k4]
  by_cases k5 : o.kind = 5
  · rw [if_pos k5]
    refine dstep_fwd D _ _ (fun _ l => ?_)
    exact ⟨Int.le_refl _, Int.le_refl _, rfl, by simp, rfl, fun _ h => h⟩
  rw [if_neg k5]
  by_cases k6 : o.kind = 6
  · rw [if_pos k6]
    refine dstep_fwd D _ _ (fun _ l => ?_)
    refine ⟨Int.le_refl _, Int.le_refl _, by simp, rfl, rfl, fun i h => ?_⟩
    dsimp only
    by_cases hi : o.a.toNat = i
    · subst hi
      rw [List.getElem?_set_self (List.getElem?_eq_some_iff.1 h).1]
    · rw [List.getElem?_set_ne hi]
      exact h
  rw [if_neg k6]
  by_cases k7 : o.kind = 7
  · rw [if_pos k7]
    refine dstep_fwd D _ _ (fun hc l => ?_)
    refine ⟨?_, Int.le_refl _, rfl, rfl, rfl, fun _ h => h⟩
    dsimp only
    by_cases h1 : 0 ≤ o.a ∧ o.a ≤ 4611686018427387904
    · rw [if_pos h1] at hc
      by_cases h2 : o.a < D.counter
      · rw [if_pos h2] at hc; omega
      · omega
    · rw [if_neg h1] at hc; omega
  rw [if_neg k7]
  by_cases k8 : o.kind = 8
  · rw [if_pos k8]
    by_cases h : o.a < 0 ∨ 1099511627776 - D.clock < o.a
    · rw [if_pos h]; exact Fwd.refl D
    · rw [if_neg h]
      exact ⟨Int.le_refl _, by dsimp only; omega, rfl, rfl, rfl, fun _ h => h⟩
  rw [if_neg k8]
  by_cases k9 : o.kind = 9
  · rw [if_pos k9]; exact ⟨Int.le_refl _, Int.le_refl _, rfl, rfl, rfl, fun _ h => h⟩
  rw [if_neg k9]
  by_cases k10 : o.kind = 10
  · rw [if_pos k10]; exact ⟨Int.le_refl _, Int.le_refl _, rfl, rfl, by simp [doneM_len], fun _ h => h⟩
  rw [if_neg k10]
  by_cases k11 : o.kind = 11
  · rw [if_pos k11]; exact ⟨Int.le_refl _, Int.le_refl _, rfl, by simp, rfl, fun _ h => h⟩
  rw [if_neg k11]
  by_cases k12 : o.kind = 12
  · rw [if_pos k12]
    refine ⟨Int.le_refl _, Int.le_refl _, rfl, rfl, ?_, fun _ h => h⟩
    dsimp only
    split <;> simp [upd]
  rw [if_neg k12]
  by_cases k13 : o.kind = 13
  · rw [if_pos k13]
    refine ⟨Int.le_refl _, Int.le_refl _, rfl, rfl, ?_, fun _ h => h⟩
    dsimp only
    split <;> simp [upd]
  rw [if_neg k13]
  by_cases k14 : o.kind = 14
  · rw [if_pos k14]; exact Fwd.refl D
  rw [if_neg k14]
  by_cases k15 : o.kind = 15
  · rw [if_pos k15]
    refine ⟨Int.le_refl _, Int.le_refl _, rfl, rfl, ?_, fun _ h => h⟩
    dsimp only
    split
    · rfl
    · rename_i h
      have hf : loadErr img D.M = false := by simpa using h
      unfold loadErr at hf
      exact loadM_len _ _ (by simp at hf; omega)
  rw [if_neg k15]
  exact Fwd.refl D
end Go.Proofs.Ytcifkahmeimniaa
