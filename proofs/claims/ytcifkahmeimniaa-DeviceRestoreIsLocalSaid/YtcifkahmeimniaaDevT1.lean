/-
  Layer 23 (device): the memory's methods at every argument.
-/
import Derived.Test.YtcifkahmeimniaaDevN1
import Derived.Test.YtcifkahmeimniaaMemW9
namespace Go.Proofs.Ytcifkahmeimniaa
open Go.RowKit Go.Shelf
attribute [local go_sem] Oper.semAt_some

/-- A number is a sector's. -/
def isAt (M : List Sec) (i : Int) : Prop := 0 ≤ i ∧ i < M.length
instance (M : List Sec) (i : Int) : Decidable (isAt M i) := inferInstanceAs (Decidable (_ ∧ _))
/-- One sector is changed. -/
def upd (f : Sec → Sec) (M : List Sec) (i : Int) : List Sec := M.set i.toNat (f (M.getD i.toNat default))
def Sec.stale (s : Sec) : Sec := { s with now := s.before }
def Sec.wear (s : Sec) : Sec := { s with worn := true }
/-- The error of an operation on a sector. -/
def errOf (p : Prop) [Decidable p] : Value := .int .i64 (if p then 0 else 1)

theorem isAt_get {M : List Sec} {i : Int} (h : isAt M i) : ∃ (k : Nat) (s : Sec), i = (k : Int) ∧ M[k]? = some s ∧ ∀ f, upd f M i = M.set k (f s) := by
  obtain ⟨k, rfl⟩ := Int.eq_ofNat_of_zero_le h.1
  have hk : k < M.length := by have := h.2; omega
  refine ⟨k, M[k], rfl, List.getElem?_eq_getElem hk, fun f => ?_⟩
  unfold upd
  simp [List.getD, List.getElem?_eq_getElem hk]
theorem not_isAt {M : List Sec} {i : Int} (h : ¬ isAt M i) : i < 0 ∨ (M.length : Int) ≤ i := by
  unfold isAt at h; omega

section
variable {w : World} {b g : Nat} {M : List Sec}

theorem write_any (h : PMem w b g M) (i : Int) (t : ByteArray) :
    Calls Try.prog 54 #[.pointer (some ⟨b, 0, none⟩), .int .i64 i, .string t] w fun e w' => e = .returned (errOf (isAt M i ∧ t.size = 64)) ∧ PMem w' b g (if isAt M i ∧ t.size = 64 then upd (fun s => s.write t) M i else M) ∧ w.grownBy w' (some g) := by
  by_cases hp : isAt M i ∧ t.size = 64
  · obtain ⟨k, s, rfl, hs, hu⟩ := isAt_get hp.1
    refine (write_in h k s t hs hp.2).mono ?_
    rintro e w' ⟨rfl, h1, h2⟩
    rw [if_pos hp, hu]
    exact ⟨by unfold errOf; rw [if_pos hp], h1, h2⟩
  · refine (write_out h i t ?_).mono ?_
    · by_cases h1 : isAt M i
      · exact .inr (fun e => hp ⟨h1, e⟩)
      · exact .inl (not_isAt h1)
    · rintro e w' ⟨rfl, rfl⟩
      rw [if_neg hp]
      exact ⟨by unfold errOf; rw [if_neg hp], h, grown_refl _ _⟩
theorem read_any (h : PMem w b g M) (i : Int) :
    Calls Try.prog 39 #[.pointer (some ⟨b, 0, none⟩), .int .i64 i] w fun e w' => e = .returned (.tuple #[.string (if isAt M i then (M.getD i.toNat default).seen else ⟨#[]⟩), errOf (isAt M i)]) ∧ w = w' := by
  by_cases hp : isAt M i
  · obtain ⟨k, s, rfl, hs, hu⟩ := isAt_get hp
    refine (read_in h k s hs).mono ?_
    rintro e w' ⟨rfl, rfl⟩
    rw [if_pos hp]
    exact ⟨by unfold errOf; rw [if_pos hp]; simp [List.getD, hs], rfl⟩
  · refine (read_out h i (not_isAt hp)).mono ?_
    rintro e w' ⟨rfl, rfl⟩
    rw [if_neg hp]
    exact ⟨by unfold errOf; rw [if_neg hp], rfl⟩
theorem stale_any (h : PMem w b g M) (i : Int) :
    Calls Try.prog 56 #[.pointer (some ⟨b, 0, none⟩), .int .i64 i] w fun e w' => e = .returned (errOf (isAt M i)) ∧ PMem w' b g (if isAt M i then upd Sec.stale M i else M) ∧ w.grownBy w' (some g) := by
  by_cases hp : isAt M i
  · obtain ⟨k, s, rfl, hs, hu⟩ := isAt_get hp
    refine (stale_in h k s hs).mono ?_
    rintro e w' ⟨rfl, h1, h2⟩
    rw [if_pos hp, hu]
    exact ⟨by unfold errOf; rw [if_pos hp], h1, h2⟩
  · refine (stale_out h i (not_isAt hp)).mono ?_
    rintro e w' ⟨rfl, rfl⟩
    rw [if_neg hp]
    exact ⟨by unfold errOf; rw [if_neg hp], h, grown_refl _ _⟩
theorem wear_any (h : PMem w b g M) (i : Int) :
    Calls Try.prog 57 #[.pointer (some ⟨b, 0, none⟩), .int .i64 i] w fun e w' => e = .returned (errOf (isAt M i)) ∧ PMem w' b g (if isAt M i then upd Sec.wear M i else M) ∧ w.grownBy w' (some g) := by
  by_cases hp : isAt M i
  · obtain ⟨k, s, rfl, hs, hu⟩ := isAt_get hp
    refine (wear_in h k s hs).mono ?_
    rintro e w' ⟨rfl, h1, h2⟩
    rw [if_pos hp, hu]
    exact ⟨by unfold errOf; rw [if_pos hp], h1, h2⟩
  · refine (wear_out h i (not_isAt hp)).mono ?_
    rintro e w' ⟨rfl, rfl⟩
    rw [if_neg hp]
    exact ⟨by unfold errOf; rw [if_neg hp], h, grown_refl _ _⟩
end
end Go.Proofs.Ytcifkahmeimniaa
