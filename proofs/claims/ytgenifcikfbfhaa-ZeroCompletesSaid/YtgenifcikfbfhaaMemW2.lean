/-
  The walks of layer 22 (memory): settling a sector.
-/
import Derived.Test.YtgenifcikfbfhaaMemW1
import Derived.RegionTactic
import Derived.BigRegion
import Derived.ChangeAlike
namespace Go.Proofs.Ytgenifcikfbfhaa
open Go.RowKit

/-- What settle makes of a sector, n bytes of the new content being written. -/
def Sec.settle (s : Sec) (n : Nat) : Sec :=
  if 0 < n then { s with now := s.fresh.extract 0 n ++ s.now.extract n s.now.size, before := s.now, fresh := ⟨#[]⟩, dirty := false }
  else { s with fresh := ⟨#[]⟩, dirty := false }

section
variable {w : World} {b g : Nat} {M : List Sec}

set_option maxHeartbeats 4000000 in
theorem settle_pos (h : PMem w b g M) (i : Nat) (s : Sec) (n : Nat) (hs : M[i]? = some s) (hn : 0 < n) (h1 : n ≤ s.fresh.size) (h2 : n ≤ s.now.size) (h3 : s.fresh.size ≤ 64) (h4 : s.now.size ≤ 64) :
    Calls Try.prog 56 #[.pointer (some ⟨g, i * 5, none⟩), .int .i64 n] w fun e w' => e = .returned (.tuple #[]) ∧ PMem w' b g (M.set i (s.settle n)) ∧ w.grownBy w' (some g) := by
  have hi := (List.getElem?_eq_some_iff.1 hs).1
  obtain ⟨c0, c1, c2, c3, c4⟩ := h.sec hs
  have f0 := h.frozen (i * 5)
  have f1 := h.frozen (i * 5 + 1)
  have f2 := h.frozen (i * 5 + 2)
  have f3 := h.frozen (i * 5 + 3)
  have Hs := Lib.hid hs
  obtain ⟨now, before, fresh, dirty, worn⟩ := s
  dsimp only at c0 c1 c2 c3 c4 h1 h2 h3 h4
  clear hs
  go_enter Try.func56, Try.ntmps56
  go_wp2_with fail
  go_region
  go_wp2_with fail
  go_end0
  have e : Sec.settle ⟨now, before, fresh, dirty, worn⟩ n = ⟨fresh.extract 0 n ++ now.extract n now.size, now, ⟨#[]⟩, false, worn⟩ := by unfold Sec.settle; rw [if_pos hn]
  rw [e]
  have g1 := h.store (i := i) (j := 0) (s' := ⟨fresh.extract 0 n ++ now.extract n now.size, before, fresh, dirty, worn⟩) (v := .string (fresh.extract 0 n ++ now.extract n now.size)) Hs.out (by omega) rfl
  have g2 := g1.store (i := i) (j := 1) (s := ⟨fresh.extract 0 n ++ now.extract n now.size, before, fresh, dirty, worn⟩) (s' := ⟨fresh.extract 0 n ++ now.extract n now.size, now, fresh, dirty, worn⟩) (v := .string now) (List.getElem?_set_self hi) (by omega) rfl
  have g3 := g2.store (i := i) (j := 2) (s := ⟨fresh.extract 0 n ++ now.extract n now.size, now, fresh, dirty, worn⟩) (s' := ⟨fresh.extract 0 n ++ now.extract n now.size, now, ⟨#[]⟩, dirty, worn⟩) (v := .string ⟨#[]⟩) (List.getElem?_set_self (by simpa using hi)) (by omega) rfl
  have g4 := g3.store (i := i) (j := 3) (s := ⟨fresh.extract 0 n ++ now.extract n now.size, now, ⟨#[]⟩, dirty, worn⟩) (s' := ⟨fresh.extract 0 n ++ now.extract n now.size, now, ⟨#[]⟩, false, worn⟩) (v := .bool false) (List.getElem?_set_self (by simpa using hi)) (by omega) rfl
  rw [List.set_set, List.set_set, List.set_set] at g4
  exact ⟨rfl, g4.grown (grown_drewN _ 1 none) (by simp) (by simp), grown_trans (grown_trans (grown_trans (grown_trans (grown_set _ _ _ _) (grown_set _ _ _ _)) (grown_set _ _ _ _)) (grown_set _ _ _ _)) (grown_drewN _ 1 _)⟩

theorem settle_zero (h : PMem w b g M) (i : Nat) (s : Sec) (hs : M[i]? = some s) :
    Calls Try.prog 56 #[.pointer (some ⟨g, i * 5, none⟩), .int .i64 0] w fun e w' => e = .returned (.tuple #[]) ∧ PMem w' b g (M.set i (s.settle 0)) ∧ w.grownBy w' (some g) := by
  have hi := (List.getElem?_eq_some_iff.1 hs).1
  obtain ⟨c0, c1, c2, c3, c4⟩ := h.sec hs
  have f2 := h.frozen (i * 5 + 2)
  have f3 := h.frozen (i * 5 + 3)
  have Hs := Lib.hid hs
  obtain ⟨now, before, fresh, dirty, worn⟩ := s
  dsimp only at c0 c1 c2 c3 c4
  clear hs
  go_enter Try.func56, Try.ntmps56
  go_wp2_with fail
  go_end0
  have e : Sec.settle ⟨now, before, fresh, dirty, worn⟩ 0 = ⟨now, before, ⟨#[]⟩, false, worn⟩ := rfl
  rw [e]
  have g3 := h.store (i := i) (j := 2) (s' := ⟨now, before, ⟨#[]⟩, dirty, worn⟩) (v := .string ⟨#[]⟩) Hs.out (by omega) rfl
  have g4 := g3.store (i := i) (j := 3) (s := ⟨now, before, ⟨#[]⟩, dirty, worn⟩) (s' := ⟨now, before, ⟨#[]⟩, false, worn⟩) (v := .bool false) (List.getElem?_set_self hi) (by omega) rfl
  rw [List.set_set] at g4
  exact ⟨rfl, g4, grown_trans (grown_set _ _ _ _) (grown_set _ _ _ _)⟩
end
end Go.Proofs.Ytgenifcikfbfhaa
