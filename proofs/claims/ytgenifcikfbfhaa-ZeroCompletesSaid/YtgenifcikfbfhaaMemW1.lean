/-
  The walks of layer 22 (memory): the methods of the program that touch one sector.
-/
import Derived.Test.YtgenifcikfbfhaaRows
import Derived.Test.YtgenifcikfbfhaaMemPlain
import Derived.WalkKit
import Derived.WalkSpells
import Derived.WalkLawsBesides
import Derived.Lib.Hide
import Derived.Deep.QuietTactic
import Derived.BigQuiet
import Derived.StillTailTactics
namespace Go.Proofs.Ytgenifcikfbfhaa
open Go.RowKit

theorem ret_bool {a b : Bool} (h : a = b) : Ending.returned (.bool a) = .returned (.bool b) := by rw [h]
theorem ret_int {k : IntKind} {a b : Int} (h : a = b) : Ending.returned (.int k a) = .returned (.int k b) := by rw [h]
theorem beq_t {a b : Int} (h : a = b) : (a == b) = true := beq_iff_eq.2 h
theorem beq_f {a b : Int} (h : a ≠ b) : (a == b) = false := beq_eq_false_iff_ne.2 h
theorem bne_t {a b : Int} (h : a ≠ b) : (a != b) = true := bne_iff_ne.2 h
theorem bne_f {a b : Int} (h : a = b) : (a != b) = false := by rw [h]; simp

abbrev PMem := IsMem 82 84
section
variable {w : World} {b g : Nat} {M : List Sec}

theorem at_in (h : PMem w b g M) (i : Nat) (hi : i < M.length) :
    Calls Try.prog 70 #[.pointer (some ⟨b, 0, none⟩), .int .i64 i] w fun e w' => e = .returned (.pointer (some ⟨g, i * 5, none⟩)) ∧ w = w' := by
  obtain ⟨cap, hc, hcap, hm⟩ := h.head
  unfold maxLen at hm
  go_enter Try.func70, Try.ntmps70
  go_wp2_with fail
  go_ret
  exact ⟨rfl, rfl⟩
theorem at_out (h : PMem w b g M) (i : Int) (hi : i < 0 ∨ (M.length : Int) ≤ i) :
    Calls Try.prog 70 #[.pointer (some ⟨b, 0, none⟩), .int .i64 i] w fun e w' => e = .returned (.pointer none) ∧ w = w' := by
  obtain ⟨cap, hc, hcap, hm⟩ := h.head
  unfold maxLen at hm
  by_cases h0 : i < 0
  · clear hi
    go_enter Try.func70, Try.ntmps70
    go_wp2_with fail
    go_ret
    exact ⟨rfl, rfl⟩
  · have h1 : (M.length : Int) ≤ i := by omega
    clear hi
    go_enter Try.func70, Try.ntmps70
    go_wp2_with fail
    go_ret
    exact ⟨rfl, rfl⟩

theorem len_any (h : PMem w b g M) :
    Calls Try.prog 44 #[.pointer (some ⟨b, 0, none⟩)] w fun e w' => e = .returned (.int .i64 M.length) ∧ w = w' := by
  obtain ⟨cap, hc, hcap, hm⟩ := h.head
  unfold maxLen at hm
  go_enter Try.func44, Try.ntmps44
  go_wp2_with fail
  go_ret
  exact ⟨rfl, rfl⟩

/-- The content that a sector is read with. -/
def Sec.seen (s : Sec) : ByteArray := if s.dirty then s.fresh else s.now

theorem read_in (h : PMem w b g M) (i : Nat) (s : Sec) (hs : M[i]? = some s) :
    Calls Try.prog 47 #[.pointer (some ⟨b, 0, none⟩), .int .i64 i] w fun e w' => e = .returned (.tuple #[.string s.seen, .int .i64 0]) ∧ w = w' := by
  have hi := (List.getElem?_eq_some_iff.1 hs).1
  obtain ⟨c0, c1, c2, c3, c4⟩ := h.sec hs
  have Hat := Lib.hid (at_in h i hi)
  obtain ⟨now, before, fresh, dirty, worn⟩ := s
  dsimp only at c0 c1 c2 c3 c4
  clear hs
  cases dirty
  · go_enter Try.func47, Try.ntmps47
    go_wp2_with (go_at_call 70; refine Hat.out.mono ?_; rintro e w' ⟨rfl, rfl⟩)
    go_ret2
    exact ⟨rfl, rfl⟩
  · go_enter Try.func47, Try.ntmps47
    go_wp2_with (go_at_call 70; refine Hat.out.mono ?_; rintro e w' ⟨rfl, rfl⟩)
    go_ret2
    exact ⟨rfl, rfl⟩
theorem read_out (h : PMem w b g M) (i : Int) (hi : i < 0 ∨ (M.length : Int) ≤ i) :
    Calls Try.prog 47 #[.pointer (some ⟨b, 0, none⟩), .int .i64 i] w fun e w' => e = .returned (.tuple #[.string ⟨#[]⟩, .int .i64 1]) ∧ w = w' := by
  have Hat := Lib.hid (at_out h i hi)
  clear hi
  go_enter Try.func47, Try.ntmps47
  go_wp2_with (go_at_call 70; refine Hat.out.mono ?_; rintro e w' ⟨rfl, rfl⟩)
  go_ret2
  exact ⟨rfl, rfl⟩

/-- What Write makes of a sector. -/
def Sec.write (s : Sec) (t : ByteArray) : Sec := if s.worn then s else { s with fresh := t, dirty := true }

theorem write_in (h : PMem w b g M) (i : Nat) (s : Sec) (t : ByteArray) (hs : M[i]? = some s) (ht : t.size = 64) :
    Calls Try.prog 46 #[.pointer (some ⟨b, 0, none⟩), .int .i64 i, .string t] w fun e w' => e = .returned (.int .i64 0) ∧ PMem w' b g (M.set i (s.write t)) ∧ w.grownBy w' (some g) := by
  have hi := (List.getElem?_eq_some_iff.1 hs).1
  obtain ⟨c0, c1, c2, c3, c4⟩ := h.sec hs
  have Hat := Lib.hid (at_in h i hi)
  have f2 := h.frozen (i * 5 + 2)
  have f3 := h.frozen (i * 5 + 3)
  have t64 : ((t.size : Int) != 64) = false := bne_f (by omega)
  have Hs := Lib.hid hs
  obtain ⟨now, before, fresh, dirty, worn⟩ := s
  dsimp only at c0 c1 c2 c3 c4
  clear hs ht
  cases worn
  · have h1 := h.store (i := i) (j := 2) (s' := ⟨now, before, t, dirty, false⟩) (v := .string t) Hs.out (by omega) rfl
    have h2 := Lib.hid (h1.store (i := i) (j := 3) (s := ⟨now, before, t, dirty, false⟩) (s' := ⟨now, before, t, true, false⟩) (v := .bool true) (by rw [List.getElem?_set_self hi]) (by omega) rfl)
    clear h1
    go_enter Try.func46, Try.ntmps46
    go_wp2_with (go_at_call 70; refine Hat.out.mono ?_; rintro e w' ⟨rfl, rfl⟩)
    go_ret
    refine ⟨rfl, ?_, grown_trans (grown_set _ _ _ _) (grown_set _ _ _ _)⟩
    have := h2.out
    rw [List.set_set] at this
    exact this
  · go_enter Try.func46, Try.ntmps46
    go_wp2_with (go_at_call 70; refine Hat.out.mono ?_; rintro e w' ⟨rfl, rfl⟩)
    go_ret
    refine ⟨rfl, ?_, grown_refl _ _⟩
    have : M.set i (Sec.write ⟨now, before, fresh, dirty, true⟩ t) = M := by
      have e : Sec.write ⟨now, before, fresh, dirty, true⟩ t = ⟨now, before, fresh, dirty, true⟩ := rfl
      rw [e]
      have := List.getElem?_eq_some_iff.1 Hs.out
      obtain ⟨_, hq⟩ := this
      rw [← hq, List.set_getElem_self]
    rw [this]; exact h
theorem write_out (h : PMem w b g M) (i : Int) (t : ByteArray) (hi : (i < 0 ∨ (M.length : Int) ≤ i) ∨ t.size ≠ 64) :
    Calls Try.prog 46 #[.pointer (some ⟨b, 0, none⟩), .int .i64 i, .string t] w fun e w' => e = .returned (.int .i64 1) ∧ w = w' := by
  by_cases hin : i < 0 ∨ (M.length : Int) ≤ i
  · have Hat := Lib.hid (at_out h i hin)
    clear hi hin
    go_enter Try.func46, Try.ntmps46
    go_wp2_with (go_at_call 70; refine Hat.out.mono ?_; rintro e w' ⟨rfl, rfl⟩)
    go_ret
    exact ⟨rfl, rfl⟩
  · obtain ⟨k, rfl⟩ := Int.eq_ofNat_of_zero_le (show 0 ≤ i by omega)
    have Hat := Lib.hid (at_in h k (by omega))
    have t64 : ((t.size : Int) != 64) = true := bne_t (by omega)
    clear hi hin
    go_enter Try.func46, Try.ntmps46
    go_wp2_with (go_at_call 70; refine Hat.out.mono ?_; rintro e w' ⟨rfl, rfl⟩)
    go_ret
    exact ⟨rfl, rfl⟩

theorem stale_in (h : PMem w b g M) (i : Nat) (s : Sec) (hs : M[i]? = some s) :
    Calls Try.prog 59 #[.pointer (some ⟨b, 0, none⟩), .int .i64 i] w fun e w' => e = .returned (.int .i64 0) ∧ PMem w' b g (M.set i { s with now := s.before }) ∧ w.grownBy w' (some g) := by
  have hi := (List.getElem?_eq_some_iff.1 hs).1
  obtain ⟨c0, c1, c2, c3, c4⟩ := h.sec hs
  have Hat := Lib.hid (at_in h i hi)
  have f0 := h.frozen (i * 5)
  obtain ⟨now, before, fresh, dirty, worn⟩ := s
  dsimp only at c0 c1 c2 c3 c4
  have h1 := Lib.hid (h.store (i := i) (j := 0) (s' := ⟨before, before, fresh, dirty, worn⟩) (v := .string before) hs (by omega) rfl)
  clear hs
  go_enter Try.func59, Try.ntmps59
  go_wp2_with (first | (go_at_call 70; refine Hat.out.mono ?_; rintro e w' ⟨rfl, rfl⟩) | go_quiet (fail))
  go_ret
  exact ⟨rfl, h1.out, grown_set _ _ _ _⟩
theorem stale_out (h : PMem w b g M) (i : Int) (hi : i < 0 ∨ (M.length : Int) ≤ i) :
    Calls Try.prog 59 #[.pointer (some ⟨b, 0, none⟩), .int .i64 i] w fun e w' => e = .returned (.int .i64 1) ∧ w = w' := by
  have Hat := Lib.hid (at_out h i hi)
  clear hi
  go_enter Try.func59, Try.ntmps59
  go_wp2_with (go_at_call 70; refine Hat.out.mono ?_; rintro e w' ⟨rfl, rfl⟩)
  go_ret
  exact ⟨rfl, rfl⟩
theorem wear_in (h : PMem w b g M) (i : Nat) (s : Sec) (hs : M[i]? = some s) :
    Calls Try.prog 60 #[.pointer (some ⟨b, 0, none⟩), .int .i64 i] w fun e w' => e = .returned (.int .i64 0) ∧ PMem w' b g (M.set i { s with worn := true }) ∧ w.grownBy w' (some g) := by
  have hi := (List.getElem?_eq_some_iff.1 hs).1
  obtain ⟨c0, c1, c2, c3, c4⟩ := h.sec hs
  have Hat := Lib.hid (at_in h i hi)
  have f4 := h.frozen (i * 5 + 4)
  obtain ⟨now, before, fresh, dirty, worn⟩ := s
  dsimp only at c0 c1 c2 c3 c4
  have h1 := Lib.hid (h.store (i := i) (j := 4) (s' := ⟨now, before, fresh, dirty, true⟩) (v := .bool true) hs (by omega) rfl)
  clear hs
  go_enter Try.func60, Try.ntmps60
  go_wp2_with (go_at_call 70; refine Hat.out.mono ?_; rintro e w' ⟨rfl, rfl⟩)
  go_ret
  exact ⟨rfl, h1.out, grown_set _ _ _ _⟩
theorem wear_out (h : PMem w b g M) (i : Int) (hi : i < 0 ∨ (M.length : Int) ≤ i) :
    Calls Try.prog 60 #[.pointer (some ⟨b, 0, none⟩), .int .i64 i] w fun e w' => e = .returned (.int .i64 1) ∧ w = w' := by
  have Hat := Lib.hid (at_out h i hi)
  clear hi
  go_enter Try.func60, Try.ntmps60
  go_wp2_with (go_at_call 70; refine Hat.out.mono ?_; rintro e w' ⟨rfl, rfl⟩)
  go_ret
  exact ⟨rfl, rfl⟩
end
end Go.Proofs.Ytgenifcikfbfhaa
