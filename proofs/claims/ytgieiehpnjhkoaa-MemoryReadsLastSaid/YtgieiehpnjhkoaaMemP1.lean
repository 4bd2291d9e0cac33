/-
  Layer 22 (memory): players and same.
-/
import Derived.Test.YtgieiehpnjhkoaaMemA4
namespace Go.Proofs.Ytgieiehpnjhkoaa
open Go.RowKit Go.Shelf
attribute [local go_sem] Oper.semAt_some

/-- New at any number of players' sectors. -/
def startSt (n : Nat) : St := ⟨List.replicate n Sec.blank, []⟩

theorem isPl_new {tP tM tS : TypeId} {w : World} {b g : Nat} {M : List Sec} (h : IsMem tM tS w b g M) : IsPl tP tM tS (w.alloc (.cells #[.pointer (some ⟨b, 0, none⟩), .slice none 0 0] tP)) w.heap.size b g (.slice none 0 0) ⟨M, []⟩ :=
  ⟨Blk.new _ _ _, h.below ((Below.refl w.heap.size w).alloc (Nat.le_refl _) _) h.lt.1 h.lt.2, ⟨[], World.ownsRow_nil _ _ _ _, rfl, fun j u I hu => by simp at hu⟩⟩

set_option maxRecDepth 100000 in
set_option maxHeartbeats 4000000 in
theorem players_bad (w : World) (n : Int) (h : n < 1 ∨ 64 < n) :
    Calls Try.prog 11 #[.int .i64 n] w fun e w' => e = .returned (.tuple #[.pointer none, .pointer none, .bool false]) ∧ Below w.heap.size w w' := by
  by_cases h1 : n < 1 ∨ 4096 < n
  · have HN := fun w2 => Lib.hid (New_bad w2 n h1)
    have HR := fun w2 => Lib.hid (rNew_bad w2 n h1)
    have HB := Lib.hid (Below.refl w.heap.size w)
    have d : Hid (n < 1 ∨ 64 < n) := h
    by_cases h64 : 64 < n
    · clear h h1
      go_enter Try.func11, Try.ntmps11
      go_wp2_with (first | (go_at_call 9; refine (HN _).out.mono ?_; rintro e w1 ⟨rfl, rfl⟩) | (go_at_call 12; refine (HR _).out.mono ?_; rintro e w1 ⟨rfl, rfl⟩))
      go_ret3
      exact ⟨rfl, HB.out⟩
    · clear h h1
      go_enter Try.func11, Try.ntmps11
      go_wp2_with (first | (go_at_call 9; refine (HN _).out.mono ?_; rintro e w1 ⟨rfl, rfl⟩) | (go_at_call 12; refine (HR _).out.mono ?_; rintro e w1 ⟨rfl, rfl⟩))
      go_ret3
      exact ⟨rfl, HB.out⟩
  · obtain ⟨m, rfl⟩ := Int.eq_ofNat_of_zero_le (show 0 ≤ n by omega)
    have h2 : 1 ≤ m := by omega
    have h3 : m ≤ 4096 := by omega
    have h64 : 64 < (m : Int) := by omega
    have HN := fun w2 => Lib.hid (New_ok w2 m h2 h3)
    have HR := fun w2 => Lib.hid (rNew_ok w2 m h2 h3)
    clear h h1 h2 h3
    go_enter Try.func11, Try.ntmps11
    go_wp2_with (first | (go_at_call 9; refine (HN _).out.mono ?_; rintro e w1 ⟨b, g, rfl, p1, p2, pM, pB⟩; have PB := Lib.hid pB; clear p1 p2 pM pB) | (go_at_call 12; refine (HR _).out.mono ?_; rintro e w2 ⟨rb, rg, rfl, q1, q2, qM, qB⟩; have QB := Lib.hid qB; clear q1 q2 qM qB))
    go_ret3
    exact ⟨rfl, PB.out.trans (QB.out.mono PB.out.size)⟩

set_option maxRecDepth 100000 in
set_option maxHeartbeats 4000000 in
theorem players_ok (w : World) (n : Nat) (h1 : 1 ≤ n) (h2 : n ≤ 64) :
    Calls Try.prog 11 #[.int .i64 n] w fun e w' => ∃ p r b g rb rg, e = .returned (.tuple #[.pointer (some ⟨p, 0, none⟩), .pointer (some ⟨r, 0, none⟩), .bool true]) ∧ w.heap.size ≤ p ∧ w.heap.size ≤ r ∧ w.heap.size ≤ g ∧ w.heap.size ≤ rg ∧
      IsPl 42 70 68 w' p b g (.slice none 0 0) (startSt n) ∧ IsPl 44 77 79 w' r rb rg (.slice none 0 0) (startSt n) ∧ Below w.heap.size w w' := by
  have HN := fun w2 => Lib.hid (New_ok w2 n h1 (by omega))
  have HR := fun w2 => Lib.hid (rNew_ok w2 n h1 (by omega))
  have h64 : decide (64 < (n : Int)) = false := decide_eq_false (by omega)
  clear h1 h2
  go_enter Try.func11, Try.ntmps11
  go_wp2_with (first | (go_at_call 9; refine (HN _).out.mono ?_; rintro e w1 ⟨b, g, rfl, p1, p2, pM, pB⟩; have PB := Lib.hid pB; have P1 := Lib.hid (And.intro p1 p2); have PM := Lib.hid pM; clear p1 p2 pM pB) | (go_at_call 12; refine (HR _).out.mono ?_; rintro e w2 ⟨rb, rg, rfl, q1, q2, qM, qB⟩; have QB := Lib.hid qB; have Q1 := Lib.hid (And.intro q1 q2); have QM := Lib.hid qM; clear q1 q2 qM qB))
  go_ret3
  have hB1 := PB.out
  have hB2 := QB.out.mono PB.out.size
  have hs2 := QB.out.size
  have hs1 := PB.out.size
  have hm := isPl_new (tP := 42) (PM.out.below QB.out PM.out.lt.1 PM.out.lt.2)
  have hr := isPl_new (tP := 44) (QM.out.below ((Below.refl w2.heap.size w2).alloc (Nat.le_refl _) (.cells #[.pointer (some ⟨b, 0, none⟩), .slice none 0 0] 42)) QM.out.lt.1 QM.out.lt.2)
  have hBa : Below w.heap.size w (w2.alloc (.cells #[.pointer (some ⟨b, 0, none⟩), .slice none 0 0] 42)) := (hB1.trans hB2).alloc (by omega) _
  have hsa : (w2.alloc (.cells #[.pointer (some ⟨b, 0, none⟩), .slice none 0 0] 42)).heap.size = w2.heap.size + 1 := by simp
  refine ⟨w2.heap.size, w2.heap.size + 1, b, g, rb, rg, ?_, by omega, by omega, P1.out.2, by have := Q1.out.2; omega, hm.below ((Below.refl _ _).alloc (Nat.le_refl _) _), ?_, hBa.alloc (by omega) _⟩
  · rfl
  · rw [hsa] at hr
    exact hr

/-- What Read answers. -/
def readT (M : List Sec) (i : Int) : ByteArray := if isAt M i then (M.getD i.toNat default).seen else ⟨#[]⟩
def readE (M : List Sec) (i : Int) : Int := if isAt M i then 0 else 1
theorem Read_any {w : World} {b g : Nat} {M : List Sec} (h : PMem w b g M) (i : Int) : Calls Try.prog 18 #[.pointer (some ⟨b, 0, none⟩), .int .i64 i] w fun e w' => e = .returned (.tuple #[.string (readT M i), .int .i64 (readE M i)]) ∧ w = w' := read_any h i
theorem rRead_any {w : World} {b g : Nat} {M : List Sec} (h : RMem w b g M) (i : Int) : Calls Try.prog 45 #[.pointer (some ⟨b, 0, none⟩), .int .i64 i] w fun e w' => e = .returned (.tuple #[.string (readT M i), .int .i64 (readE M i)]) ∧ w = w' := rread_any h i
end Go.Proofs.Ytgieiehpnjhkoaa
