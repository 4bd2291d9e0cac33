/-
  Layer 33 (zero): Restore with texts that lie anywhere, however many; numbers that come in as an argument, with their bounds.
-/
import Derived.Test.YtgenifcikfbfhaaZerR0
import Derived.Test.YtgenifcikfbfhaaZerL3
namespace Go.Proofs.Ytgenifcikfbfhaa
open Go.RowKit Go.Shelf
attribute [local go_sem] Oper.semAt_some

section
variable {w : World} {b g : Nat} {M : List Sec}
set_option maxRecDepth 100000 in
set_option maxHeartbeats 1600000 in
theorem Load_far (h : PMem w b g M) (A : Option Addr) (c : Nat) (I : List ByteArray) (hne : I.length ≠ M.length) :
    Calls Try.prog 42 #[.pointer (some ⟨b, 0, none⟩), .slice A I.length c] w fun e w' => e = .returned (.int .i64 1) ∧ w = w' := by
  obtain ⟨cap, hc, hcap, hm⟩ := h.head
  have hq : ((I.length : Int) != M.length) = true := by
    rw [bne_iff_ne]
    omega
  clear h hm hcap hne
  go_enter Try.func42, Try.ntmps42
  go_wp2_with fail
  go_ret
  exact ⟨rfl, rfl⟩
end
section
variable {W w : World} {a : DAt} {D : Dev} {n s f : Nat}
set_option maxRecDepth 100000 in
set_option maxHeartbeats 1600000 in
theorem dRestore_far (h : DevIs w a D) (A : Option Addr) (c : Nat) (I : List ByteArray) (hne : I.length ≠ D.M.length) :
    Calls Try.prog 20 #[.pointer (some ⟨a.d, 0, none⟩), .slice A I.length c] w fun e w' => e = .returned (.int .i64 1) ∧ w = w' := by
  obtain ⟨c0, c1, c2, c3, c4, c5, c6⟩ := IsDev.cells h
  have HR := Lib.hid (Load_far h.mem A c I hne)
  clear h hne
  go_enter Try.func20, Try.ntmps20
  go_wp2_with (first | (go_at_call 42; refine HR.out.mono ?_; rintro e w1 ⟨rfl, rfl⟩))
  go_ret
  exact ⟨rfl, rfl⟩
theorem ZSt.restore (h : ZSt W w a n s f D) (A : Option Addr) (c sb so : Nat) (I : List ByteArray) (hv : StrAt w A c sb so I) (hne : sb ≠ a.g) :
    Calls Try.prog 20 #[.pointer (some ⟨a.d, 0, none⟩), .slice A I.length c] w fun e w' => ∃ r : Int, e = .returned (.int .i64 r) ∧ Hid (ZSt W w' a n s f (zrestore I D)) ∧ Hid (DLeft w w' a) := by
  by_cases hN : I.length ≤ 1048576
  · refine (dRestore_at h.dev.dev A c sb so I hv hne hN).mono ?_
    rintro e w' ⟨rfl, h1, h2⟩
    exact ⟨_, rfl, h.next h2 h1 (zrestore_ok h.ok I), h2⟩
  · have hl : I.length ≠ D.M.length := by have := h.len; omega
    have e : zrestore I D = D := by
      unfold zrestore loadErr
      have : ((I.length : Int) != D.M.length) = true := by rw [bne_iff_ne]; omega
      rw [this]
      rfl
    refine (dRestore_far h.dev.dev A c I hl).mono ?_
    rintro e' w' ⟨rfl, rfl⟩
    rw [e]
    exact ⟨_, rfl, h, DLeft.refl _⟩
end
end Go.Proofs.Ytgenifcikfbfhaa
