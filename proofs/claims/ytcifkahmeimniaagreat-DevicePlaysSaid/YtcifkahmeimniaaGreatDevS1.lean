/-
  Layer 23 (device): the example that every law plays first.
-/
import Derived.Test.YtcifkahmeimniaaGreatDevX7
namespace Go.Proofs.YtcifkahmeimniaaGreat
open Go.RowKit Go.Shelf
attribute [local go_sem] Oper.semAt_some

/-- The example's text and its devices, step by step. -/
def k65 : ByteArray := dtext 65 false 32
theorem k65_size : k65.size = 32 := by decide
def sM : List Sec := List.replicate 2 Sec.blank
def sd0 : Dev := freshDev 2 1 2
def sd1 : Dev := ⟨[zero32], [false, false], 0, 0, sM, false, 1⟩
def sd2 : Dev := ⟨[k65], [false, false], 0, 0, sM, false, 0⟩
def sd3 : Dev := ⟨[k65], [false, false], 0, 0, sM, true, -1⟩
def sd4 : Dev := ⟨[k65], [false, false], 0, 5, sM, true, -1⟩
def sd5 : Dev := ⟨[k65], [false, false], 0, 5, sM, false, -1⟩
def sd6 : Dev := ⟨[k65], [false, false], 7, 5, sM, false, -1⟩
def sd7 : Dev := ⟨[k65], [true, false], 7, 5, sM, false, -1⟩

section
variable {w : World} {a : DAt}
theorem s_trip (h : DevIs w a sd0) : Calls Tryz.prog 14 #[.pointer (some ⟨a.d, 0, none⟩), .int .i64 1] w fun e w' => e = .returned (.tuple #[]) ∧ DevIs w' a sd1 ∧ DLeft w w' a := dTrip_any h 1
theorem s_store (h : DevIs w a sd1) : Calls Tryz.prog 15 #[.pointer (some ⟨a.d, 0, none⟩), .int .i64 0, .string k65] w fun e w' => e = .returned (.int .i64 0) ∧ DevIs w' a sd2 ∧ DLeft w w' a := by
  have h1 := dStore_any h (by decide) 0 k65
  have hc : chk (inS sd1.slots 0 ∧ k65.size = 32) = 0 := chk_pos ⟨by decide, k65_size⟩
  rw [hc] at h1
  exact h1
theorem s_burn1 (h : DevIs w a sd2) : Calls Tryz.prog 16 #[.pointer (some ⟨a.d, 0, none⟩), .int .i64 1] w fun e w' => e = .returned (.int .i64 14) ∧ DevIs w' a sd3 ∧ DLeft w w' a := by
  have h1 := dBurn_any h (by decide) 1
  have hc : chk (inS sd2.fuses 1) = 0 := chk_pos (by decide)
  rw [hc] at h1
  exact h1
theorem s_tick (h : DevIs w a sd3) : Calls Tryz.prog 19 #[.pointer (some ⟨a.d, 0, none⟩), .int .i64 5] w fun e w' => e = .returned (.int .i64 0) ∧ DevIs w' a sd4 ∧ DLeft w w' a := by
  have h1 := dTick_any h (by decide) 5
  have hc : ¬ ((5 : Int) < 0 ∨ 1099511627776 - sd3.clock < 5) := by decide
  simp only [if_neg hc] at h1
  exact h1
theorem s_clean : ∀ s ∈ sd4.M, s.dirty = false := fun s hs => by
  have : s = Sec.blank := List.eq_of_mem_replicate hs
  rw [this]; rfl
theorem s_fine : Fine sd4.M := fun s hs => by
  have : s = Sec.blank := List.eq_of_mem_replicate hs
  rw [this]
  exact ⟨zeros_size, zeros_size, fun e => by cases e⟩
theorem s_mount (h : DevIs w a sd4) : Calls Tryz.prog 20 #[.pointer (some ⟨a.d, 0, none⟩), .slice none 0 0] w fun e w' => e = .returned (.tuple #[]) ∧ DevIs w' a sd5 ∧ DLeft w w' a := by
  have h1 := dMount_any h s_fine (by decide) (.slice none 0 0) [] a.b 0 ⟨none, 0, rfl, Nat.le_refl _, Nat.zero_le _, fun e => absurd e (by simp)⟩ h.mem.ne (fun i x e => by simp at e)
  rw [cut_none [] s_clean] at h1
  exact h1
theorem s_load (h : DevIs w a sd5) : Calls Tryz.prog 21 #[.pointer (some ⟨a.d, 0, none⟩), .int .i64 0] w fun e w' => e = .returned (.tuple #[.string k65, .int .i64 0]) ∧ w = w' := dLoad_any h 0
theorem s_raise7 (h : DevIs w a sd5) : Calls Tryz.prog 22 #[.pointer (some ⟨a.d, 0, none⟩), .int .i64 7] w fun e w' => e = .returned (.int .i64 0) ∧ DevIs w' a sd6 ∧ DLeft w w' a := dRaise_any h (by decide) 7
theorem s_raise6 (h : DevIs w a sd6) : Calls Tryz.prog 22 #[.pointer (some ⟨a.d, 0, none⟩), .int .i64 6] w fun e w' => e = .returned (.int .i64 20) ∧ DevIs w' a sd6 ∧ DLeft w w' a := dRaise_any h (by decide) 6
theorem s_burn0 (h : DevIs w a sd6) : Calls Tryz.prog 16 #[.pointer (some ⟨a.d, 0, none⟩), .int .i64 0] w fun e w' => e = .returned (.int .i64 0) ∧ DevIs w' a sd7 ∧ DLeft w w' a := by
  have h1 := dBurn_any h (by decide) 0
  have hc : chk (inS sd6.fuses 0) = 0 := chk_pos (by decide)
  rw [hc] at h1
  exact h1
theorem s_up3 (h : DevIs w a sd3) : Calls Tryz.prog 17 #[.pointer (some ⟨a.d, 0, none⟩)] w fun e w' => e = .returned (.bool false) ∧ w = w' := Up_any h
theorem s_burned3 (h : DevIs w a sd3) : Calls Tryz.prog 18 #[.pointer (some ⟨a.d, 0, none⟩), .int .i64 1] w fun e w' => e = .returned (.bool false) ∧ w = w' := dBurned_any h 1
theorem s_up7 (h : DevIs w a sd7) : Calls Tryz.prog 17 #[.pointer (some ⟨a.d, 0, none⟩)] w fun e w' => e = .returned (.bool true) ∧ w = w' := Up_any h
theorem s_burned7 (h : DevIs w a sd7) : Calls Tryz.prog 18 #[.pointer (some ⟨a.d, 0, none⟩), .int .i64 0] w fun e w' => e = .returned (.bool true) ∧ w = w' := dBurned_any h 0
theorem s_now7 (h : DevIs w a sd7) : Calls Tryz.prog 24 #[.pointer (some ⟨a.d, 0, none⟩)] w fun e w' => e = .returned (.int .i64 5) ∧ w = w' := Now_any h
theorem s_counter7 (h : DevIs w a sd7) : Calls Tryz.prog 25 #[.pointer (some ⟨a.d, 0, none⟩)] w fun e w' => e = .returned (.int .i64 7) ∧ w = w' := Counter_any h
theorem s_sectors7 (h : DevIs w a sd7) : Calls Tryz.prog 26 #[.pointer (some ⟨a.d, 0, none⟩)] w fun e w' => e = .returned (.int .i64 2) ∧ w = w' := Sectors_any h
theorem s_image7 (h : DevIs w a sd7) : Calls Tryz.prog 23 #[.pointer (some ⟨a.d, 0, none⟩)] w fun e w' => ∃ g c, e = .returned (.slice (some ⟨g, 0, none⟩) 2 c) ∧ w'.cell? ⟨g, 0, none⟩ = some (.string zeros) ∧ Below w.heap.size w w' := by
  refine (dImage_any h (by decide)).mono ?_
  rintro e w' ⟨v, rfl, hT⟩
  have h1 := hT.1
  rcases hT.1.2 with ⟨_, h0⟩ | ⟨g, cap, cur, rfl, _⟩
  · cases h0
  · exact ⟨g, cap, rfl, h1.cellAt 0 (by decide), hT.2.2⟩
end
theorem s_text (w : World) : Calls Tryz.prog 13 #[.agg #[.int .i64 0, .int .i64 0, .int .i64 0, .int .u8 65, .bool false, .slice none 0 0], .int .i64 32] w fun e w' => e = .returned (.string k65) ∧ Below w.heap.size w w' :=
  dText_any w 0 0 0 65 32 false (by decide) (.inr rfl) none 0 0
theorem s_new (w : World) : Calls Tryz.prog 6 #[.int .i64 2, .int .i64 1, .int .i64 2] w fun e w' => ∃ a : DAt, e = .returned (.tuple #[.pointer (some ⟨a.d, 0, none⟩), .int .i64 0]) ∧ MDev w w' a sd0 := by
  refine (dNew_ok w 2 1 2 (by decide) (by decide) (by decide)).mono ?_
  rintro e w' ⟨a, rfl, h1, ⟨l1, l2, l3, l4⟩, hB⟩
  exact ⟨a, rfl, h1, hB, l1, l2, l3, l4⟩

set_option maxRecDepth 100000 in
set_option maxHeartbeats 4000000 in
theorem sanity_true (w : World) : Calls Tryz.prog 4 #[] w fun e w' => e = .returned (.bool true) ∧ Below w.heap.size w w' := by
  have hz : ((zeros.size : Int) == 64) = true := by decide
  go_enter Tryz.func4, Tryz.ntmps4
  go_wp2_with fail
  refine (s_new w).mono ?_
  rintro e w0 ⟨a, rfl, h⟩
  have H0 := Lib.hid h
  clear h
  go_wp2_with fail
  refine (s_text _).mono ?_
  rintro e w1 ⟨rfl, hB⟩
  have H1 := Lib.hid (H0.out.on hB)
  clear hB H0
  go_wp2_with fail
  refine (s_trip H1.out.dev).mono ?_
  rintro e w2 ⟨rfl, h, hF⟩
  have H2 := Lib.hid (H1.out.next hF h)
  clear h hF H1
  go_wp2_with fail
  refine (s_store H2.out.dev).mono ?_
  rintro e w3 ⟨rfl, h, hF⟩
  have H3 := Lib.hid (H2.out.next hF h)
  clear h hF H2
  go_wp2_with fail
  refine (s_burn1 H3.out.dev).mono ?_
  rintro e w4 ⟨rfl, h, hF⟩
  have H4 := Lib.hid (H3.out.next hF h)
  clear h hF H3
  go_wp2_with fail
  refine (s_up3 H4.out.dev).mono ?_
  rintro e w5 ⟨rfl, rfl⟩
  go_wp2_with fail
  refine (s_burned3 H4.out.dev).mono ?_
  rintro e w5 ⟨rfl, rfl⟩
  go_wp2_with fail
  refine (s_tick H4.out.dev).mono ?_
  rintro e w5 ⟨rfl, h, hF⟩
  have H5 := Lib.hid (H4.out.next hF h)
  clear h hF H4
  go_wp2_with fail
  refine (s_mount H5.out.dev).mono ?_
  rintro e w6 ⟨rfl, h, hF⟩
  have H6 := Lib.hid (H5.out.next hF h)
  clear h hF H5
  go_wp2_with fail
  refine (s_load H6.out.dev).mono ?_
  rintro e w7 ⟨rfl, rfl⟩
  go_wp2_with fail
  refine (s_raise7 H6.out.dev).mono ?_
  rintro e w7 ⟨rfl, h, hF⟩
  have H7 := Lib.hid (H6.out.next hF h)
  clear h hF H6
  go_wp2_with fail
  refine (s_raise6 H7.out.dev).mono ?_
  rintro e w8 ⟨rfl, h, hF⟩
  have H8 := Lib.hid (H7.out.next hF h)
  clear h hF H7
  go_wp2_with fail
  refine (s_burn0 H8.out.dev).mono ?_
  rintro e w9 ⟨rfl, h, hF⟩
  have H9 := Lib.hid (H8.out.next hF h)
  clear h hF H8
  go_wp2_with fail
  refine (s_image7 H9.out.dev).mono ?_
  rintro e w10 ⟨g, c, rfl, hc, hB⟩
  have H := Lib.hid (H9.out.on hB)
  clear hB H9
  go_wp2_with (first | (go_at_call 24; refine (s_now7 H.out.dev).mono ?_; rintro e w11 ⟨rfl, rfl⟩) | (go_at_call 25; refine (s_counter7 H.out.dev).mono ?_; rintro e w11 ⟨rfl, rfl⟩) | (go_at_call 18; refine (s_burned7 H.out.dev).mono ?_; rintro e w11 ⟨rfl, rfl⟩) | (go_at_call 17; refine (s_up7 H.out.dev).mono ?_; rintro e w11 ⟨rfl, rfl⟩) | (go_at_call 26; refine (s_sectors7 H.out.dev).mono ?_; rintro e w11 ⟨rfl, rfl⟩))
  go_ret
  exact ⟨rfl, H.out.bel⟩
/-- The bounds of a law's inputs. -/
theorem few_any (w : World) (x y z : Int) (A : Option Addr) (N c : Nat) :
    Calls Tryz.prog 5 #[.agg #[.int .i64 x, .int .i64 y, .int .i64 z], .slice A N c] w fun e w' => e = .returned (.bool (decide (x ≤ 12) && decide ((N : Int) ≤ 60))) ∧ Below w.heap.size w w' := by
  by_cases hx : x ≤ 12
  · have d1 : decide (x ≤ 12) = true := decide_eq_true hx
    clear hx
    go_enter Tryz.func5, Tryz.ntmps5
    go_wp2_with fail
    go_ret
    exact ⟨by rw [d1]; simp, (Below.refl _ _).alloc (Nat.le_refl _) _⟩
  · have d1 : decide (x ≤ 12) = false := decide_eq_false hx
    clear hx
    go_enter Tryz.func5, Tryz.ntmps5
    go_wp2_with fail
    go_ret
    exact ⟨by rw [d1]; simp, (Below.refl _ _).alloc (Nat.le_refl _) _⟩
end Go.Proofs.YtcifkahmeimniaaGreat
