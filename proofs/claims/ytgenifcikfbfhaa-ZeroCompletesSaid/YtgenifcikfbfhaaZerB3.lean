/-
  Layer 33 (zero): the example that every law plays first.
-/
import Derived.Test.YtgenifcikfbfhaaZerB2
namespace Go.Proofs.Ytgenifcikfbfhaa
open Go.RowKit Go.Shelf
attribute [local go_sem] Oper.semAt_some

/-- The example's operations, texts and devices, step by step. -/
def zo1 : DOp := ⟨5, 0, 0, 65, false, []⟩
def zo2 : DOp := ⟨2, 1, 0, 65, false, []⟩
def zo3 : DOp := ⟨3, 0, 0, 0, false, []⟩
def zo4 : DOp := ⟨9, 2, 0, 0, false, []⟩
def zo6 : DOp := ⟨10, 0, 0, 0, false, []⟩
def k65 : ByteArray := dtext 65 false 32
def m65 : ByteArray := dtext 65 false 64
def zd0 : Dev := freshDev 2 1 2
def zd1 : Dev := (dplay zo1 zd0 []).2.1
def zd2 : Dev := (dplay zo2 zd1 []).2.1
def zd3 : Dev := (dplay zo3 zd2 []).2.1
def zd4 : Dev := (dplay zo4 zd3 []).2.1
def zd5 : Dev := (zbegin zd4).2
def zd6 : Dev := (dplay zo6 zd5 []).2.1
def zd7 : Dev := (zresume zd6).2
theorem zok0 : zd0.Ok 2 1 2 := fresh_ok 2 1 2
theorem zok1 : zd1.Ok 2 1 2 := dplay_ok zok0 zo1 (by decide) []
theorem zok2 : zd2.Ok 2 1 2 := dplay_ok zok1 zo2 (by decide) []
theorem zok3 : zd3.Ok 2 1 2 := dplay_ok zok2 zo3 (by decide) []
theorem zok4 : zd4.Ok 2 1 2 := dplay_ok zok3 zo4 (by decide) []
theorem zok5 : zd5.Ok 2 1 2 := zbegin_ok zok4
theorem zok6 : zd6.Ok 2 1 2 := dplay_ok zok5 zo6 (by decide) []
theorem zok7 : zd7.Ok 2 1 2 := zresume_ok zok6
theorem zf0 : zstate zd0 = 0 := by kernel_rfl
theorem zf1 : zcount zd0 = 0 := by kernel_rfl
theorem zf2 : zresume zd0 = (0, zd0) := by kernel_rfl
theorem zf3 : (leftL (zd3.M.map Sec.now)).length = 1 := by kernel_rfl
theorem zf4 : (zbegin zd4).1 = 14 := by kernel_rfl
theorem zf5 : zstate zd6 = 1 := by kernel_rfl
theorem zf6 : zcount zd6 = 5 := by kernel_rfl
theorem zf7 : (zresume zd6).1 = 0 := by kernel_rfl
theorem zf8 : zstate zd7 = 2 := by kernel_rfl
theorem zf9 : leftL (zd7.M.map Sec.now) = [] := by kernel_rfl
theorem zf10 : zd7.slots.getD 0 ⟨#[]⟩ = zero32 := by kernel_rfl

section
variable {w : World} {a : DAt}
theorem z_new (w : World) : Calls Try.prog 28 #[.int .i64 2, .int .i64 1, .int .i64 2] w fun e w' => ∃ a : DAt, e = .returned (.tuple #[.pointer (some ⟨a.d, 0, none⟩), .int .i64 0]) ∧ MDev w w' a zd0 := by
  refine (dNew_ok w 2 1 2 (by decide) (by decide) (by decide)).mono ?_
  rintro e w' ⟨a, rfl, h1, ⟨l1, l2, l3, l4⟩, hB⟩
  exact ⟨a, rfl, h1, hB, l1, l2, l3, l4⟩
theorem z_state0 (h : DevIs w a zd0) : Calls Try.prog 16 #[.pointer (some ⟨a.d, 0, none⟩)] w fun e w' => e = .returned (.int .i64 0) ∧ w = w' := by
  have h1 := zState_any h
  rw [zf0] at h1
  exact h1
theorem z_steps0 (h : DevIs w a zd0) : Calls Try.prog 21 #[.pointer (some ⟨a.d, 0, none⟩)] w fun e w' => e = .returned (.int .i64 0) ∧ DevIs w' a zd0 ∧ DLeft w w' a := by
  have h1 := zSteps_any h zok0 (by decide) (by decide)
  rw [zf1] at h1
  exact h1
theorem z_resume0 (h : DevIs w a zd0) : Calls Try.prog 18 #[.pointer (some ⟨a.d, 0, none⟩)] w fun e w' => e = .returned (.int .i64 0) ∧ DevIs w' a zd0 ∧ DLeft w w' a := by
  have h1 := zResume_any h zok0 (by decide) (by decide)
  rw [zf2] at h1
  exact h1
theorem z_text32 (w : World) : Calls Try.prog 24 #[.agg #[.int .i64 0, .int .i64 0, .int .i64 0, .int .u8 65, .bool false, .slice none 0 0], .int .i64 32] w fun e w' => e = .returned (.string k65) ∧ Below w.heap.size w w' :=
  dText_any w 0 0 0 65 32 false (by decide) (.inr rfl) none 0 0
theorem z_text64 (w : World) : Calls Try.prog 24 #[.agg #[.int .i64 0, .int .i64 0, .int .i64 0, .int .u8 65, .bool false, .slice none 0 0], .int .i64 64] w fun e w' => e = .returned (.string m65) ∧ Below w.heap.size w w' :=
  dText_any w 0 0 0 65 64 false (by decide) (.inl rfl) none 0 0
theorem z_store (h : DevIs w a zd0) : Calls Try.prog 29 #[.pointer (some ⟨a.d, 0, none⟩), .int .i64 0, .string k65] w fun e w' => e = .returned (.int .i64 0) ∧ DevIs w' a zd1 ∧ DLeft w w' a := by
  have e2 : (zd0.dstep (chk (inS zd0.slots 0 ∧ k65.size = 32)) fun D => { D with slots := D.slots.set (0 : Int).toNat k65 }) = (0, zd1) := by kernel_rfl
  have h1 := dStore_any h zok0.left 0 k65
  rw [e2] at h1
  exact h1
theorem z_write (h : DevIs w a zd1) : Calls Try.prog 23 #[.pointer (some ⟨a.d, 0, none⟩), .int .i64 1, .string m65] w fun e w' => e = .returned (.int .i64 0) ∧ DevIs w' a zd2 ∧ DLeft w w' a := by
  have e2 : (zd1.dstep (chk (isAt zd1.M 1 ∧ m65.size = 64)) fun D => { D with M := upd (fun s => s.write m65) D.M 1 }) = (0, zd2) := by kernel_rfl
  have h1 := dWrite_any h zok1.left 1 m65
  rw [e2] at h1
  exact h1
theorem z_flush (h : DevIs w a zd2) : Calls Try.prog 30 #[.pointer (some ⟨a.d, 0, none⟩)] w fun e w' => e = .returned (.int .i64 0) ∧ DevIs w' a zd3 ∧ DLeft w w' a := by
  have e2 : (zd2.dstep 0 fun D => { D with M := doneM (fun _ => 64) D.M (idxs Sec.dirty D.M) }) = (0, zd3) := by kernel_rfl
  have h1 := dFlush_any h zok2.left zok2.fine (by rw [zok2.M]; decide)
  rw [e2] at h1
  exact h1
theorem z_left3 (h : DevIs w a zd3) : Calls Try.prog 22 #[.pointer (some ⟨a.d, 0, none⟩)] w fun e w' => ∃ g c, e = .returned (.slice (some ⟨g, 0, none⟩) 1 c) ∧ Below w.heap.size w w' := by
  refine (zLeft_any h (by rw [zok3.M]; decide) (by rw [zok3.M]; decide)).mono ?_
  rintro e w' ⟨v, rfl, h1, h2, h3⟩
  rw [zf3] at h1
  rcases h1.2 with ⟨_, h0⟩ | ⟨g, cap, cur, rfl, _⟩
  · cases h0
  · exact ⟨g, cap, rfl, h3⟩
theorem z_trip (h : DevIs w a zd3) : Calls Try.prog 13 #[.pointer (some ⟨a.d, 0, none⟩), .int .i64 2] w fun e w' => e = .returned (.tuple #[]) ∧ DevIs w' a zd4 ∧ DLeft w w' a := dTrip_any h 2
theorem z_begin (h : DevIs w a zd4) : Calls Try.prog 14 #[.pointer (some ⟨a.d, 0, none⟩)] w fun e w' => e = .returned (.int .i64 14) ∧ DevIs w' a zd5 ∧ DLeft w w' a := by
  have h1 := zBegin_any h zok4 (by decide) (by decide)
  rw [zf4] at h1
  exact h1
theorem z_mount (h : DevIs w a zd5) : Calls Try.prog 9 #[.pointer (some ⟨a.d, 0, none⟩), .slice none 0 0] w fun e w' => e = .returned (.tuple #[]) ∧ DevIs w' a zd6 ∧ DLeft w w' a := by
  have e2 : ({ zd5 with M := doneM (pick []) zd5.M (idxs Sec.dirty zd5.M), down := false, left := -1 } : Dev) = zd6 := by kernel_rfl
  have h1 := dMount_any h zok5.fine (by rw [zok5.M]; decide) (.slice none 0 0) [] a.b 0 ⟨none, 0, rfl, Nat.le_refl _, Nat.zero_le _, fun e => absurd e (by simp)⟩ h.mem.ne (fun i x e => by simp at e)
  rw [e2] at h1
  exact h1
theorem z_state6 (h : DevIs w a zd6) : Calls Try.prog 16 #[.pointer (some ⟨a.d, 0, none⟩)] w fun e w' => e = .returned (.int .i64 1) ∧ w = w' := by
  have h1 := zState_any h
  rw [zf5] at h1
  exact h1
theorem z_steps6 (h : DevIs w a zd6) : Calls Try.prog 21 #[.pointer (some ⟨a.d, 0, none⟩)] w fun e w' => e = .returned (.int .i64 5) ∧ DevIs w' a zd6 ∧ DLeft w w' a := by
  have h1 := zSteps_any h zok6 (by decide) (by decide)
  rw [zf6] at h1
  exact h1
theorem z_resume6 (h : DevIs w a zd6) : Calls Try.prog 18 #[.pointer (some ⟨a.d, 0, none⟩)] w fun e w' => e = .returned (.int .i64 0) ∧ DevIs w' a zd7 ∧ DLeft w w' a := by
  have h1 := zResume_any h zok6 (by decide) (by decide)
  rw [zf7] at h1
  exact h1
theorem z_load (h : DevIs w a zd7) : Calls Try.prog 11 #[.pointer (some ⟨a.d, 0, none⟩), .int .i64 0] w fun e w' => e = .returned (.tuple #[.string zero32, .int .i64 0]) ∧ w = w' := by
  have e1 : (if zd7.down = true then (⟨#[]⟩ : ByteArray) else if inS zd7.slots 0 then zd7.slots.getD (0 : Int).toNat ⟨#[]⟩ else ⟨#[]⟩) = zero32 := by kernel_rfl
  have e2 : (if zd7.down = true then (14 : Int) else if inS zd7.slots 0 then 0 else 1) = 0 := by kernel_rfl
  have h1 := dLoad_any h 0
  rw [e1, e2] at h1
  exact h1
theorem z_state7 (h : DevIs w a zd7) : Calls Try.prog 16 #[.pointer (some ⟨a.d, 0, none⟩)] w fun e w' => e = .returned (.int .i64 2) ∧ w = w' := by
  have h1 := zState_any h
  rw [zf8] at h1
  exact h1
theorem z_left7 (h : DevIs w a zd7) : Calls Try.prog 22 #[.pointer (some ⟨a.d, 0, none⟩)] w fun e w' => e = .returned (.slice none 0 0) ∧ Below w.heap.size w w' := by
  refine (zLeft_any h (by rw [zok7.M]; decide) (by rw [zok7.M]; decide)).mono ?_
  rintro e w' ⟨v, rfl, h1, h2, h3⟩
  exact ⟨by rw [h2.2 zf9], h3⟩
end
set_option maxRecDepth 100000 in
set_option maxHeartbeats 4000000 in
theorem sanity_true (w : World) : Calls Try.prog 8 #[] w fun e w' => e = .returned (.bool true) ∧ Below w.heap.size w w' := by
  have k2 := zmk32
  have k3 := zcv32
  go_enter Try.func8, Try.ntmps8
  go_wp2_with fail
  refine (z_new w).mono ?_
  rintro e w0 ⟨a, rfl, h⟩
  have H0 := Lib.hid h
  clear h
  go_wp2_with fail
  refine (z_state0 H0.out.dev).mono ?_
  rintro e w1 ⟨rfl, rfl⟩
  go_wp2_with fail
  refine (z_steps0 H0.out.dev).mono ?_
  rintro e w1 ⟨rfl, h, hF⟩
  have H1 := Lib.hid (H0.out.next hF h)
  clear h hF H0
  go_wp2_with fail
  refine (z_resume0 H1.out.dev).mono ?_
  rintro e w2 ⟨rfl, h, hF⟩
  have H2 := Lib.hid (H1.out.next hF h)
  clear h hF H1
  go_wp2_with fail
  refine (z_text32 _).mono ?_
  rintro e w3 ⟨rfl, hB⟩
  have H3 := Lib.hid (H2.out.on hB)
  clear hB H2
  go_wp2_with fail
  refine (z_store H3.out.dev).mono ?_
  rintro e w4 ⟨rfl, h, hF⟩
  have H4 := Lib.hid (H3.out.next hF h)
  clear h hF H3
  go_wp2_with fail
  refine (z_text64 _).mono ?_
  rintro e w5 ⟨rfl, hB⟩
  have H5 := Lib.hid (H4.out.on hB)
  clear hB H4
  go_wp2_with fail
  refine (z_write H5.out.dev).mono ?_
  rintro e w6 ⟨rfl, h, hF⟩
  have H6 := Lib.hid (H5.out.next hF h)
  clear h hF H5
  go_wp2_with fail
  refine (z_flush H6.out.dev).mono ?_
  rintro e w7 ⟨rfl, h, hF⟩
  have H7 := Lib.hid (H6.out.next hF h)
  clear h hF H6
  go_wp2_with fail
  refine (z_left3 H7.out.dev).mono ?_
  rintro e w8 ⟨g, c, rfl, hB⟩
  have H8 := Lib.hid (H7.out.on hB)
  clear hB H7
  go_wp2_with fail
  refine (z_trip H8.out.dev).mono ?_
  rintro e w9 ⟨rfl, h, hF⟩
  have H9 := Lib.hid (H8.out.next hF h)
  clear h hF H8
  go_wp2_with fail
  refine (z_begin H9.out.dev).mono ?_
  rintro e w10 ⟨rfl, h, hF⟩
  have H10 := Lib.hid (H9.out.next hF h)
  clear h hF H9
  go_wp2_with fail
  refine (z_mount H10.out.dev).mono ?_
  rintro e w11 ⟨rfl, h, hF⟩
  have H11 := Lib.hid (H10.out.next hF h)
  clear h hF H10
  go_wp2_with fail
  refine (z_state6 H11.out.dev).mono ?_
  rintro e w12 ⟨rfl, rfl⟩
  go_wp2_with fail
  refine (z_steps6 H11.out.dev).mono ?_
  rintro e w12 ⟨rfl, h, hF⟩
  have H12 := Lib.hid (H11.out.next hF h)
  clear h hF H11
  go_wp2_with fail
  refine (z_resume6 H12.out.dev).mono ?_
  rintro e w13 ⟨rfl, h, hF⟩
  have H13 := Lib.hid (H12.out.next hF h)
  clear h hF H12
  go_wp2_with fail
  refine (z_load H13.out.dev).mono ?_
  rintro e w14 ⟨rfl, rfl⟩
  go_wp2_with (first | (go_at_call 16; refine (z_state7 H13.out.dev).mono ?_; rintro e w14 ⟨rfl, rfl⟩) | (go_at_call 22; refine (z_left7 (H13.out.dev.below ((Below.refl _ _).alloc (Nat.le_refl _) _))).mono ?_; rintro e w14 ⟨rfl, hB⟩; have HB := Lib.hid hB; clear hB))
  go_ret
  exact ⟨rfl, (H13.out.bel.alloc H13.out.bel.size _).trans (HB.out.mono (by have := H13.out.bel.size; simp; omega))⟩
end Go.Proofs.Ytgenifcikfbfhaa
