/-
  Layer 25 (journal): the example that every law plays first.
-/
import Derived.Test.YtgdpgiegiacepaaDoorG18
namespace Go.Proofs.YtgdpgiegiacepaaDoor
open Go.RowKit Go.Shelf
open Sec (mostN countN)
attribute [local go_sem] Oper.semAt_some

def xa : ByteArray := ⟨#[97]⟩
def xb : ByteArray := ⟨#[98]⟩
def xi : ByteArray := ⟨#[105, 109, 97, 103, 101]⟩
def xl : ByteArray := ⟨(List.replicate 50 (120 : UInt8)).toArray⟩
def xl45 : ByteArray := ⟨(List.replicate 45 (120 : UInt8)).toArray⟩
theorem xl_cut : xl.extract 0 45 = xl45 := by kernel_rfl
def xJ1 : Jrn := ⟨0, 1, 2, [(1, xa)], false⟩
def xJ2 : Jrn := ⟨0, 3, 3, [(1, xa), (2, xl)], false⟩
def xJ3 : Jrn := ⟨1, 1, 4, [(3, xi)], false⟩
def xJ4 : Jrn := ⟨1, 2, 5, [(3, xi), (4, xb)], false⟩
section
variable {W w : World} {a : DAt} {k jb : Nat} {v : Value} {D : Dev}
theorem x_repeat (w : World) : Calls Tryd.prog 20 #[.string ⟨#[120]⟩, .int .i64 50] w fun e w' => e = .returned (.string xl) ∧ Below w.heap.size w w' := by
  refine (Tryd.strings_Repeat ⟨#[120]⟩ 50 w (by omega) (by show 1 * 50 ≤ 140737488355328; omega)).mono ?_
  rintro e w' ⟨rfl, hB⟩
  refine ⟨?_, hB⟩
  have h : (⟨(Lib.repeatL (⟨#[120]⟩ : ByteArray).data.toList 50).toArray⟩ : ByteArray) = xl := by kernel_rfl
  rw [h]
theorem x_a (h : FSt W w a 8 0 jb v J0 D) : Calls Tryd.prog 11 #[.pointer (some ⟨jb, 0, none⟩), .string ⟨#[97]⟩] w fun e w' => ∃ v' D', e = .returned (.tuple #[.int .i64 1, .int .i64 0]) ∧ Hid (FSt W w' a 8 1 jb v' xJ1 D') ∧ Hid (JLeft w w' a jb) :=
  h.append xa (by decide) (by decide) (by decide) (N := 1) (J' := xJ1) rfl (by kernel_rfl)
theorem x_l (h : FSt W w a 8 1 jb v xJ1 D) : Calls Tryd.prog 11 #[.pointer (some ⟨jb, 0, none⟩), .string xl] w fun e w' => ∃ v' D', e = .returned (.tuple #[.int .i64 2, .int .i64 0]) ∧ Hid (FSt W w' a 8 2 jb v' xJ2 D') ∧ Hid (JLeft w w' a jb) :=
  h.append xl (by decide) (by decide) (by decide) (N := 2) (J' := xJ2) rfl (by kernel_rfl)
theorem x_f (h : FSt W w a 8 2 jb v xJ2 D) : Calls Tryd.prog 11 #[.pointer (some ⟨jb, 0, none⟩), .string xl45] w fun e w' => ∃ v' D', e = .returned (.tuple #[.int .i64 0, .int .i64 15]) ∧ Hid (FSt W w' a 8 3 jb v' xJ2 D') ∧ Hid (JLeft w w' a jb) :=
  h.append_full xl45 (by decide) (by decide) (by decide)
theorem x_i (h : FSt W w a 8 3 jb v xJ2 D) : Calls Tryd.prog 12 #[.pointer (some ⟨jb, 0, none⟩), .string ⟨#[105, 109, 97, 103, 101]⟩] w fun e w' => ∃ v' D', e = .returned (.tuple #[.int .i64 3, .int .i64 0]) ∧ Hid (FSt W w' a 8 4 jb v' xJ3 D') ∧ Hid (JLeft w w' a jb) :=
  h.compact xi (by decide) (by decide) (by decide) (N := 3) (J' := xJ3) rfl (by kernel_rfl)
theorem x_b (h : FSt W w a 8 4 jb v xJ3 D) : Calls Tryd.prog 11 #[.pointer (some ⟨jb, 0, none⟩), .string ⟨#[98]⟩] w fun e w' => ∃ v' D', e = .returned (.tuple #[.int .i64 4, .int .i64 0]) ∧ Hid (FSt W w' a 8 5 jb v' xJ4 D') ∧ Hid (JLeft w w' a jb) :=
  h.append xb (by decide) (by decide) (by decide) (N := 4) (J' := xJ4) rfl (by kernel_rfl)
theorem x_recs0 (h : FSt W w a 8 0 jb v J0 D) : Calls Tryd.prog 15 #[.pointer (some ⟨jb, 0, none⟩)] w fun e w' => ∃ A c, e = .returned (.slice A 0 c) ∧ Hid (FSt W w' a 8 0 jb v J0 D) ∧ Hid (Below w.heap.size w w') := by
  refine h.st.records.mono ?_
  rintro e w' ⟨u, rfl, hT, h1⟩
  obtain ⟨A, c, rfl, _⟩ := textsAt_row hT.out.1
  exact ⟨A, c, rfl, h.on hT.out.2.2, hT.out.2.2⟩
theorem x_recs (h : FSt W w a 8 k jb v xJ4 D) : Calls Tryd.prog 15 #[.pointer (some ⟨jb, 0, none⟩)] w fun e w' => ∃ u, e = .returned u ∧ Hid (TextsAt w' u [xi, xb]) ∧ Hid (Below w.heap.size w w') := by
  refine h.st.records.mono ?_
  rintro e w' ⟨u, rfl, hT, h1⟩
  exact ⟨u, rfl, textsAt_row hT.out.1, hT.out.2.2⟩
theorem x_nums (h : FSt W w a 8 k jb v xJ4 D) : Calls Tryd.prog 23 #[.pointer (some ⟨jb, 0, none⟩)] w fun e w' => ∃ u, e = .returned u ∧ Hid (NumsAt w' u [3, 4]) ∧ Hid (Below w.heap.size w w') := by
  refine h.st.numbers.mono ?_
  rintro e w' ⟨u, rfl, hT, h1⟩
  exact ⟨u, rfl, numsAt_row hT.out.1, hT.out.2.2⟩
theorem x_room (h : FSt W w a 8 k jb v J0 D) : Calls Tryd.prog 9 #[.pointer (some ⟨jb, 0, none⟩)] w fun e w' => e = .returned (.int .i64 4) ∧ Hid (FSt W w' a 8 k jb v J0 D) ∧ Hid (Below w.heap.size w w') := h.room
theorem x_room2 (h : FSt W w a 8 k jb v xJ2 D) : Calls Tryd.prog 9 #[.pointer (some ⟨jb, 0, none⟩)] w fun e w' => e = .returned (.int .i64 1) ∧ Hid (FSt W w' a 8 k jb v xJ2 D) ∧ Hid (Below w.heap.size w w') := h.room
theorem x_room3 (h : FSt W w a 8 k jb v xJ3 D) : Calls Tryd.prog 9 #[.pointer (some ⟨jb, 0, none⟩)] w fun e w' => e = .returned (.int .i64 3) ∧ Hid (FSt W w' a 8 k jb v xJ3 D) ∧ Hid (Below w.heap.size w w') := h.room
theorem x_bank (h : FSt W w a 8 k jb v J0 D) : Calls Tryd.prog 14 #[.pointer (some ⟨jb, 0, none⟩)] w fun e w' => e = .returned (.int .i64 0) ∧ w = w' := h.st.bankNo
theorem x_bank3 (h : FSt W w a 8 k jb v xJ3 D) : Calls Tryd.prog 14 #[.pointer (some ⟨jb, 0, none⟩)] w fun e w' => e = .returned (.int .i64 1) ∧ w = w' := h.st.bankNo
theorem x_next (h : FSt W w a 8 k jb v J0 D) : Calls Tryd.prog 10 #[.pointer (some ⟨jb, 0, none⟩)] w fun e w' => e = .returned (.int .i64 1) ∧ w = w' := h.st.nextNo
theorem x_next4 (h : FSt W w a 8 k jb v xJ4 D) : Calls Tryd.prog 10 #[.pointer (some ⟨jb, 0, none⟩)] w fun e w' => e = .returned (.int .i64 5) ∧ w = w' := h.st.nextNo
theorem x_start (w : World) : Calls Tryd.prog 7 #[.int .i64 8] w fun e w' => ∃ (a : DAt) (jb : Nat) (v : Value), e = .returned (.tuple #[.pointer (some ⟨a.d, 0, none⟩), .pointer (some ⟨jb, 0, none⟩), .bool true]) ∧ Hid (FSt w w' a 8 0 jb v J0 (freshDev 8 1 1)) := by
  refine (start_any w w (Below.refl _ _) 8 (by decide)).mono ?_
  rintro e w' ⟨a, jb, v, rfl, h, _⟩
  exact ⟨a, jb, v, rfl, h.out, fresh_unworn 8 0, rfl⟩
theorem x_new1 (w : World) : Calls Tryd.prog 21 #[.int .i64 1, .int .i64 1, .int .i64 1] w fun e w' => ∃ a : DAt, e = .returned (.tuple #[.pointer (some ⟨a.d, 0, none⟩), .int .i64 0]) ∧ Hid (DevIs w' a (freshDev 1 1 1)) ∧ Hid (Below w.heap.size w w') := by
  refine (dNew_ok w 1 1 1 (by decide) (by decide) (by decide)).mono ?_
  rintro e w' ⟨a, rfl, h1, _, hB⟩
  exact ⟨a, rfl, h1, hB⟩
end
theorem x_lit1 (w : World) : TextsAt (w.alloc (.cells #[.string ⟨#[105, 109, 97, 103, 101]⟩, .string ⟨#[98]⟩] 9)) (.slice (some ⟨w.heap.size, 0, none⟩) 2 2) [xi, xb] := by
  have hb := Blk.new w 9 #[.string ⟨#[105, 109, 97, 103, 101]⟩, .string ⟨#[98]⟩]
  refine ⟨_, 2, rfl, Nat.le_refl _, by unfold maxLen; omega, fun i t ht => ⟨_, rfl, hb.lt, ?_⟩⟩
  match i, ht with
  | 0, ht => cases ht; exact hb.cell 0
  | 1, ht => cases ht; exact hb.cell 1
theorem x_lit2 (w : World) : NumsAt (w.alloc (.cells #[.int .i64 3, .int .i64 4] 3)) (.slice (some ⟨w.heap.size, 0, none⟩) 2 2) [3, 4] := by
  have hb := Blk.new w 3 #[.int .i64 3, .int .i64 4]
  refine ⟨_, 2, rfl, Nat.le_refl _, by unfold maxLen; omega, fun i t ht => ⟨_, rfl, hb.lt, ?_⟩⟩
  match i, ht with
  | 0, ht => cases ht; exact hb.cell 0
  | 1, ht => cases ht; exact hb.cell 1
set_option maxRecDepth 100000 in
set_option maxHeartbeats 4000000 in
theorem sanity_true (w : World) : Calls Tryd.prog 6 #[] w fun e w' => e = .returned (.bool true) ∧ Below w.heap.size w w' := by
  go_enter Tryd.func6, Tryd.ntmps6
  go_wp2_with fail
  refine (x_start w).mono ?_
  rintro e w1 ⟨a, jb, v0, rfl, H0⟩
  go_wp2_with fail
  refine (x_recs0 H0.out).mono ?_
  rintro e w2 ⟨A, c, rfl, H1, _⟩
  clear H0
  go_wp2_with fail
  refine (x_next H1.out).mono ?_
  rintro e w' ⟨rfl, rfl⟩
  go_wp2_with fail
  refine (x_room H1.out).mono ?_
  rintro e w3 ⟨rfl, H2, _⟩
  clear H1
  go_wp2_with fail
  refine (x_bank H2.out).mono ?_
  rintro e w' ⟨rfl, rfl⟩
  go_wp2_with fail
  refine (x_repeat w3).mono ?_
  rintro e w4 ⟨rfl, hB⟩
  have H3 := Lib.hid (H2.out.on hB)
  clear hB H2
  go_wp2_with fail
  refine (x_a H3.out).mono ?_
  rintro e w5 ⟨v1, D1, rfl, H4, _⟩
  clear H3
  go_wp2_with fail
  refine (x_l H4.out).mono ?_
  rintro e w6 ⟨v2, D2, rfl, H5, _⟩
  clear H4
  go_wp2_with fail
  refine (x_room2 H5.out).mono ?_
  rintro e w7 ⟨rfl, H6, _⟩
  clear H5
  have hsz : xl.size = 50 := by decide
  have hsl : ∀ wx, (Instr.slice 9 (.string xl) none (some (.int .i64 45)) none).run Tryd.prog wx = .ok (.string xl45) wx := fun wx => by
    rw [← xl_cut]
    simp [go_sem, hsz]
  clear hsz
  go_wp2_with fail
  refine (x_f H6.out).mono ?_
  rintro e w8 ⟨v3, D3, rfl, H7, _⟩
  clear H6 hsl
  go_wp2_with fail
  refine (x_i H7.out).mono ?_
  rintro e w9 ⟨v4, D4, rfl, H8, _⟩
  clear H7
  go_wp2_with fail
  refine (x_bank3 H8.out).mono ?_
  rintro e w' ⟨rfl, rfl⟩
  go_wp2_with fail
  refine (x_room3 H8.out).mono ?_
  rintro e w10 ⟨rfl, H9, _⟩
  clear H8
  go_wp2_with fail
  refine (x_b H9.out).mono ?_
  rintro e w11 ⟨v5, D5, rfl, H10, _⟩
  clear H9
  go_wp2_with fail
  refine (FSt.open_ H10.out (by decide)).mono ?_
  rintro e w12 ⟨jc, v6, rfl, H11, _⟩
  clear H10
  go_wp2_with fail
  refine (x_new1 w12).mono ?_
  rintro e w13 ⟨a2, rfl, hd, hB⟩
  have H12 := Lib.hid (H11.out.on hB.out)
  clear hB H11
  go_wp2_with fail
  refine (jOpen_none hd.out rfl).mono ?_
  rintro e w14 ⟨rfl, hB⟩
  have H13 := Lib.hid (H12.out.on hB)
  clear hB H12 hd
  go_wp2_with fail
  refine (x_recs H13.out).mono ?_
  rintro e w15 ⟨u, rfl, hT, hB⟩
  have H14 := Lib.hid (H13.out.on hB.out)
  clear hB H13
  go_wp2_with fail
  have hB := (Below.refl _ w15).alloc (Nat.le_refl _) (.cells #[.string ⟨#[105, 109, 97, 103, 101]⟩, .string ⟨#[98]⟩] 9)
  refine (jsame_true _ _ _ _ (hT.out.below hB) (x_lit1 w15)).mono ?_
  rintro e w16 ⟨rfl, hB2⟩
  have H15 := Lib.hid ((H14.out.on hB).on hB2)
  clear hB hB2 H14 hT
  go_wp2_with fail
  refine (x_nums H15.out).mono ?_
  rintro e w17 ⟨u2, rfl, hT, hB⟩
  have H16 := Lib.hid (H15.out.on hB.out)
  clear hB H15
  go_wp2_with fail
  have hB := (Below.refl _ w17).alloc (Nat.le_refl _) (.cells #[.int .i64 3, .int .i64 4] 3)
  refine (jnums_true _ _ _ _ (hT.out.below hB) (x_lit2 w17)).mono ?_
  rintro e w18 ⟨rfl, hB2⟩
  have H17 := Lib.hid ((H16.out.on hB).on hB2)
  clear hB hB2 H16 hT
  go_wp2_with fail
  refine (x_next4 H17.out).mono ?_
  rintro e w' ⟨rfl, rfl⟩
  go_wp2_with fail
  go_ret
  exact ⟨rfl, H17.out.st.bel⟩
end Go.Proofs.YtgdpgiegiacepaaDoor
