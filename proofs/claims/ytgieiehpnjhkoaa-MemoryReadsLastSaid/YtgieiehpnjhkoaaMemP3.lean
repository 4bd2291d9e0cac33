/-
  Layer 22 (memory): the plain memories of sanity's examples, and the contracts of its calls.
-/
import Derived.Test.YtgieiehpnjhkoaaMemP2
namespace Go.Proofs.Ytgieiehpnjhkoaa
open Go.RowKit Go.Shelf

def tA : ByteArray := ⟨(List.replicate 64 (65 : UInt8)).toArray⟩
def tB : ByteArray := ⟨(List.replicate 64 (66 : UInt8)).toArray⟩
def tT : ByteArray := ⟨(List.replicate 3 (65 : UInt8) ++ List.replicate 61 (0 : UInt8)).toArray⟩
def wornBlank : Sec := ⟨zeros, zeros, ⟨#[]⟩, false, true⟩
def sM0 : List Sec := List.replicate 2 Sec.blank
def sM1 : List Sec := [⟨zeros, zeros, tA, true, false⟩, Sec.blank]
def sM2 : List Sec := [⟨tT, zeros, ⟨#[]⟩, false, false⟩, Sec.blank]
def sM3 : List Sec := [⟨tT, zeros, tB, true, false⟩, Sec.blank]
def sM4 : List Sec := [⟨tB, tT, ⟨#[]⟩, false, false⟩, Sec.blank]
def sM5 : List Sec := [⟨tT, tT, ⟨#[]⟩, false, false⟩, Sec.blank]
def sM6 : List Sec := [⟨tT, tT, ⟨#[]⟩, false, false⟩, wornBlank]
def sML : List Sec := [⟨tB, tB, ⟨#[]⟩, false, false⟩, ⟨tB, tB, ⟨#[]⟩, false, true⟩]

theorem tA_size : tA.size = 64 := by decide
theorem tB_size : tB.size = 64 := by decide
theorem tT_size : tT.size = 64 := by decide

theorem repA (w : World) : Calls Try.prog 19 #[.string ⟨#[65]⟩, .int .i64 64] w fun e w' => e = .returned (.string tA) ∧ Below w.heap.size w w' := by
  refine (Try.strings_Repeat ⟨#[65]⟩ 64 w (by omega) (by show 1 * 64 ≤ 140737488355328; omega)).mono ?_
  rintro e w' ⟨rfl, hB⟩
  refine ⟨?_, hB⟩
  have h : (⟨(Lib.repeatL (⟨#[65]⟩ : ByteArray).data.toList 64).toArray⟩ : ByteArray) = tA := by kernel_rfl
  rw [h]
theorem repB (w : World) : Calls Try.prog 19 #[.string ⟨#[66]⟩, .int .i64 64] w fun e w' => e = .returned (.string tB) ∧ Below w.heap.size w w' := by
  refine (Try.strings_Repeat ⟨#[66]⟩ 64 w (by omega) (by show 1 * 64 ≤ 140737488355328; omega)).mono ?_
  rintro e w' ⟨rfl, hB⟩
  refine ⟨?_, hB⟩
  have h : (⟨(Lib.repeatL (⟨#[66]⟩ : ByteArray).data.toList 64).toArray⟩ : ByteArray) = tB := by kernel_rfl
  rw [h]

/-- The memory of the examples, and a row of numbers that is kept. -/
structure Sa (w0 w : World) (b g : Nat) (M : List Sec) (vd : Value) (l : List Nat) : Prop where
  mem : PMem w b g M
  bel : Below w0.heap.size w0 w
  ge : w0.heap.size ≤ g
  row : IntsRow w vd l

section
variable {w0 w w' : World} {b g : Nat} {M M' : List Sec} {vd : Value} {l : List Nat}
theorem Sa.on (h : Sa w0 w b g M vd l) (hB : Below w.heap.size w w') : Sa w0 w' b g M vd l :=
  ⟨h.mem.below hB h.mem.lt.1 h.mem.lt.2, h.bel.trans (hB.mono h.bel.size), h.ge, h.row.below' hB⟩
theorem Sa.turn (h : Sa w0 w b g M vd l) (hM : PMem w' b g M') (hg : w.grownBy w' (some g)) : Sa w0 w' b g M' vd l := by
  obtain ⟨cap, cur, _, hgb, _⟩ := h.mem.body
  obtain ⟨base, hr⟩ := h.row
  exact ⟨hM, h.bel.grown hg h.bel.size (fun k e => by cases e; exact h.ge), h.ge, base, hr.kept hg (.inr (own_blk_ne hr hgb (by decide)))⟩

theorem c_write {M' : List Sec} (i : Int) (t : ByteArray) (h : Sa w0 w b g M vd l) (h1 : isAt M i ∧ t.size = 64) (h2 : upd (fun s => s.write t) M i = M') :
    Calls Try.prog 31 #[.pointer (some ⟨b, 0, none⟩), .int .i64 i, .string t] w fun e w' => e = .returned (.int .i64 0) ∧ Hid (Sa w0 w' b g M' vd l) := by
  refine (write_any h.mem i t).mono ?_
  rintro e w' ⟨rfl, hM, hg⟩
  rw [if_pos h1, h2] at hM
  refine ⟨by unfold errOf; rw [if_pos h1], h.turn hM hg⟩
theorem c_read (i : Int) (t : ByteArray) (er : Int) (h : Sa w0 w b g M vd l) (h1 : readT M i = t) (h2 : readE M i = er) :
    Calls Try.prog 18 #[.pointer (some ⟨b, 0, none⟩), .int .i64 i] w fun e w' => e = .returned (.tuple #[.string t, .int .i64 er]) ∧ w = w' := by
  rw [← h1, ← h2]
  exact Read_any h.mem i
theorem c_stale {M' : List Sec} (i : Int) (h : Sa w0 w b g M vd l) (h1 : isAt M i) (h2 : upd Sec.stale M i = M') :
    Calls Try.prog 26 #[.pointer (some ⟨b, 0, none⟩), .int .i64 i] w fun e w' => e = .returned (.int .i64 0) ∧ Hid (Sa w0 w' b g M' vd l) := by
  refine (stale_any h.mem i).mono ?_
  rintro e w' ⟨rfl, hM, hg⟩
  rw [if_pos h1, h2] at hM
  refine ⟨by unfold errOf; rw [if_pos h1], h.turn hM hg⟩
theorem c_wear {M' : List Sec} (i : Int) (h : Sa w0 w b g M vd l) (h1 : isAt M i) (h2 : upd Sec.wear M i = M') :
    Calls Try.prog 24 #[.pointer (some ⟨b, 0, none⟩), .int .i64 i] w fun e w' => e = .returned (.int .i64 0) ∧ Hid (Sa w0 w' b g M' vd l) := by
  refine (wear_any h.mem i).mono ?_
  rintro e w' ⟨rfl, hM, hg⟩
  rw [if_pos h1, h2] at hM
  refine ⟨by unfold errOf; rw [if_pos h1], h.turn hM hg⟩
theorem c_flush {M' : List Sec} (h : Sa w0 w b g M vd l) (hf : Fine M) (hN : M.length ≤ 1048576) (h2 : doneM (fun _ => 64) M (idxs Sec.dirty M) = M') :
    Calls Try.prog 20 #[.pointer (some ⟨b, 0, none⟩)] w fun e w' => e = .returned (.tuple #[]) ∧ Hid (Sa w0 w' b g M' vd l) := by
  refine (Flush_any h.mem hf hN).mono ?_
  rintro e w' ⟨rfl, hM, hg⟩
  rw [h2] at hM
  exact ⟨rfl, h.turn hM hg⟩
theorem c_cut {M' : List Sec} (pb : Nat) (h : Sa w0 w b g M vd l) (hf : Fine M) (hN : M.length ≤ 1048576) (hpg : pb ≠ g) (hc : w.cell? ⟨pb, 0, none⟩ = some (.int .i64 3)) (h2 : doneM (pick [3]) M (idxs Sec.dirty M) = M') :
    Calls Try.prog 21 #[.pointer (some ⟨b, 0, none⟩), .slice (some ⟨pb, 0, none⟩) 1 1] w fun e w' => e = .returned (.tuple #[]) ∧ Hid (Sa w0 w' b g M' vd l) := by
  refine (Cut_any h.mem hf hN (.slice (some ⟨pb, 0, none⟩) 1 1) [3] pb 0 ⟨_, 1, rfl, Nat.le_refl _, by unfold maxLen; omega, fun _ => rfl⟩ hpg ?_).mono ?_
  · intro i x hx
    match i, hx with
    | 0, hx => simp at hx; subst hx; exact hc
    | i + 1, hx => simp at hx
  · rintro e w' ⟨rfl, hM, hg⟩
    rw [h2] at hM
    exact ⟨rfl, h.turn hM hg⟩
theorem ints_one {v : Value} {x : Nat} (h : IntsRow w v [x]) : ∃ gb c, v = .slice (some ⟨gb, 0, none⟩) 1 c ∧ gb < w.heap.size ∧ w.cell? ⟨gb, 0, none⟩ = some (.int .i64 x) := by
  obtain ⟨A, c, rfl, _, _, h1⟩ := h.parts
  obtain ⟨gb, rfl, hl, hc⟩ := h1 0 x rfl
  exact ⟨gb, c, rfl, hl, hc⟩
theorem c_dirty {x : Nat} {vd0 : Value} {l0 : List Nat} (h : Sa w0 w b g M vd0 l0) (hN : M.length ≤ 1048576) (h2 : idxs Sec.dirty M = [x]) :
    Calls Try.prog 23 #[.pointer (some ⟨b, 0, none⟩)] w fun e w' => ∃ gb c, e = .returned (.slice (some ⟨gb, 0, none⟩) 1 c) ∧ Hid (Sa w0 w' b g M (.slice (some ⟨gb, 0, none⟩) 1 c) [x]) := by
  refine (Dirty_any h.mem hN).mono ?_
  rintro e w' ⟨v, rfl, H⟩
  rw [h2] at H
  obtain ⟨gb, c, rfl, _⟩ := ints_one (news_ints H)
  have h' := h.on H.2.2
  exact ⟨gb, c, rfl, h'.mem, h'.bel, h'.ge, news_ints H⟩
/-- A clone beside it. -/
structure Sc (w0 w : World) (b g b2 g2 : Nat) (M M2 : List Sec) (vd : Value) (l : List Nat) : Prop where
  sa : Sa w0 w b g M vd l
  mem2 : PMem w b2 g2 M2
  ge2 : w0.heap.size ≤ g2
  ne : b ≠ g2 ∧ g ≠ g2
theorem c_clone (h : Sa w0 w b g M vd l) (hN : M.length ≤ 1048576) :
    Calls Try.prog 28 #[.pointer (some ⟨b, 0, none⟩)] w fun e w' => ∃ b2 g2, e = .returned (.pointer (some ⟨b2, 0, none⟩)) ∧ Hid (Sc w0 w' b g b2 g2 M M vd l) := by
  refine (Clone_any h.mem hN).mono ?_
  rintro e w' ⟨b2, g2, rfl, h1, h2, hM, hB⟩
  have hl := h.mem.lt
  exact ⟨b2, g2, rfl, h.on hB, hM, Nat.le_trans h.bel.size h2, by omega, by omega⟩
variable {b2 g2 : Nat} {M2 : List Sec}
theorem Sc.on (h : Sc w0 w b g b2 g2 M M2 vd l) (hB : Below w.heap.size w w') : Sc w0 w' b g b2 g2 M M2 vd l := ⟨h.sa.on hB, h.mem2.below hB h.mem2.lt.1 h.mem2.lt.2, h.ge2, h.ne⟩
theorem c_worn {x : Nat} (h : Sc w0 w b g b2 g2 M M2 vd l) (hN : M.length ≤ 1048576) (h2 : idxs Sec.worn M = [x]) :
    Calls Try.prog 25 #[.pointer (some ⟨b, 0, none⟩)] w fun e w' => ∃ gb c, e = .returned (.slice (some ⟨gb, 0, none⟩) 1 c) ∧ w'.cell? ⟨gb, 0, none⟩ = some (.int .i64 x) ∧ Hid (Sc w0 w' b g b2 g2 M M2 vd l) := by
  refine (Worn_any h.sa.mem hN).mono ?_
  rintro e w' ⟨v, rfl, H⟩
  rw [h2] at H
  obtain ⟨gb, c, rfl, _, hc⟩ := ints_one (news_ints H)
  exact ⟨gb, c, rfl, hc, h.on H.2.2⟩
theorem c_image {x y : ByteArray} (h : Sc w0 w b g b2 g2 M M2 vd l) (hN : M.length ≤ 1048576) (h2 : M.map Sec.now = [x, y]) :
    Calls Try.prog 22 #[.pointer (some ⟨b, 0, none⟩)] w fun e w' => ∃ gb c, e = .returned (.slice (some ⟨gb, 0, none⟩) 2 c) ∧ w'.cell? ⟨gb, 0, none⟩ = some (.string x) ∧ Hid (Sc w0 w' b g b2 g2 M M2 vd l) := by
  refine (Image_any h.sa.mem hN).mono ?_
  rintro e w' ⟨v, rfl, H⟩
  rw [h2] at H
  obtain ⟨A, c, rfl, _, _, h1⟩ := Texts.parts (news_texts H)
  obtain ⟨gb, cs, rfl, _, hc⟩ := h1 0 x rfl
  exact ⟨gb, c, rfl, hc, h.on H.2.2⟩
theorem row_cell {gb c x : Nat} (h : IntsRow w (.slice (some ⟨gb, 0, none⟩) 1 c) [x]) : w.cell? ⟨gb, 0, none⟩ = some (.int .i64 x) := by
  obtain ⟨gb', c', e, _, h1⟩ := ints_one h
  simp only [Value.slice.injEq, Option.some.injEq, Addr.mk.injEq, and_true, true_and] at e
  rw [e.1]; exact h1
theorem c_len {n : Nat} (h : Sc w0 w b g b2 g2 M M2 vd l) (h1 : M.length = n) :
    Calls Try.prog 33 #[.pointer (some ⟨b, 0, none⟩)] w fun e w' => e = .returned (.int .i64 n) ∧ w = w' := by
  subst h1
  exact len_any h.sa.mem
theorem c_load {M' : List Sec} {x : ByteArray} (gb : Nat) (h : Sc w0 w b g b2 g2 M M2 vd l) (hb : Blk w gb 9 #[.string x, .string x]) (h1 : loadErr [x, x] M2 = false) (h2 : loadM [x, x] M2 = M') :
    Calls Try.prog 32 #[.pointer (some ⟨b2, 0, none⟩), .slice (some ⟨gb, 0, none⟩) 2 2] w fun e w' => e = .returned (.int .i64 0) ∧ Hid (Sc w0 w' b g b2 g2 M M' vd l) := by
  have ht : Texts w (.slice (some ⟨gb, 0, none⟩) 2 2) [x, x] := ⟨rfl, .inr ⟨gb, 2, _, rfl, Nat.zero_le _, hb, Nat.le_refl _, by unfold maxLen; omega, rfl, rfl⟩⟩
  refine (Load_any h.mem2 _ _ ht (by simp)).mono ?_
  rintro e w' ⟨rfl, hM, hg⟩
  rw [h1] at hM ⊢
  rw [if_neg (by decide), h2] at hM
  refine ⟨rfl, ?_, hM, h.ge2, h.ne⟩
  obtain ⟨base, hr⟩ := h.sa.row
  obtain ⟨cap, cur, _, hgb, _⟩ := h.mem2.body
  exact ⟨h.sa.mem.grown hg (fun e => h.ne.1 (by cases e; rfl)) (fun e => h.ne.2 (by cases e; rfl)), h.sa.bel.grown hg h.sa.bel.size (fun k e => by cases e; exact h.ge2), h.sa.ge, base, hr.kept hg (.inr (own_blk_ne hr hgb (by decide)))⟩
theorem c_read2 (i : Int) (t : ByteArray) (er : Int) (h : Sc w0 w b g b2 g2 M M2 vd l) (h1 : readT M2 i = t) (h2 : readE M2 i = er) :
    Calls Try.prog 18 #[.pointer (some ⟨b2, 0, none⟩), .int .i64 i] w fun e w' => e = .returned (.tuple #[.string t, .int .i64 er]) ∧ w = w' := by
  rw [← h1, ← h2]
  exact Read_any h.mem2 i
theorem c_new (w : World) : Calls Try.prog 9 #[.int .i64 2] w fun e w' => ∃ b g, e = .returned (.tuple #[.pointer (some ⟨b, 0, none⟩), .int .i64 0]) ∧ Hid (Sa w w' b g sM0 (.slice none 0 0) []) := by
  refine (New_ok w 2 (by omega) (by omega)).mono ?_
  rintro e w' ⟨b, g, rfl, h1, h2, hM, hB⟩
  exact ⟨b, g, rfl, hM, hB, h2, 0, World.ownsRow_nil _ _ _ _⟩
end

theorem fine1 : Fine sM1 := by
  intro s hs
  simp only [sM1, List.mem_cons, List.not_mem_nil, or_false] at hs
  rcases hs with rfl | rfl
  · exact ⟨zeros_size, zeros_size, fun _ => tA_size⟩
  · exact ⟨zeros_size, zeros_size, fun e => by cases e⟩
theorem fine3 : Fine sM3 := by
  intro s hs
  simp only [sM3, List.mem_cons, List.not_mem_nil, or_false] at hs
  rcases hs with rfl | rfl
  · exact ⟨tT_size, zeros_size, fun _ => tB_size⟩
  · exact ⟨zeros_size, zeros_size, fun e => by cases e⟩
theorem p1 : upd (fun s => s.write tA) sM0 0 = sM1 := by kernel_rfl
theorem p2 : doneM (pick [3]) sM1 (idxs Sec.dirty sM1) = sM2 := by kernel_rfl
theorem p3 : upd (fun s => s.write tB) sM2 0 = sM3 := by kernel_rfl
theorem p4 : doneM (fun _ => 64) sM3 (idxs Sec.dirty sM3) = sM4 := by kernel_rfl
theorem p5 : upd Sec.stale sM4 0 = sM5 := by kernel_rfl
theorem p6 : upd Sec.wear sM5 1 = sM6 := by kernel_rfl
theorem p7 : upd (fun s => s.write tA) sM6 1 = sM6 := by kernel_rfl
theorem p8 : loadM [tB, tB] sM6 = sML := by kernel_rfl
theorem r1 : readT sM1 0 = tA := by kernel_rfl
theorem r2 : readT sM2 0 = tT := by kernel_rfl
theorem r4 : readT sM4 0 = tB := by kernel_rfl
theorem r5 : readT sM5 0 = tT := by kernel_rfl
theorem r6 : readT sM6 1 = zeros := by kernel_rfl
theorem r6' : readT sM6 2 = ⟨#[]⟩ := by kernel_rfl
theorem r8 : readT sML 0 = tB := by kernel_rfl
theorem e1 : readE sM1 0 = 0 := by kernel_rfl
theorem e2 : readE sM2 0 = 0 := by kernel_rfl
theorem e4 : readE sM4 0 = 0 := by kernel_rfl
theorem e5 : readE sM5 0 = 0 := by kernel_rfl
theorem e6 : readE sM6 1 = 0 := by kernel_rfl
theorem e6' : readE sM6 2 = 1 := by kernel_rfl
theorem e8 : readE sML 0 = 0 := by kernel_rfl
theorem d1 : idxs Sec.dirty sM1 = [0] := by kernel_rfl
theorem d6 : idxs Sec.worn sM6 = [1] := by kernel_rfl
theorem im6 : sM6.map Sec.now = [tT, zeros] := by kernel_rfl
theorem le8 : loadErr [tB, tB] sM6 = false := by kernel_rfl
theorem wantT : (⟨#[65, 65, 65]⟩ : ByteArray) ++ zeros.extract 3 64 = tT := by kernel_rfl
end Go.Proofs.Ytgieiehpnjhkoaa
