/-
  Layer 23 (device): New.
-/
import Derived.Test.YtgdpgiegiacepaaDoorG7
import Derived.Deep.OwnRows
namespace Go.Proofs.YtgdpgiegiacepaaDoor
open Go.RowKit Go.Shelf
attribute [local go_sem] Oper.semAt_some

set_option maxRecDepth 100000 in
set_option maxHeartbeats 1600000 in
theorem dNew_bad (w : World) (x y z : Int) (h : ¬ (1 ≤ x ∧ x ≤ 4096 ∧ 1 ≤ y ∧ y ≤ 16 ∧ 1 ≤ z ∧ z ≤ 16)) :
    Calls Tryd.prog 21 #[.int .i64 x, .int .i64 y, .int .i64 z] w fun e w' => e = .returned (.tuple #[.pointer none, .int .i64 1]) ∧ Below w.heap.size w w' := by
  by_cases hx : x < 1 ∨ 4096 < x
  · have HM := Lib.hid (New_bad w x hx)
    clear h hx
    go_enter Tryd.func21, Tryd.ntmps21
    go_wp2_with (go_at_call 41; refine HM.out.mono ?_; rintro e w1 ⟨rfl, rfl⟩)
    go_ret2
    exact ⟨rfl, Below.refl _ _⟩
  · obtain ⟨n, rfl⟩ := Int.eq_ofNat_of_zero_le (show 0 ≤ x by omega)
    have HM := Lib.hid (New_ok w n (by omega) (by omega))
    by_cases h1 : min y z < 1
    · have d1 : decide (min y z < 1) = true := decide_eq_true h1
      clear h hx h1
      go_enter Tryd.func21, Tryd.ntmps21
      go_wp2_with (go_at_call 41; refine HM.out.mono ?_; rintro e w1 ⟨b, g, rfl, l1, l2, hM, hB⟩)
      go_ret2
      exact ⟨rfl, hB⟩
    · have d1 : decide (min y z < 1) = false := decide_eq_false h1
      have d2 : decide (16 < max y z) = true := decide_eq_true (by omega)
      clear h hx h1
      go_enter Tryd.func21, Tryd.ntmps21
      go_wp2_with (go_at_call 41; refine HM.out.mono ?_; rintro e w1 ⟨b, g, rfl, l1, l2, hM, hB⟩)
      go_ret2
      exact ⟨rfl, hB⟩
theorem made_list (z : Value) (n : Nat) : (madeCells #[z] n).toList = List.replicate n z := by
  unfold madeCells
  rw [Array.toList_map, Array.toList_range, List.eq_replicate_iff]
  refine ⟨by simp, fun b hb => ?_⟩
  obtain ⟨i, _, rfl⟩ := List.mem_map.1 hb
  simp [Nat.mod_one]
theorem made_row {w : World} {g n : Nat} {e : TypeId} (z : Value) (h : Blk w g e (madeCells #[z] n)) (hn : n ≤ 16) : w.ownsRow 0 e 1 (.slice (some ⟨g, 0, none⟩) n n) n (List.replicate n z) := by
  refine ⟨by simp, .inr ⟨g, n, _, rfl, Nat.zero_le _, h, Nat.le_refl _, by unfold maxLen; omega, ?_, ?_⟩⟩
  · rw [size_madeCells, Nat.mul_one]
  · rw [made_list, Nat.mul_one, List.take_of_length_le (by simp)]
/-- The device before its slots are emptied. -/
def rawDev (n s f : Nat) : Dev := ⟨List.replicate s ⟨#[]⟩, List.replicate f false, 0, 0, List.replicate n Sec.blank, false, -1⟩
theorem raw_fresh (n s f : Nat) : { rawDev n s f with slots := List.replicate (rawDev n s f).slots.length zero32 } = freshDev n s f := by
  unfold rawDev freshDev
  simp
theorem raw_dev {w : World} {a : DAt} {n s f : Nat} (hs : s ≤ 16) (hf : f ≤ 16) (hM : PMem w a.b a.g (List.replicate n Sec.blank)) (e1 : a.sc = s) (e2 : a.fc = f)
    (hb : Blk w a.d 68 #[.slice (some ⟨a.sb, 0, none⟩) s s, .slice (some ⟨a.fb, 0, none⟩) f f, .int .i64 0, .int .i64 0, .pointer (some ⟨a.b, 0, none⟩), .bool false, .int .i64 (-1)])
    (h1 : Blk w a.sb 9 (madeCells #[.string ⟨#[]⟩] s)) (h2 : Blk w a.fb 4 (madeCells #[.bool false] f)) : DevIs w a (rawDev n s f) := by
  obtain ⟨d, b, g, sb, sc, fb, fc⟩ := a
  dsimp only at *
  subst e1
  subst e2
  have r1 := made_row _ h1 hs
  have r2 := made_row _ h2 hf
  refine ⟨?_, hM, ?_, ?_⟩
  · simpa [rawDev] using hb
  · simpa [rawDev, strCells] using r1
  · simpa [rawDev, boolCells] using r2
set_option maxRecDepth 100000 in
set_option maxHeartbeats 4000000 in
theorem dNew_ok (w : World) (n s f : Nat) (hn : 1 ≤ n ∧ n ≤ 4096) (hs : 1 ≤ s ∧ s ≤ 16) (hf : 1 ≤ f ∧ f ≤ 16) :
    Calls Tryd.prog 21 #[.int .i64 n, .int .i64 s, .int .i64 f] w fun e w' => ∃ a : DAt, e = .returned (.tuple #[.pointer (some ⟨a.d, 0, none⟩), .int .i64 0]) ∧ DevIs w' a (freshDev n s f) ∧ (w.heap.size ≤ a.d ∧ w.heap.size ≤ a.g ∧ w.heap.size ≤ a.sb ∧ w.heap.size ≤ a.fb) ∧ Below w.heap.size w w' := by
  have HM := Lib.hid (New_ok w n hn.1 hn.2)
  have d1 : decide (min (s : Int) f < 1) = false := decide_eq_false (by omega)
  have d2 : decide (16 < max (s : Int) f) = false := decide_eq_false (by omega)
  have k1 : ∀ wx, (Instr.makeSlice 38 (.int .i64 s) (.int .i64 s)).run Tryd.prog wx = .ok (.slice (some ⟨wx.heap.size, 0, none⟩) s s) (wx.alloc (.cells (madeCells #[.string ⟨#[]⟩] s) 9)) := fun wx => run_make_row' 38 9 _ 16 Tryd.underlying38 infoString rfl .i64 .i64 s (by omega) (by omega) wx
  have k2 : ∀ wx, (Instr.makeSlice 63 (.int .i64 f) (.int .i64 f)).run Tryd.prog wx = .ok (.slice (some ⟨wx.heap.size, 0, none⟩) f f) (wx.alloc (.cells (madeCells #[.bool false] f) 4)) := fun wx => run_make_row' 63 4 _ 1 Tryd.underlying63 infoBool rfl .i64 .i64 f (by omega) (by omega) wx
  have Hn := Lib.hid (And.intro hn (And.intro hs hf))
  clear hn hs hf
  go_enter Tryd.func21, Tryd.ntmps21
  go_wp2_with (go_at_call 41; refine HM.out.mono ?_; rintro e w1 ⟨b, g, rfl, l1, l2, hM, hB⟩)
  go_region
  · have hk0 := Blk.new w1 68 #[.slice (some ⟨w1.heap.size + 1, 0, none⟩) s s, .slice (some ⟨w1.heap.size + 1 + 1, 0, none⟩) f f, .int .i64 0, .int .i64 0, .pointer (some ⟨b, 0, none⟩), .bool false, .int .i64 (-1)]
    have hs0 : (w1.alloc (.cells #[.slice (some ⟨w1.heap.size + 1, 0, none⟩) s s, .slice (some ⟨w1.heap.size + 1 + 1, 0, none⟩) f f, .int .i64 0, .int .i64 0, .pointer (some ⟨b, 0, none⟩), .bool false, .int .i64 (-1)] 68)).heap.size = w1.heap.size + 1 := by simp
    have hB0 : Below w1.heap.size w1 (w1.alloc (.cells #[.slice (some ⟨w1.heap.size + 1, 0, none⟩) s s, .slice (some ⟨w1.heap.size + 1 + 1, 0, none⟩) f f, .int .i64 0, .int .i64 0, .pointer (some ⟨b, 0, none⟩), .bool false, .int .i64 (-1)] 68)) := (Below.refl _ _).alloc (Nat.le_refl _) _
    generalize w1.alloc (.cells #[.slice (some ⟨w1.heap.size + 1, 0, none⟩) s s, .slice (some ⟨w1.heap.size + 1 + 1, 0, none⟩) f f, .int .i64 0, .int .i64 0, .pointer (some ⟨b, 0, none⟩), .bool false, .int .i64 (-1)] 68) = w2 at hk0 hs0 hB0 ⊢
    have hk1 := Blk.new w2 9 (madeCells #[.string ⟨#[]⟩] s)
    have hs1 : (w2.alloc (.cells (madeCells #[.string ⟨#[]⟩] s) 9)).heap.size = w1.heap.size + 1 + 1 := by simp [hs0]
    have hB1 := hB0.alloc (by omega) (.cells (madeCells #[.string ⟨#[]⟩] s) 9)
    have hk0 := hk0.alloc (.cells (madeCells #[.string ⟨#[]⟩] s) 9)
    generalize w2.alloc (.cells (madeCells #[.string ⟨#[]⟩] s) 9) = w3 at hk0 hk1 hs1 hB1 ⊢
    have hk2 := Blk.new w3 4 (madeCells #[.bool false] f)
    have hB2 := (hB1.alloc (by omega) (.cells (madeCells #[.bool false] f) 4)).drew
    have hk0 := (hk0.alloc (.cells (madeCells #[.bool false] f) 4)).drew
    have hk1 := (hk1.alloc (.cells (madeCells #[.bool false] f) 4)).drew
    have hk2 := hk2.drew
    generalize (w3.alloc (.cells (madeCells #[.bool false] f) 4)).drew = w4 at hk0 hk1 hk2 hB2 ⊢
    rw [hs0] at hk1
    rw [hs1] at hk2
    have hsz := hB.size
    have hD : DevIs w4 ⟨w1.heap.size, b, g, w1.heap.size + 1, s, w1.heap.size + 1 + 1, f⟩ (rawDev n s f) := raw_dev Hn.out.2.1.2 Hn.out.2.2.2 (hM.below hB2 hM.lt.1 hM.lt.2) rfl rfl hk0 hk1 hk2
    have HBB := Lib.hid (hB.trans (hB2.mono hsz))
    have HBt := Lib.hid (dBattery_any hD (by unfold rawDev; dsimp only; rw [List.length_replicate]; have := Hn.out.2.1.2; omega))
    have Hsz := Lib.hid hsz
    clear hk0 hk1 hk2 hs0 hs1 hB0 hB1 hB2 hM hB k1 k2
    go_wp2_with (first | (go_at_call 42; refine HBt.out.mono ?_; rintro e w5 ⟨rfl, hE, hF⟩))
    go_ret2
    rw [raw_fresh] at hE
    have := Hsz.out
    exact ⟨⟨w1.heap.size, b, g, w1.heap.size + 1, s, w1.heap.size + 1 + 1, f⟩, rfl, hE, ⟨this, l2, by dsimp only; omega, by dsimp only; omega⟩, DFr.below hF HBB.out HBB.out.size this l2 (by omega) (by omega)⟩
  · have hk0 := Blk.new w1 68 #[.slice (some ⟨w1.heap.size + 1 + 1, 0, none⟩) s s, .slice (some ⟨w1.heap.size + 1, 0, none⟩) f f, .int .i64 0, .int .i64 0, .pointer (some ⟨b, 0, none⟩), .bool false, .int .i64 (-1)]
    have hs0 : (w1.alloc (.cells #[.slice (some ⟨w1.heap.size + 1 + 1, 0, none⟩) s s, .slice (some ⟨w1.heap.size + 1, 0, none⟩) f f, .int .i64 0, .int .i64 0, .pointer (some ⟨b, 0, none⟩), .bool false, .int .i64 (-1)] 68)).heap.size = w1.heap.size + 1 := by simp
    have hB0 : Below w1.heap.size w1 (w1.alloc (.cells #[.slice (some ⟨w1.heap.size + 1 + 1, 0, none⟩) s s, .slice (some ⟨w1.heap.size + 1, 0, none⟩) f f, .int .i64 0, .int .i64 0, .pointer (some ⟨b, 0, none⟩), .bool false, .int .i64 (-1)] 68)) := (Below.refl _ _).alloc (Nat.le_refl _) _
    generalize w1.alloc (.cells #[.slice (some ⟨w1.heap.size + 1 + 1, 0, none⟩) s s, .slice (some ⟨w1.heap.size + 1, 0, none⟩) f f, .int .i64 0, .int .i64 0, .pointer (some ⟨b, 0, none⟩), .bool false, .int .i64 (-1)] 68) = w2 at hk0 hs0 hB0 ⊢
    have hk1 := Blk.new w2 4 (madeCells #[.bool false] f)
    have hs1 : (w2.alloc (.cells (madeCells #[.bool false] f) 4)).heap.size = w1.heap.size + 1 + 1 := by simp [hs0]
    have hB1 := hB0.alloc (by omega) (.cells (madeCells #[.bool false] f) 4)
    have hk0 := hk0.alloc (.cells (madeCells #[.bool false] f) 4)
    generalize w2.alloc (.cells (madeCells #[.bool false] f) 4) = w3 at hk0 hk1 hs1 hB1 ⊢
    have hk2 := Blk.new w3 9 (madeCells #[.string ⟨#[]⟩] s)
    have hB2 := (hB1.alloc (by omega) (.cells (madeCells #[.string ⟨#[]⟩] s) 9)).drew
    have hk0 := (hk0.alloc (.cells (madeCells #[.string ⟨#[]⟩] s) 9)).drew
    have hk1 := (hk1.alloc (.cells (madeCells #[.string ⟨#[]⟩] s) 9)).drew
    have hk2 := hk2.drew
    generalize (w3.alloc (.cells (madeCells #[.string ⟨#[]⟩] s) 9)).drew = w4 at hk0 hk1 hk2 hB2 ⊢
    rw [hs0] at hk1
    rw [hs1] at hk2
    have hsz := hB.size
    have hD : DevIs w4 ⟨w1.heap.size, b, g, w1.heap.size + 1 + 1, s, w1.heap.size + 1, f⟩ (rawDev n s f) := raw_dev Hn.out.2.1.2 Hn.out.2.2.2 (hM.below hB2 hM.lt.1 hM.lt.2) rfl rfl hk0 hk2 hk1
    have HBB := Lib.hid (hB.trans (hB2.mono hsz))
    have HBt := Lib.hid (dBattery_any hD (by unfold rawDev; dsimp only; rw [List.length_replicate]; have := Hn.out.2.1.2; omega))
    have Hsz := Lib.hid hsz
    clear hk0 hk1 hk2 hs0 hs1 hB0 hB1 hB2 hM hB k1 k2
    go_wp2_with (first | (go_at_call 42; refine HBt.out.mono ?_; rintro e w5 ⟨rfl, hE, hF⟩))
    go_ret2
    rw [raw_fresh] at hE
    have := Hsz.out
    exact ⟨⟨w1.heap.size, b, g, w1.heap.size + 1 + 1, s, w1.heap.size + 1, f⟩, rfl, hE, ⟨this, l2, by dsimp only; omega, by dsimp only; omega⟩, DFr.below hF HBB.out HBB.out.size this l2 (by omega) (by omega)⟩
end Go.Proofs.YtgdpgiegiacepaaDoor
