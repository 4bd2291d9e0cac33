/-
  Layer 23 (device): the specification's New.
-/
import Derived.Test.YtcifkahmeimniaaGreatRdW4
import Derived.Test.YtcifkahmeimniaaGreatDevX3
namespace Go.Proofs.YtcifkahmeimniaaGreat
open Go.RowKit Go.Shelf
attribute [local go_sem] Oper.semAt_some

set_option maxRecDepth 100000 in
set_option maxHeartbeats 1600000 in
theorem rdNew_bad (w : World) (x y z : Int) (h : ¬ (1 ≤ x ∧ x ≤ 4096 ∧ 1 ≤ y ∧ y ≤ 16 ∧ 1 ≤ z ∧ z ≤ 16)) :
    Calls Tryz.prog 7 #[.int .i64 x, .int .i64 y, .int .i64 z] w fun e w' => e = .returned (.tuple #[.pointer none, .int .i64 1]) ∧ w = w' := by
  by_cases a1 : x < 1
  · have d1 : decide (x < 1) = true := decide_eq_true a1
    clear h a1
    go_enter Tryz.func7, Tryz.ntmps7
    go_wp2_with fail
    go_ret2
    exact ⟨rfl, rfl⟩
  have d1 : decide (x < 1) = false := decide_eq_false a1
  by_cases a2 : 4096 < x
  · have d2 : decide (4096 < x) = true := decide_eq_true a2
    clear h a1 a2
    go_enter Tryz.func7, Tryz.ntmps7
    go_wp2_with fail
    go_ret2
    exact ⟨rfl, rfl⟩
  have d2 : decide (4096 < x) = false := decide_eq_false a2
  by_cases a3 : y < 1
  · have d3 : decide (y < 1) = true := decide_eq_true a3
    clear h a1 a2 a3
    go_enter Tryz.func7, Tryz.ntmps7
    go_wp2_with fail
    go_ret2
    exact ⟨rfl, rfl⟩
  have d3 : decide (y < 1) = false := decide_eq_false a3
  by_cases a4 : 16 < y
  · have d4 : decide (16 < y) = true := decide_eq_true a4
    clear h a1 a2 a3 a4
    go_enter Tryz.func7, Tryz.ntmps7
    go_wp2_with fail
    go_ret2
    exact ⟨rfl, rfl⟩
  have d4 : decide (16 < y) = false := decide_eq_false a4
  by_cases a5 : z < 1
  · have d5 : decide (z < 1) = true := decide_eq_true a5
    clear h a1 a2 a3 a4 a5
    go_enter Tryz.func7, Tryz.ntmps7
    go_wp2_with fail
    go_ret2
    exact ⟨rfl, rfl⟩
  have d5 : decide (z < 1) = false := decide_eq_false a5
  have d6 : decide (16 < z) = true := decide_eq_true (by omega)
  clear h a1 a2 a3 a4 a5
  go_enter Tryz.func7, Tryz.ntmps7
  go_wp2_with fail
  go_ret2
  exact ⟨rfl, rfl⟩

/-- The specification's device while its slots are made. -/
structure RNew (w wr : World) (d b g fb n f k : Nat) (A : Option Addr) (c : Nat) : Prop where
  blk : Blk wr d 69 #[.pointer (some ⟨b, 0, none⟩), .slice A k c, .slice (some ⟨fb, 0, none⟩) f f, .int .i64 0, .int .i64 0, .bool true, .bool false, .int .i64 0]
  mem : RMem wr b g (List.replicate n Sec.blank)
  fr : Blk wr fb 4 (madeCells #[.bool false] f)
  row : wr.ownsRow (d + 1) 9 1 (.slice A k c) k (strCells (List.replicate k zero32))
  bel : Below w.heap.size w wr
  hd : w.heap.size ≤ d
  hg : w.heap.size ≤ g
  hf : w.heap.size ≤ fb
  lt : d < wr.heap.size
theorem RNew.on {w wr w' : World} {d b g fb n f k : Nat} {A : Option Addr} {c : Nat} (h : RNew w wr d b g fb n f k A c) (hB : Below wr.heap.size wr w') : RNew w w' d b g fb n f k A c :=
  ⟨h.blk.below hB h.blk.lt, h.mem.below hB h.mem.lt.1 h.mem.lt.2, h.fr.below hB h.fr.lt, ownsRow_below h.row hB (Nat.le_refl _), h.bel.trans (hB.mono h.bel.size), h.hd, h.hg, h.hf, Nat.lt_of_lt_of_le h.lt hB.size⟩
/-- Behind the append and the store. -/
theorem RNew.next {w wr w3 : World} {d b g fb n f k : Nat} {A : Option Addr} {c g' c' : Nat} (h : RNew w wr d b g fb n f k A c)
    (hown : w3.ownsRow (d + 1) 9 1 (.slice (some ⟨g', 0, none⟩) (k + 1) c') (k + 1) (strCells (List.replicate k zero32) ++ [.string zero32])) (hg : wr.grownBy w3 (Value.slice A k c).ownBlock) :
    RNew w (w3.setCell ⟨d, 1, none⟩ (.slice (some ⟨g', 0, none⟩) (k + 1) c')) d b g fb n f (k + 1) (some ⟨g', 0, none⟩) c' := by
  have hne : ∀ j, j ≤ d → some j ≠ (Value.slice A k c).ownBlock := fun j hj e => by
    have := (h.row.lt j e.symm).1
    omega
  have hty : ∀ j t cs, Blk wr j t cs → t ≠ 9 → some j ≠ (Value.slice A k c).ownBlock := fun j t cs hj ht e => own_blk_ne h.row hj (fun e => ht e.symm) e.symm
  obtain ⟨cap, cur, m1, m2, _⟩ := h.mem.body
  have b3 := h.blk.grown hg (hty _ _ _ h.blk (by decide))
  have hg2 := grown_set w3 d 1 (.slice (some ⟨g', 0, none⟩) (k + 1) c')
  have mm := h.mem.grown hg (hty _ _ _ m1 (by decide)) (hty _ _ _ m2 (by decide))
  obtain ⟨cap3, cur3, m31, m32, _⟩ := mm.body
  have ff := h.fr.grown hg (hty _ _ _ h.fr (by decide))
  have bb : Below w.heap.size w w3 := h.bel.grown hg h.bel.size (fun j e => by have := (h.row.lt j e).1; have := h.hd; omega)
  refine ⟨b3.set_ 1 _, mm.grown hg2 (fun e => m31.ne_ b3 (by decide) (Option.some.inj e)) (fun e => m32.ne_ b3 (by decide) (Option.some.inj e)), ff.grown hg2 (fun e => ff.ne_ b3 (by decide) (Option.some.inj e)), ?_, bb.setCell (p := ⟨d, 1, none⟩) h.hd _, h.hd, h.hg, h.hf, by have h1 := hg.size; have := h.lt; have h2 := hg2.size; omega⟩
  have e : strCells (List.replicate (k + 1) zero32) = strCells (List.replicate k zero32) ++ [.string zero32] := by rw [List.replicate_succ', strCells_snoc]
  rw [e]
  exact hown.kept hg2 (.inr (own_blk_ne hown b3 (by decide)))

set_option maxRecDepth 100000 in
set_option maxHeartbeats 4000000 in
theorem rdNew_ok (w : World) (n s f : Nat) (hn : 1 ≤ n ∧ n ≤ 4096) (hs : 1 ≤ s ∧ s ≤ 16) (hf : 1 ≤ f ∧ f ≤ 16) :
    Calls Tryz.prog 7 #[.int .i64 n, .int .i64 s, .int .i64 f] w fun e w' => ∃ a : DAt, e = .returned (.tuple #[.pointer (some ⟨a.d, 0, none⟩), .int .i64 0]) ∧ RDevIs w' a (freshDev n s f) ∧ (w.heap.size ≤ a.d ∧ w.heap.size ≤ a.g ∧ w.heap.size ≤ a.sb ∧ w.heap.size ≤ a.fb) ∧ Below w.heap.size w w' := by
  obtain ⟨i0, hi, hz0, hz1, hz2⟩ := info_parts infoString
  have HM := Lib.hid (rNew_ok w n hn.1 hn.2)
  have d1 : decide ((n : Int) < 1) = false := decide_eq_false (by omega)
  have d2 : decide (4096 < (n : Int)) = false := decide_eq_false (by omega)
  have d3 : decide ((s : Int) < 1) = false := decide_eq_false (by omega)
  have d4 : decide (16 < (s : Int)) = false := decide_eq_false (by omega)
  have d5 : decide ((f : Int) < 1) = false := decide_eq_false (by omega)
  have d6 : decide (16 < (f : Int)) = false := decide_eq_false (by omega)
  have k2 : ∀ wx, (Instr.makeSlice 60 (.int .i64 f) (.int .i64 f)).run Tryz.prog wx = .ok (.slice (some ⟨wx.heap.size, 0, none⟩) f f) (wx.alloc (.cells (madeCells #[.bool false] f) 4)) := fun wx => run_make_row' 60 4 _ 1 Tryz.underlying60 infoBool rfl .i64 .i64 f (by omega) (by omega) wx
  have Hn := Lib.hid (And.intro hn (And.intro hs hf))
  clear hn hs hf
  go_enter Tryz.func7, Tryz.ntmps7
  go_wp2_with (go_at_call 29; refine HM.out.mono ?_; rintro e w1 ⟨b, g, rfl, l1, l2, hM, hB⟩)
  have hsz := hB.size
  have hs1 : (w1.alloc (.cells (madeCells #[.bool false] f) 4)).heap.size = w1.heap.size + 1 := by simp
  have hk1 := Blk.new w1 4 (madeCells #[.bool false] f)
  have hB1 : Below w1.heap.size w1 (w1.alloc (.cells (madeCells #[.bool false] f) 4)) := (Below.refl _ _).alloc (Nat.le_refl _) _
  generalize w1.alloc (.cells (madeCells #[.bool false] f) 4) = w2 at hs1 hk1 hB1 ⊢
  have hk2 := Blk.new w2 69 #[.pointer (some ⟨b, 0, none⟩), .slice none 0 0, .slice (some ⟨w1.heap.size, 0, none⟩) f f, .int .i64 0, .int .i64 0, .bool true, .bool false, .int .i64 0]
  have hB2 := hB1.alloc (by omega) (.cells #[.pointer (some ⟨b, 0, none⟩), .slice none 0 0, .slice (some ⟨w1.heap.size, 0, none⟩) f f, .int .i64 0, .int .i64 0, .bool true, .bool false, .int .i64 0] 69)
  have hk1' := hk1.alloc (.cells #[.pointer (some ⟨b, 0, none⟩), .slice none 0 0, .slice (some ⟨w1.heap.size, 0, none⟩) f f, .int .i64 0, .int .i64 0, .bool true, .bool false, .int .i64 0] 69)
  rw [hs1] at hk2
  generalize w2.alloc (.cells #[.pointer (some ⟨b, 0, none⟩), .slice none 0 0, .slice (some ⟨w1.heap.size, 0, none⟩) f f, .int .i64 0, .int .i64 0, .bool true, .bool false, .int .i64 0] 69) = w3 at hk1' hk2 hB2 ⊢
  have H0 : Hid (RNew w w3 (w1.heap.size + 1) b g w1.heap.size n f 0 none 0) := ⟨hk2, hM.below hB2 hM.lt.1 hM.lt.2, hk1', World.ownsRow_nil _ _ _ _, hB.trans (hB2.mono hsz), by omega, l2, hsz, hk2.lt⟩
  obtain ⟨d, hd⟩ : ∃ d, w1.heap.size + 1 = d := ⟨_, rfl⟩
  rw [hd] at H0
  have Hd := Lib.hid hd
  (try rw [hd])
  generalize w1.heap.size = fb at H0 Hd ⊢
  clear hs1 hk1 hk1' hB1 hk2 hB2 hM hB l1 l2 hsz hd k2
  go_wp2_with fail
  go_loopw [11] (fun i wr => ∃ (k : Nat) (A : Option Addr) (c : Nat), k ≤ s ∧ i = .int .i64 k ∧ Hid (RNew w wr d b g fb n f k A c)) (fun i _ => s - (intOf i).toNat)
  case atStart => exact ⟨0, none, 0, Nat.zero_le _, rfl, H0⟩
  case round =>
    obtain ⟨k, A, c, hk, rfl, hR⟩ := hrel
    clear H0
    by_cases hks : k < s
    · have hd0 : decide (k < s) = true := decide_eq_true hks
      have y1 : wr.cell? ⟨d, 1, none⟩ = some (.slice A k c) := hR.out.blk.cell 1
      have Hks := Lib.hid (And.intro hks Hn.out.2.1.2)
      have hle : Hid (k + 1 ≤ maxLen) := by have := Hks.out; unfold Hid maxLen; omega
      have hb16 : (k + 1) * 16 ≤ 140737488355328 := by have := Hks.out; omega
      have hk16 : (k : Int) < 16 := by have := Hks.out; omega
      clear hks
      go_wp2_with fail
      go_region_law (first | (go_simp; go_at_call 30; refine (rdzero_any _).mono ?_; rintro e w9 ⟨rfl, hB9⟩; have h9 := hR.out.on ((Below.refl _ wr).drew.trans hB9); have y9 : w9.cell? ⟨d, 1, none⟩ = some (.slice A k c) := h9.blk.cell 1; have Hra := Lib.hid (h9.row.alloc (.cells #[.string zero32] 9)); have Hnw := Lib.hid (news_cells (Blk.new w9 9 #[.string zero32])); have Hba := Lib.hid (h9.blk.alloc (.cells #[.string zero32] 9)); have hya : (w9.alloc (.cells #[.string zero32] 9)).cell? ⟨d, 1, none⟩ = some (.slice A k c) := Hba.out.cell 1; have hba : d + 1 ≤ (w9.alloc (.cells #[.string zero32] 9)).heap.size := (by have := h9.lt; simp; omega); have hno : some d ≠ (Value.slice A k c).ownBlock := (fun e => own_blk_ne h9.row h9.blk (by decide) e.symm); have H9 := Lib.hid (h9.on ((Below.refl _ w9).alloc (Nat.le_refl _) (.cells #[.string zero32] 9))); clear h9 hB9) | (refine step_append_lies _ (by rfl) _ _ _ (by rfl) (d + 1) 9 i0 _ 1 16 Tryz.underlying36 hi hz0 hz1 hz2 rfl (by omega) (.slice A k c) k (strCells (List.replicate k zero32)) (by rfl) Hra.out ⟨w9.heap.size, 0, none⟩ 1 1 [.string zero32] (by rfl) (by rfl) Hnw.out (by simp [Value.oneCell']) (by decide) hle.out hb16 hba (w9.heap.size + 1) (by simp) ?_; intro g2 cap2 w10 hown1 hgrow hat hlt3; have hc3 := hgrow.cell hya hno; have hf3 := frozen_kept (i := 1) Hba.out hgrow hno))
      all_goals
        have hN := Lib.hid (H9.out.next hown1 hgrow)
        clear hown1 hgrow hat hlt3 hc3 hf3 Hra Hnw Hba hya hba hno H9 hR y1 y9 hle hb16
        generalize w10.setCell ⟨d, 1, none⟩ (.slice (some ⟨g2, 0, none⟩) (k + 1) cap2) = w11 at hN ⊢
        go_wp2_with fail
        go_roundw
        case rel => exact ⟨k + 1, _, _, Hks.out.1, by go_num, hN⟩
        case measure => have := Hks.out.1; simp [intOf]; omega
    · obtain rfl : s = k := by omega
      have hd0 : decide (s < s) = false := decide_eq_false (by omega)
      clear hks hk
      go_wp2_with fail
      go_ret2
      obtain ⟨hb, hm, hfr, hrow, hbel, h1, h2, h3, h4⟩ := hR.out
      have hs0 : 1 ≤ s := Hn.out.2.1.1
      obtain ⟨sb, rfl⟩ : ∃ sb, A = some ⟨sb, 0, none⟩ := by
        rcases hrow.2 with ⟨_, h0⟩ | ⟨gb, cap, _, e, _⟩
        · omega
        · cases e; exact ⟨gb, rfl⟩
      have e1 := (hrow.lt sb rfl).1
      have r2 := made_row _ hfr Hn.out.2.2.2
      refine ⟨⟨d, b, g, sb, c, fb, f⟩, rfl, ⟨0, ?_, hm, ?_, ?_, fun e => absurd e (by show ¬ (0 : Int) ≤ -1; decide)⟩, ⟨h1, h2, by dsimp only; omega, h3⟩, hbel⟩
      · simpa [freshDev] using hb
      · simpa [freshDev] using ownsRow_zero hrow
      · simpa [freshDev, boolCells] using r2
end Go.Proofs.YtcifkahmeimniaaGreat
