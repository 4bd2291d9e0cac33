/-
  Layer 23 (device): the specification's device in memory; its methods that only look; its step.
  Layer 23 (device): the specification's device: what makes a step. (Written by a small program.)
  Layer 23 (device): the specification's device: what makes no step.
-/
import Derived.Test.YtcifkahmeimniaaGreatG5
namespace Go.Proofs.YtcifkahmeimniaaGreat
open Go.RowKit Go.Shelf
attribute [local go_sem] Oper.semAt_some

/-- The specification's device: block d; its memory behind b and g; its slots and fuses; L: its number of steps. -/
structure IsRDev (w : World) (a : DAt) (L : Int) (D : Dev) : Prop where
  blk : Blk w a.d 69 #[.pointer (some ⟨a.b, 0, none⟩), .slice (some ⟨a.sb, 0, none⟩) D.slots.length a.sc, .slice (some ⟨a.fb, 0, none⟩) D.fuses.length a.fc, .int .i64 D.counter, .int .i64 D.clock, .bool (!D.down), .bool (decide (0 ≤ D.left)), .int .i64 L]
  mem : RMem w a.b a.g D.M
  srow : w.ownsRow 0 9 1 (.slice (some ⟨a.sb, 0, none⟩) D.slots.length a.sc) D.slots.length (strCells D.slots)
  frow : w.ownsRow 0 4 1 (.slice (some ⟨a.fb, 0, none⟩) D.fuses.length a.fc) D.fuses.length (boolCells D.fuses)
  lf : 0 ≤ D.left → L = D.left
def RDevIs (w : World) (a : DAt) (D : Dev) : Prop := ∃ L, IsRDev w a L D

section
variable {w w' : World} {a : DAt} {L : Int} {D : Dev}
theorem IsRDev.cells (h : IsRDev w a L D) : w.cell? ⟨a.d, 0, none⟩ = some (.pointer (some ⟨a.b, 0, none⟩)) ∧ w.cell? ⟨a.d, 1, none⟩ = some (.slice (some ⟨a.sb, 0, none⟩) D.slots.length a.sc) ∧ w.cell? ⟨a.d, 2, none⟩ = some (.slice (some ⟨a.fb, 0, none⟩) D.fuses.length a.fc) ∧ w.cell? ⟨a.d, 3, none⟩ = some (.int .i64 D.counter) ∧ w.cell? ⟨a.d, 4, none⟩ = some (.int .i64 D.clock) ∧
    w.cell? ⟨a.d, 5, none⟩ = some (.bool (!D.down)) ∧ w.cell? ⟨a.d, 6, none⟩ = some (.bool (decide (0 ≤ D.left))) ∧ w.cell? ⟨a.d, 7, none⟩ = some (.int .i64 L) :=
  ⟨h.blk.cell 0, h.blk.cell 1, h.blk.cell 2, h.blk.cell 3, h.blk.cell 4, h.blk.cell 5, h.blk.cell 6, h.blk.cell 7⟩
theorem IsRDev.below (h : IsRDev w a L D) (hB : Below w.heap.size w w') : IsRDev w' a L D :=
  ⟨h.blk.below hB h.blk.lt, h.mem.below hB h.mem.lt.1 h.mem.lt.2, ownsRow_below h.srow hB (Nat.le_refl _), ownsRow_below h.frow hB (Nat.le_refl _), h.lf⟩
theorem RDevIs.below (h : RDevIs w a D) (hB : Below w.heap.size w w') : RDevIs w' a D := by obtain ⟨L, h⟩ := h; exact ⟨L, h.below hB⟩
/-- The memory has turned. -/
theorem IsRDev.turn {M2 : List Sec} (h : IsRDev w a L D) (hM : RMem w' a.b a.g M2) (hg : w.grownBy w' (some a.g)) : IsRDev w' a L { D with M := M2 } := by
  obtain ⟨cap, cur, _, hgb, _⟩ := h.mem.body
  exact ⟨h.blk.grown hg (fun e => h.blk.ne_ hgb (by decide) (Option.some.inj e)), hM, h.srow.kept hg (.inr (own_blk_ne h.srow hgb (by decide))), h.frow.kept hg (.inr (own_blk_ne h.frow hgb (by decide))), h.lf⟩
/-- Some numbers have turned. -/
theorem IsRDev.scal {D' : Dev} {L' : Int} (h : IsRDev w a L D) (hg : w.grownBy w' (some a.d)) (e1 : D'.slots = D.slots) (e2 : D'.fuses = D.fuses) (e3 : D'.M = D.M) (hl : 0 ≤ D'.left → L' = D'.left)
    (hb : Blk w' a.d 69 #[.pointer (some ⟨a.b, 0, none⟩), .slice (some ⟨a.sb, 0, none⟩) D.slots.length a.sc, .slice (some ⟨a.fb, 0, none⟩) D.fuses.length a.fc, .int .i64 D'.counter, .int .i64 D'.clock, .bool (!D'.down), .bool (decide (0 ≤ D'.left)), .int .i64 L']) : IsRDev w' a L' D' := by
  obtain ⟨cap, cur, hbb, hgb, _⟩ := h.mem.body
  have n1 := hbb.ne_ h.blk (by decide)
  have n2 := hgb.ne_ h.blk (by decide)
  refine ⟨by rw [e1, e2]; exact hb, by rw [e3]; exact h.mem.grown hg (fun e => n1 (Option.some.inj e)) (fun e => n2 (Option.some.inj e)), ?_, ?_, hl⟩
  · rw [e1]; exact h.srow.kept hg (.inr (own_blk_ne h.srow h.blk (by decide)))
  · rw [e2]; exact h.frow.kept hg (.inr (own_blk_ne h.frow h.blk (by decide)))

set_option maxRecDepth 100000 in
theorem rdUp_any (h : RDevIs w a D) : Calls Tryz.prog 56 #[.pointer (some ⟨a.d, 0, none⟩)] w fun e w' => e = .returned (.bool (!D.down)) ∧ w = w' := by
  obtain ⟨L, h⟩ := h
  obtain ⟨c0, c1, c2, c3, c4, c5, c6, c7⟩ := h.cells
  go_enter Tryz.func56, Tryz.ntmps56
  go_wp2_with fail
  go_ret
  exact ⟨rfl, rfl⟩
set_option maxRecDepth 100000 in
theorem rdCounter_any (h : RDevIs w a D) : Calls Tryz.prog 58 #[.pointer (some ⟨a.d, 0, none⟩)] w fun e w' => e = .returned (.int .i64 D.counter) ∧ w = w' := by
  obtain ⟨L, h⟩ := h
  obtain ⟨c0, c1, c2, c3, c4, c5, c6, c7⟩ := h.cells
  go_enter Tryz.func58, Tryz.ntmps58
  go_wp2_with fail
  go_ret
  exact ⟨rfl, rfl⟩
set_option maxRecDepth 100000 in
theorem rdNow_any (h : RDevIs w a D) : Calls Tryz.prog 59 #[.pointer (some ⟨a.d, 0, none⟩)] w fun e w' => e = .returned (.int .i64 D.clock) ∧ w = w' := by
  obtain ⟨L, h⟩ := h
  obtain ⟨c0, c1, c2, c3, c4, c5, c6, c7⟩ := h.cells
  go_enter Tryz.func59, Tryz.ntmps59
  go_wp2_with fail
  go_ret
  exact ⟨rfl, rfl⟩
set_option maxRecDepth 100000 in
theorem rdSectors_any (h : RDevIs w a D) : Calls Tryz.prog 57 #[.pointer (some ⟨a.d, 0, none⟩)] w fun e w' => e = .returned (.int .i64 D.M.length) ∧ w = w' := by
  obtain ⟨L, h⟩ := h
  obtain ⟨c0, c1, c2, c3, c4, c5, c6, c7⟩ := h.cells
  obtain ⟨cap, hc, _, _⟩ := h.mem.head
  go_enter Tryz.func57, Tryz.ntmps57
  go_wp2_with fail
  go_ret
  exact ⟨rfl, rfl⟩
/-- The device behind a step. -/
def Dev.stepped (D : Dev) : Dev := if D.left = 0 then { D with down := true, left := -1 } else { D with left := max (D.left - 1) (-1) }
set_option maxRecDepth 100000 in
set_option maxHeartbeats 1600000 in
theorem rdstep_any (h : RDevIs w a D) (hd : D.down = false) (hr : -1 ≤ D.left ∧ D.left ≤ 9223372036854775807) :
    Calls Tryz.prog 82 #[.pointer (some ⟨a.d, 0, none⟩)] w fun e w' => e = .returned (.bool (decide (D.left ≠ 0))) ∧ RDevIs w' a D.stepped ∧ DLeft w w' a := by
  obtain ⟨L, h⟩ := h
  have hf := h.blk.frozen
  obtain ⟨c0, c1, c2, c3, c4, c5, c6, c7⟩ := h.cells
  have H := Lib.hid h
  unfold Dev.stepped
  by_cases h0 : 0 ≤ D.left
  · have hL := h.lf h0
    subst hL
    rw [decide_eq_true h0] at c6
    by_cases hz : D.left = 0
    · rw [if_pos hz, decide_eq_false (by omega : ¬ D.left ≠ 0)]
      have d1 : decide (0 < D.left) = false := decide_eq_false (by omega)
      have Hz := Lib.hid hz
      clear h hd hr h0 hz
      go_enter Tryz.func82, Tryz.ntmps82
      go_wp2_with fail
      go_ret
      have hg := grown_trans (grown_set w a.d 5 (.bool false)) (grown_set (w.setCell ⟨a.d, 5, none⟩ (.bool false)) a.d 6 (.bool false))
      exact ⟨rfl, ⟨_, H.out.scal (D' := { D with down := true, left := -1 }) hg rfl rfl rfl (fun e => by dsimp only at e; omega) ((H.out.blk.set_ 5 (.bool false)).set_ 6 (.bool false))⟩, DFr.ofGrown hg (.inl rfl)⟩
    · rw [if_neg hz, decide_eq_true (show D.left ≠ 0 from hz)]
      have d1 : decide (0 < D.left) = true := decide_eq_true (by omega)
      have hw64 : wrap64 (D.left - 1) = D.left - 1 := by unfold wrap64; omega
      have hm : Hid (max (D.left - 1) (-1) = D.left - 1) := by unfold Hid; omega
      have hp : Hid (decide (0 ≤ max (D.left - 1) (-1)) = true) := decide_eq_true (by omega)
      have hq : Hid (decide (0 ≤ D.left) = true) := decide_eq_true h0
      clear h hd hr h0 hz
      go_enter Tryz.func82, Tryz.ntmps82
      go_wp2_with fail
      go_ret
      have hg := grown_set w a.d 7 (.int .i64 (D.left - 1))
      refine ⟨rfl, ⟨_, H.out.scal (D' := { D with left := max (D.left - 1) (-1) }) hg rfl rfl rfl (fun _ => hm.out.symm) ?_⟩, DFr.ofGrown hg (.inl rfl)⟩
      have h2 := H.out.blk.set_ 7 (.int .i64 (D.left - 1))
      rw [hq.out] at h2
      dsimp only
      rw [hp.out]
      exact h2
  · rw [decide_eq_false h0] at c6
    rw [if_neg (by omega), decide_eq_true (show D.left ≠ 0 by omega)]
    have hm : Hid (max (D.left - 1) (-1) = D.left) := by unfold Hid; omega
    clear h hd hr h0
    go_enter Tryz.func82, Tryz.ntmps82
    go_wp2_with fail
    go_ret
    refine ⟨rfl, ⟨L, ?_⟩, DLeft.refl _⟩
    rw [hm.out]
    exact H.out
end
end Go.Proofs.YtcifkahmeimniaaGreat
namespace Go.Proofs.YtcifkahmeimniaaGreat
open Go.RowKit Go.Shelf
attribute [local go_sem] Oper.semAt_some

section
variable {w w' : World} {a : DAt} {L : Int} {D : Dev}
theorem IsRDev.slotSet (h : IsRDev w a L D) (i : Nat) (t : ByteArray) : IsRDev (w.setCell ⟨a.sb, i, none⟩ (.string t)) a L { D with slots := D.slots.set i t } ∧ w.grownBy (w.setCell ⟨a.sb, i, none⟩ (.string t)) (some a.sb) := by
  have hg := grown_set w a.sb i (.string t)
  obtain ⟨cap, cur, hbb, hgb, _⟩ := h.mem.body
  obtain ⟨cs, hs⟩ := ownsRow_blk h.srow
  obtain ⟨cf, hf⟩ := ownsRow_blk h.frow
  refine ⟨⟨?_, h.mem.grown hg (fun e => hbb.ne_ hs (by decide) (Option.some.inj e)) (fun e => hgb.ne_ hs (by decide) (Option.some.inj e)), ?_, h.frow.kept hg (.inr (fun e => hf.ne_ hs (by decide) (Option.some.inj e))), h.lf⟩, hg⟩
  · dsimp only
    rw [List.length_set]
    exact h.blk.grown hg (fun e => h.blk.ne_ hs (by decide) (Option.some.inj e))
  · dsimp only
    rw [List.length_set, strCells_set]
    exact (h.srow.stored i (.string t)).1
theorem IsRDev.fuseSet (h : IsRDev w a L D) (i : Nat) (x : Bool) : IsRDev (w.setCell ⟨a.fb, i, none⟩ (.bool x)) a L { D with fuses := D.fuses.set i x } ∧ w.grownBy (w.setCell ⟨a.fb, i, none⟩ (.bool x)) (some a.fb) := by
  have hg := grown_set w a.fb i (.bool x)
  obtain ⟨cap, cur, hbb, hgb, _⟩ := h.mem.body
  obtain ⟨cs, hs⟩ := ownsRow_blk h.srow
  obtain ⟨cf, hf⟩ := ownsRow_blk h.frow
  refine ⟨⟨?_, h.mem.grown hg (fun e => hbb.ne_ hf (by decide) (Option.some.inj e)) (fun e => hgb.ne_ hf (by decide) (Option.some.inj e)), h.srow.kept hg (.inr (fun e => hs.ne_ hf (by decide) (Option.some.inj e))), ?_, h.lf⟩, hg⟩
  · dsimp only
    rw [List.length_set]
    exact h.blk.grown hg (fun e => h.blk.ne_ hf (by decide) (Option.some.inj e))
  · dsimp only
    rw [List.length_set, boolCells_set]
    exact (h.frow.stored i (.bool x)).1
/-- A method that makes a step, put together. -/
theorem rd_comb {fn : Nat} {args : Array Value} (h : RDevIs w a D) (c : Int) (F : Dev → Dev)
    (Hd : D.down = true → Calls Tryz.prog fn args w fun e w' => e = .returned (.int .i64 14) ∧ w = w')
    (Hc : D.down = false → c ≠ 0 → Calls Tryz.prog fn args w fun e w' => e = .returned (.int .i64 c) ∧ w = w')
    (Hf : D.down = false → c = 0 → D.left = 0 → Calls Tryz.prog fn args w fun e w' => e = .returned (.int .i64 14) ∧ RDevIs w' a D.stepped ∧ DLeft w w' a)
    (Ho : D.down = false → c = 0 → D.left ≠ 0 → Calls Tryz.prog fn args w fun e w' => e = .returned (.int .i64 0) ∧ RDevIs w' a (F D.stepped) ∧ DLeft w w' a) :
    Calls Tryz.prog fn args w fun e w' => e = .returned (.int .i64 (D.dstep c F).1) ∧ RDevIs w' a (D.dstep c F).2 ∧ DLeft w w' a := by
  unfold Dev.dstep
  by_cases hd : D.down = true
  · rw [if_pos hd]
    refine (Hd hd).mono ?_
    rintro e w' ⟨rfl, rfl⟩
    exact ⟨rfl, h, DLeft.refl _⟩
  · have hd' : D.down = false := by simpa using hd
    rw [if_neg hd]
    by_cases hc : c ≠ 0
    · rw [if_pos hc]
      refine (Hc hd' hc).mono ?_
      rintro e w' ⟨rfl, rfl⟩
      exact ⟨rfl, h, DLeft.refl _⟩
    · rw [if_neg hc]
      by_cases hl : D.left = 0
      · have h1 := Hf hd' (by omega) hl
        unfold Dev.stepped at h1
        rw [if_pos hl] at h1 ⊢
        exact h1
      · have h1 := Ho hd' (by omega) hl
        unfold Dev.stepped at h1
        rw [if_neg hl] at h1 ⊢
        exact h1
theorem stepped_same (D : Dev) : D.stepped.M = D.M ∧ D.stepped.slots = D.slots ∧ D.stepped.fuses = D.fuses ∧ D.stepped.counter = D.counter := by
  unfold Dev.stepped
  split <;> exact ⟨rfl, rfl, rfl, rfl⟩
set_option maxRecDepth 100000 in
set_option maxHeartbeats 1600000 in
theorem rdWrite_down (h : RDevIs w a D) (i : Int) (t : ByteArray) (hd : D.down = true) :
    Calls Tryz.prog 42 #[.pointer (some ⟨a.d, 0, none⟩), .int .i64 i, .string t] w fun e w' => e = .returned (.int .i64 14) ∧ w = w' := by
  obtain ⟨L, h⟩ := h
  obtain ⟨c0, c1, c2, c3, c4, c5, c6, c7⟩ := h.cells
  rw [hd] at c5
  clear h hd
  go_enter Tryz.func42, Tryz.ntmps42
  go_wp2_with fail
  go_ret
  exact ⟨rfl, rfl⟩
set_option maxRecDepth 100000 in
set_option maxHeartbeats 1600000 in
theorem rdWrite_neg (h : RDevIs w a D) (i : Int) (t : ByteArray) (hd : D.down = false) (hi : i < 0) :
    Calls Tryz.prog 42 #[.pointer (some ⟨a.d, 0, none⟩), .int .i64 i, .string t] w fun e w' => e = .returned (.int .i64 1) ∧ w = w' := by
  obtain ⟨L, h⟩ := h
  obtain ⟨c0, c1, c2, c3, c4, c5, c6, c7⟩ := h.cells
  rw [hd] at c5
  obtain ⟨cap, cm, _, hmx⟩ := h.mem.head
  have d1 : decide (i < 0) = true := decide_eq_true hi
  clear h hd hi
  go_enter Tryz.func42, Tryz.ntmps42
  go_wp2_with fail
  go_ret
  exact ⟨rfl, rfl⟩
set_option maxRecDepth 100000 in
set_option maxHeartbeats 1600000 in
theorem rdWrite_beyond (h : RDevIs w a D) (i : Int) (t : ByteArray) (hd : D.down = false) (hi : 0 ≤ i ∧ (D.M.length : Int) ≤ i) :
    Calls Tryz.prog 42 #[.pointer (some ⟨a.d, 0, none⟩), .int .i64 i, .string t] w fun e w' => e = .returned (.int .i64 1) ∧ w = w' := by
  obtain ⟨L, h⟩ := h
  obtain ⟨c0, c1, c2, c3, c4, c5, c6, c7⟩ := h.cells
  rw [hd] at c5
  obtain ⟨cap, cm, _, hmx⟩ := h.mem.head
  have d1 : decide (i < 0) = false := decide_eq_false (by omega)
  have d2 : decide ((D.M.length : Int) ≤ i) = true := decide_eq_true hi.2
  clear h hd hi
  go_enter Tryz.func42, Tryz.ntmps42
  go_wp2_with fail
  go_ret
  exact ⟨rfl, rfl⟩
set_option maxRecDepth 100000 in
set_option maxHeartbeats 1600000 in
theorem rdWrite_size (h : RDevIs w a D) (i : Int) (t : ByteArray) (hd : D.down = false) (hi : isAt D.M i ∧ t.size ≠ 64) :
    Calls Tryz.prog 42 #[.pointer (some ⟨a.d, 0, none⟩), .int .i64 i, .string t] w fun e w' => e = .returned (.int .i64 1) ∧ w = w' := by
  obtain ⟨L, h⟩ := h
  obtain ⟨c0, c1, c2, c3, c4, c5, c6, c7⟩ := h.cells
  rw [hd] at c5
  obtain ⟨cap, cm, _, hmx⟩ := h.mem.head
  have d1 : decide (i < 0) = false := decide_eq_false (by have := hi.1.1; omega)
  have d2 : decide ((D.M.length : Int) ≤ i) = false := decide_eq_false (by have := hi.1.2; omega)
  have d3 : ((t.size : Int) != 64) = true := bne_t (by have := hi.2; omega)
  clear h hd hi
  go_enter Tryz.func42, Tryz.ntmps42
  go_wp2_with fail
  go_ret
  exact ⟨rfl, rfl⟩
set_option maxRecDepth 100000 in
set_option maxHeartbeats 1600000 in
theorem rdWrite_fail (h : RDevIs w a D) (i : Int) (t : ByteArray) (hr : -1 ≤ D.left ∧ D.left ≤ 9223372036854775807) (hd : D.down = false) (hi : isAt D.M i ∧ t.size = 64) (hl : D.left = 0) :
    Calls Tryz.prog 42 #[.pointer (some ⟨a.d, 0, none⟩), .int .i64 i, .string t] w fun e w' => e = .returned (.int .i64 14) ∧ RDevIs w' a D.stepped ∧ DLeft w w' a := by
  have HS := Lib.hid (rdstep_any h hd hr)
  have h0 : decide (D.left ≠ 0) = false := decide_eq_false (by omega)
  rw [h0] at HS
  obtain ⟨L, h⟩ := h
  obtain ⟨c0, c1, c2, c3, c4, c5, c6, c7⟩ := h.cells
  rw [hd] at c5
  obtain ⟨cap, cm, _, hmx⟩ := h.mem.head
  have d1 : decide (i < 0) = false := decide_eq_false (by have := hi.1.1; omega)
  have d2 : decide ((D.M.length : Int) ≤ i) = false := decide_eq_false (by have := hi.1.2; omega)
  have d3 : ((t.size : Int) != 64) = false := bne_f (by have := hi.2; omega)
  clear h hd hr hl h0 hi
  go_enter Tryz.func42, Tryz.ntmps42
  go_wp2_with (first | (go_at_call 82; refine HS.out.mono ?_; rintro e w1 ⟨rfl, h1, hF⟩))
  go_ret
  exact ⟨rfl, h1, hF⟩
set_option maxRecDepth 100000 in
set_option maxHeartbeats 1600000 in
theorem rdWrite_ok (h : RDevIs w a D) (i : Int) (t : ByteArray) (hr : -1 ≤ D.left ∧ D.left ≤ 9223372036854775807) (hd : D.down = false) (hi : isAt D.M i ∧ t.size = 64) (hl : D.left ≠ 0) :
    Calls Tryz.prog 42 #[.pointer (some ⟨a.d, 0, none⟩), .int .i64 i, .string t] w fun e w' => e = .returned (.int .i64 0) ∧ RDevIs w' a ((fun D : Dev => { D with M := upd (fun s => s.write t) D.M i }) D.stepped) ∧ DLeft w w' a := by
  have HS := Lib.hid (rdstep_any h hd hr)
  have h0 : decide (D.left ≠ 0) = true := decide_eq_true hl
  rw [h0] at HS
  obtain ⟨e1, e2, e3, e4⟩ := stepped_same D
  obtain ⟨L, h⟩ := h
  obtain ⟨c0, c1, c2, c3, c4, c5, c6, c7⟩ := h.cells
  rw [hd] at c5
  obtain ⟨cap, cm, _, hmx⟩ := h.mem.head
  have d1 : decide (i < 0) = false := decide_eq_false (by have := hi.1.1; omega)
  have d2 : decide ((D.M.length : Int) ≤ i) = false := decide_eq_false (by have := hi.1.2; omega)
  have d3 : ((t.size : Int) != 64) = false := bne_f (by have := hi.2; omega)
  have Hi := Lib.hid hi
  generalize D.stepped = S at HS e1 e2 e3 e4 ⊢
  have E1 := Lib.hid e1
  have E2 := Lib.hid e2
  have E3 := Lib.hid e3
  have E4 := Lib.hid e4
  clear h hd hr hl h0 e1 e2 e3 e4 hi
  go_enter Tryz.func42, Tryz.ntmps42
  go_wp2_with (first | (go_at_call 82; refine HS.out.mono ?_; rintro e w1 ⟨rfl, ⟨L1, h1⟩, hF⟩; have y0 := h1.blk.cell 0; have H1 := Lib.hid h1; have HF := Lib.hid hF; clear h1 hF))
  have HW := rwrite_any H1.out.mem i t
  have hi2 : isAt S.M i ∧ t.size = 64 := by rw [E1.out]; exact Hi.out
  rw [if_pos hi2] at HW
  unfold errOf at HW
  rw [if_pos hi2] at HW
  have HWW := Lib.hid HW
  clear HW hi2
  go_wp2_with (first | (go_at_call 83; refine HWW.out.mono ?_; rintro e w2 ⟨rfl, hM, hg⟩))
  go_ret
  exact ⟨rfl, ⟨_, H1.out.turn hM hg⟩, DLeft.trans HF.out (DFr.ofGrown hg (.inr (.inl rfl)))⟩
theorem rdWrite_any (h : RDevIs w a D) (hr : -1 ≤ D.left ∧ D.left ≤ 9223372036854775807) (i : Int) (t : ByteArray) :
    Calls Tryz.prog 42 #[.pointer (some ⟨a.d, 0, none⟩), .int .i64 i, .string t] w fun e w' => e = .returned (.int .i64 (D.dstep (chk (isAt D.M i ∧ t.size = 64)) (fun D => { D with M := upd (fun s => s.write t) D.M i })).1) ∧ RDevIs w' a (D.dstep (chk (isAt D.M i ∧ t.size = 64)) (fun D => { D with M := upd (fun s => s.write t) D.M i })).2 ∧ DLeft w w' a := by
  refine rd_comb h _ _ (fun hd => rdWrite_down h i t hd) (fun hd hc => ?_) (fun hd hc hl => rdWrite_fail h i t hr hd (chk_zero hc) hl) (fun hd hc hl => rdWrite_ok h i t hr hd (chk_zero hc) hl)
  have hn : ¬ (isAt D.M i ∧ t.size = 64) := fun e => hc (by unfold chk; rw [if_pos e])
  have hcc : chk (isAt D.M i ∧ t.size = 64) = 1 := by unfold chk; rw [if_neg hn]
  rw [hcc]
  by_cases h1 : isAt D.M i
  · exact rdWrite_size h i t hd ⟨h1, fun e => hn ⟨h1, e⟩⟩
  · by_cases h2 : i < 0
    · exact rdWrite_neg h i t hd h2
    · exact rdWrite_beyond h i t hd ⟨by omega, by rcases not_isAt h1 with h3 | h3 <;> omega⟩
set_option maxRecDepth 100000 in
set_option maxHeartbeats 1600000 in
theorem rdStore_down (h : RDevIs w a D) (i : Int) (t : ByteArray) (hd : D.down = true) :
    Calls Tryz.prog 45 #[.pointer (some ⟨a.d, 0, none⟩), .int .i64 i, .string t] w fun e w' => e = .returned (.int .i64 14) ∧ w = w' := by
  obtain ⟨L, h⟩ := h
  obtain ⟨c0, c1, c2, c3, c4, c5, c6, c7⟩ := h.cells
  rw [hd] at c5
  clear h hd
  go_enter Tryz.func45, Tryz.ntmps45
  go_wp2_with fail
  go_ret
  exact ⟨rfl, rfl⟩
set_option maxRecDepth 100000 in
set_option maxHeartbeats 1600000 in
theorem rdStore_neg (h : RDevIs w a D) (i : Int) (t : ByteArray) (hd : D.down = false) (hi : i < 0) :
    Calls Tryz.prog 45 #[.pointer (some ⟨a.d, 0, none⟩), .int .i64 i, .string t] w fun e w' => e = .returned (.int .i64 1) ∧ w = w' := by
  obtain ⟨L, h⟩ := h
  obtain ⟨c0, c1, c2, c3, c4, c5, c6, c7⟩ := h.cells
  rw [hd] at c5
  have d1 : decide (i < 0) = true := decide_eq_true hi
  clear h hd hi
  go_enter Tryz.func45, Tryz.ntmps45
  go_wp2_with fail
  go_ret
  exact ⟨rfl, rfl⟩
set_option maxRecDepth 100000 in
set_option maxHeartbeats 1600000 in
theorem rdStore_beyond (h : RDevIs w a D) (i : Int) (t : ByteArray) (hd : D.down = false) (hi : 0 ≤ i ∧ (D.slots.length : Int) ≤ i) :
    Calls Tryz.prog 45 #[.pointer (some ⟨a.d, 0, none⟩), .int .i64 i, .string t] w fun e w' => e = .returned (.int .i64 1) ∧ w = w' := by
  obtain ⟨L, h⟩ := h
  obtain ⟨c0, c1, c2, c3, c4, c5, c6, c7⟩ := h.cells
  rw [hd] at c5
  have d1 : decide (i < 0) = false := decide_eq_false (by omega)
  have d2 : decide ((D.slots.length : Int) ≤ i) = true := decide_eq_true hi.2
  clear h hd hi
  go_enter Tryz.func45, Tryz.ntmps45
  go_wp2_with fail
  go_ret
  exact ⟨rfl, rfl⟩
set_option maxRecDepth 100000 in
set_option maxHeartbeats 1600000 in
theorem rdStore_size (h : RDevIs w a D) (i : Int) (t : ByteArray) (hd : D.down = false) (hi : inS D.slots i ∧ t.size ≠ 32) :
    Calls Tryz.prog 45 #[.pointer (some ⟨a.d, 0, none⟩), .int .i64 i, .string t] w fun e w' => e = .returned (.int .i64 1) ∧ w = w' := by
  obtain ⟨L, h⟩ := h
  obtain ⟨c0, c1, c2, c3, c4, c5, c6, c7⟩ := h.cells
  rw [hd] at c5
  have d1 : decide (i < 0) = false := decide_eq_false (by have := hi.1.1; omega)
  have d2 : decide ((D.slots.length : Int) ≤ i) = false := decide_eq_false (by have := hi.1.2; omega)
  have d3 : ((t.size : Int) != 32) = true := bne_t (by have := hi.2; omega)
  clear h hd hi
  go_enter Tryz.func45, Tryz.ntmps45
  go_wp2_with fail
  go_ret
  exact ⟨rfl, rfl⟩
set_option maxRecDepth 100000 in
set_option maxHeartbeats 1600000 in
theorem rdStore_fail (h : RDevIs w a D) (i : Int) (t : ByteArray) (hr : -1 ≤ D.left ∧ D.left ≤ 9223372036854775807) (hd : D.down = false) (hi : inS D.slots i ∧ t.size = 32) (hl : D.left = 0) :
    Calls Tryz.prog 45 #[.pointer (some ⟨a.d, 0, none⟩), .int .i64 i, .string t] w fun e w' => e = .returned (.int .i64 14) ∧ RDevIs w' a D.stepped ∧ DLeft w w' a := by
  have HS := Lib.hid (rdstep_any h hd hr)
  have h0 : decide (D.left ≠ 0) = false := decide_eq_false (by omega)
  rw [h0] at HS
  obtain ⟨L, h⟩ := h
  obtain ⟨c0, c1, c2, c3, c4, c5, c6, c7⟩ := h.cells
  rw [hd] at c5
  have d1 : decide (i < 0) = false := decide_eq_false (by have := hi.1.1; omega)
  have d2 : decide ((D.slots.length : Int) ≤ i) = false := decide_eq_false (by have := hi.1.2; omega)
  have d3 : ((t.size : Int) != 32) = false := bne_f (by have := hi.2; omega)
  clear h hd hr hl h0 hi
  go_enter Tryz.func45, Tryz.ntmps45
  go_wp2_with (first | (go_at_call 82; refine HS.out.mono ?_; rintro e w1 ⟨rfl, h1, hF⟩))
  go_ret
  exact ⟨rfl, h1, hF⟩
set_option maxRecDepth 100000 in
set_option maxHeartbeats 1600000 in
theorem rdStore_ok (h : RDevIs w a D) (i : Int) (t : ByteArray) (hr : -1 ≤ D.left ∧ D.left ≤ 9223372036854775807) (hd : D.down = false) (hi : inS D.slots i ∧ t.size = 32) (hl : D.left ≠ 0) :
    Calls Tryz.prog 45 #[.pointer (some ⟨a.d, 0, none⟩), .int .i64 i, .string t] w fun e w' => e = .returned (.int .i64 0) ∧ RDevIs w' a ((fun D : Dev => { D with slots := D.slots.set i.toNat t }) D.stepped) ∧ DLeft w w' a := by
  have HS := Lib.hid (rdstep_any h hd hr)
  have h0 : decide (D.left ≠ 0) = true := decide_eq_true hl
  rw [h0] at HS
  obtain ⟨e1, e2, e3, e4⟩ := stepped_same D
  obtain ⟨L, h⟩ := h
  obtain ⟨c0, c1, c2, c3, c4, c5, c6, c7⟩ := h.cells
  rw [hd] at c5
  have d1 : decide (i < 0) = false := decide_eq_false (by have := hi.1.1; omega)
  have d2 : decide ((D.slots.length : Int) ≤ i) = false := decide_eq_false (by have := hi.1.2; omega)
  have d3 : ((t.size : Int) != 32) = false := bne_f (by have := hi.2; omega)
  obtain ⟨m, rfl⟩ := Int.eq_ofNat_of_zero_le hi.1.1
  have hm0 : (0 : Int) ≤ (m : Int) := by omega
  have hm1 : (m : Int) < D.slots.length := hi.1.2
  have zz : Hid (∀ w1 L1, IsRDev w1 a L1 D.stepped → ∃ o, w1.cell? ⟨a.sb, m, none⟩ = some o ∧ w1.frozen? ⟨a.sb, m, none⟩ = false) := fun w1 L1 h1 => by
    have hml : m < D.stepped.slots.length := by rw [e2]; omega
    have e := h1.srow.cellAt m (by omega)
    obtain ⟨o, ho⟩ : ∃ o, (strCells D.stepped.slots)[m]? = some o := ⟨_, List.getElem?_eq_getElem (by unfold strCells; simpa using hml)⟩
    exact ⟨o, e.trans ho, h1.srow.frozenAt m⟩
  generalize D.stepped = S at zz HS e1 e2 e3 e4 ⊢
  have E1 := Lib.hid e1
  have E2 := Lib.hid e2
  have E3 := Lib.hid e3
  have E4 := Lib.hid e4
  clear h hd hr hl h0 e1 e2 e3 e4 hi
  go_enter Tryz.func45, Tryz.ntmps45
  go_wp2_with (first | (go_at_call 82; refine HS.out.mono ?_; rintro e w1 ⟨rfl, ⟨L1, h1⟩, hF⟩; have y1 := h1.blk.cell 1; rw [E2.out] at y1; have H1 := Lib.hid h1; have HF := Lib.hid hF; have z1 := zz.out w1 L1 h1; obtain ⟨zo, zc, zf⟩ := z1; clear h1 hF))
  go_ret
  obtain ⟨s1, s2⟩ := H1.out.slotSet m t
  exact ⟨rfl, ⟨_, s1⟩, DLeft.trans HF.out (DFr.ofGrown s2 (.inr (.inr (.inl rfl))))⟩
theorem rdStore_any (h : RDevIs w a D) (hr : -1 ≤ D.left ∧ D.left ≤ 9223372036854775807) (i : Int) (t : ByteArray) :
    Calls Tryz.prog 45 #[.pointer (some ⟨a.d, 0, none⟩), .int .i64 i, .string t] w fun e w' => e = .returned (.int .i64 (D.dstep (chk (inS D.slots i ∧ t.size = 32)) (fun D => { D with slots := D.slots.set i.toNat t })).1) ∧ RDevIs w' a (D.dstep (chk (inS D.slots i ∧ t.size = 32)) (fun D => { D with slots := D.slots.set i.toNat t })).2 ∧ DLeft w w' a := by
  refine rd_comb h _ _ (fun hd => rdStore_down h i t hd) (fun hd hc => ?_) (fun hd hc hl => rdStore_fail h i t hr hd (chk_zero hc) hl) (fun hd hc hl => rdStore_ok h i t hr hd (chk_zero hc) hl)
  have hn : ¬ (inS D.slots i ∧ t.size = 32) := fun e => hc (by unfold chk; rw [if_pos e])
  have hcc : chk (inS D.slots i ∧ t.size = 32) = 1 := by unfold chk; rw [if_neg hn]
  rw [hcc]
  by_cases h1 : inS D.slots i
  · exact rdStore_size h i t hd ⟨h1, fun e => hn ⟨h1, e⟩⟩
  · by_cases h2 : i < 0
    · exact rdStore_neg h i t hd h2
    · exact rdStore_beyond h i t hd ⟨by omega, by rcases not_inS h1 with h3 | h3 <;> omega⟩
set_option maxRecDepth 100000 in
set_option maxHeartbeats 1600000 in
theorem rdBurn_down (h : RDevIs w a D) (i : Int) (hd : D.down = true) :
    Calls Tryz.prog 46 #[.pointer (some ⟨a.d, 0, none⟩), .int .i64 i] w fun e w' => e = .returned (.int .i64 14) ∧ w = w' := by
  obtain ⟨L, h⟩ := h
  obtain ⟨c0, c1, c2, c3, c4, c5, c6, c7⟩ := h.cells
  rw [hd] at c5
  clear h hd
  go_enter Tryz.func46, Tryz.ntmps46
  go_wp2_with fail
  go_ret
  exact ⟨rfl, rfl⟩
set_option maxRecDepth 100000 in
set_option maxHeartbeats 1600000 in
theorem rdBurn_neg (h : RDevIs w a D) (i : Int) (hd : D.down = false) (hi : i < 0) :
    Calls Tryz.prog 46 #[.pointer (some ⟨a.d, 0, none⟩), .int .i64 i] w fun e w' => e = .returned (.int .i64 1) ∧ w = w' := by
  obtain ⟨L, h⟩ := h
  obtain ⟨c0, c1, c2, c3, c4, c5, c6, c7⟩ := h.cells
  rw [hd] at c5
  have d1 : decide (i < 0) = true := decide_eq_true hi
  clear h hd hi
  go_enter Tryz.func46, Tryz.ntmps46
  go_wp2_with fail
  go_ret
  exact ⟨rfl, rfl⟩
set_option maxRecDepth 100000 in
set_option maxHeartbeats 1600000 in
theorem rdBurn_beyond (h : RDevIs w a D) (i : Int) (hd : D.down = false) (hi : 0 ≤ i ∧ (D.fuses.length : Int) ≤ i) :
    Calls Tryz.prog 46 #[.pointer (some ⟨a.d, 0, none⟩), .int .i64 i] w fun e w' => e = .returned (.int .i64 1) ∧ w = w' := by
  obtain ⟨L, h⟩ := h
  obtain ⟨c0, c1, c2, c3, c4, c5, c6, c7⟩ := h.cells
  rw [hd] at c5
  have d1 : decide (i < 0) = false := decide_eq_false (by omega)
  have d2 : decide ((D.fuses.length : Int) ≤ i) = true := decide_eq_true hi.2
  clear h hd hi
  go_enter Tryz.func46, Tryz.ntmps46
  go_wp2_with fail
  go_ret
  exact ⟨rfl, rfl⟩
set_option maxRecDepth 100000 in
set_option maxHeartbeats 1600000 in
theorem rdBurn_fail (h : RDevIs w a D) (i : Int) (hr : -1 ≤ D.left ∧ D.left ≤ 9223372036854775807) (hd : D.down = false) (hi : inS D.fuses i) (hl : D.left = 0) :
    Calls Tryz.prog 46 #[.pointer (some ⟨a.d, 0, none⟩), .int .i64 i] w fun e w' => e = .returned (.int .i64 14) ∧ RDevIs w' a D.stepped ∧ DLeft w w' a := by
  have HS := Lib.hid (rdstep_any h hd hr)
  have h0 : decide (D.left ≠ 0) = false := decide_eq_false (by omega)
  rw [h0] at HS
  obtain ⟨L, h⟩ := h
  obtain ⟨c0, c1, c2, c3, c4, c5, c6, c7⟩ := h.cells
  rw [hd] at c5
  have d1 : decide (i < 0) = false := decide_eq_false (by have := hi.1; omega)
  have d2 : decide ((D.fuses.length : Int) ≤ i) = false := decide_eq_false (by have := hi.2; omega)
  clear h hd hr hl h0 hi
  go_enter Tryz.func46, Tryz.ntmps46
  go_wp2_with (first | (go_at_call 82; refine HS.out.mono ?_; rintro e w1 ⟨rfl, h1, hF⟩))
  go_ret
  exact ⟨rfl, h1, hF⟩
set_option maxRecDepth 100000 in
set_option maxHeartbeats 1600000 in
theorem rdBurn_ok (h : RDevIs w a D) (i : Int) (hr : -1 ≤ D.left ∧ D.left ≤ 9223372036854775807) (hd : D.down = false) (hi : inS D.fuses i) (hl : D.left ≠ 0) :
    Calls Tryz.prog 46 #[.pointer (some ⟨a.d, 0, none⟩), .int .i64 i] w fun e w' => e = .returned (.int .i64 0) ∧ RDevIs w' a ((fun D : Dev => { D with fuses := D.fuses.set i.toNat true }) D.stepped) ∧ DLeft w w' a := by
  have HS := Lib.hid (rdstep_any h hd hr)
  have h0 : decide (D.left ≠ 0) = true := decide_eq_true hl
  rw [h0] at HS
  obtain ⟨e1, e2, e3, e4⟩ := stepped_same D
  obtain ⟨L, h⟩ := h
  obtain ⟨c0, c1, c2, c3, c4, c5, c6, c7⟩ := h.cells
  rw [hd] at c5
  have d1 : decide (i < 0) = false := decide_eq_false (by have := hi.1; omega)
  have d2 : decide ((D.fuses.length : Int) ≤ i) = false := decide_eq_false (by have := hi.2; omega)
  obtain ⟨m, rfl⟩ := Int.eq_ofNat_of_zero_le hi.1
  have hm0 : (0 : Int) ≤ (m : Int) := by omega
  have hm1 : (m : Int) < D.fuses.length := hi.2
  have zz : Hid (∀ w1 L1, IsRDev w1 a L1 D.stepped → ∃ o, w1.cell? ⟨a.fb, m, none⟩ = some o ∧ w1.frozen? ⟨a.fb, m, none⟩ = false) := fun w1 L1 h1 => by
    have hml : m < D.stepped.fuses.length := by rw [e3]; omega
    have e := h1.frow.cellAt m (by omega)
    obtain ⟨o, ho⟩ : ∃ o, (boolCells D.stepped.fuses)[m]? = some o := ⟨_, List.getElem?_eq_getElem (by unfold boolCells; simpa using hml)⟩
    exact ⟨o, e.trans ho, h1.frow.frozenAt m⟩
  generalize D.stepped = S at zz HS e1 e2 e3 e4 ⊢
  have E1 := Lib.hid e1
  have E2 := Lib.hid e2
  have E3 := Lib.hid e3
  have E4 := Lib.hid e4
  clear h hd hr hl h0 e1 e2 e3 e4 hi
  go_enter Tryz.func46, Tryz.ntmps46
  go_wp2_with (first | (go_at_call 82; refine HS.out.mono ?_; rintro e w1 ⟨rfl, ⟨L1, h1⟩, hF⟩; have y1 := h1.blk.cell 2; rw [E3.out] at y1; have H1 := Lib.hid h1; have HF := Lib.hid hF; have z1 := zz.out w1 L1 h1; obtain ⟨zo, zc, zf⟩ := z1; clear h1 hF))
  go_ret
  obtain ⟨s1, s2⟩ := H1.out.fuseSet m true
  exact ⟨rfl, ⟨_, s1⟩, DLeft.trans HF.out (DFr.ofGrown s2 (.inr (.inr (.inr rfl))))⟩
theorem rdBurn_any (h : RDevIs w a D) (hr : -1 ≤ D.left ∧ D.left ≤ 9223372036854775807) (i : Int) :
    Calls Tryz.prog 46 #[.pointer (some ⟨a.d, 0, none⟩), .int .i64 i] w fun e w' => e = .returned (.int .i64 (D.dstep (chk (inS D.fuses i)) (fun D => { D with fuses := D.fuses.set i.toNat true })).1) ∧ RDevIs w' a (D.dstep (chk (inS D.fuses i)) (fun D => { D with fuses := D.fuses.set i.toNat true })).2 ∧ DLeft w w' a := by
  refine rd_comb h _ _ (fun hd => rdBurn_down h i hd) (fun hd hc => ?_) (fun hd hc hl => rdBurn_fail h i hr hd (chk_zero hc) hl) (fun hd hc hl => rdBurn_ok h i hr hd (chk_zero hc) hl)
  have hn : ¬ inS D.fuses i := fun e => hc (by unfold chk; rw [if_pos e])
  have hcc : chk (inS D.fuses i) = 1 := by unfold chk; rw [if_neg hn]
  rw [hcc]
  by_cases h2 : i < 0
  · exact rdBurn_neg h i hd h2
  · exact rdBurn_beyond h i hd ⟨by omega, by rcases not_inS hn with h3 | h3 <;> omega⟩
set_option maxRecDepth 100000 in
set_option maxHeartbeats 1600000 in
theorem rdRaise_down (h : RDevIs w a D) (i : Int) (hd : D.down = true) :
    Calls Tryz.prog 47 #[.pointer (some ⟨a.d, 0, none⟩), .int .i64 i] w fun e w' => e = .returned (.int .i64 14) ∧ w = w' := by
  obtain ⟨L, h⟩ := h
  obtain ⟨c0, c1, c2, c3, c4, c5, c6, c7⟩ := h.cells
  rw [hd] at c5
  clear h hd
  go_enter Tryz.func47, Tryz.ntmps47
  go_wp2_with fail
  go_ret
  exact ⟨rfl, rfl⟩
set_option maxRecDepth 100000 in
set_option maxHeartbeats 1600000 in
theorem rdRaise_neg (h : RDevIs w a D) (i : Int) (hd : D.down = false) (hi : i < 0) :
    Calls Tryz.prog 47 #[.pointer (some ⟨a.d, 0, none⟩), .int .i64 i] w fun e w' => e = .returned (.int .i64 1) ∧ w = w' := by
  obtain ⟨L, h⟩ := h
  obtain ⟨c0, c1, c2, c3, c4, c5, c6, c7⟩ := h.cells
  rw [hd] at c5
  have d1 : decide (i < 0) = true := decide_eq_true hi
  clear h hd hi
  go_enter Tryz.func47, Tryz.ntmps47
  go_wp2_with fail
  go_ret
  exact ⟨rfl, rfl⟩
set_option maxRecDepth 100000 in
set_option maxHeartbeats 1600000 in
theorem rdRaise_big (h : RDevIs w a D) (i : Int) (hd : D.down = false) (hi : 0 ≤ i ∧ 4611686018427387904 < i) :
    Calls Tryz.prog 47 #[.pointer (some ⟨a.d, 0, none⟩), .int .i64 i] w fun e w' => e = .returned (.int .i64 1) ∧ w = w' := by
  obtain ⟨L, h⟩ := h
  obtain ⟨c0, c1, c2, c3, c4, c5, c6, c7⟩ := h.cells
  rw [hd] at c5
  have d1 : decide (i < 0) = false := decide_eq_false (by omega)
  have d2 : decide (4611686018427387904 < i) = true := decide_eq_true hi.2
  clear h hd hi
  go_enter Tryz.func47, Tryz.ntmps47
  go_wp2_with fail
  go_ret
  exact ⟨rfl, rfl⟩
set_option maxRecDepth 100000 in
set_option maxHeartbeats 1600000 in
theorem rdRaise_old (h : RDevIs w a D) (i : Int) (hd : D.down = false) (hi : 0 ≤ i ∧ i ≤ 4611686018427387904 ∧ i < D.counter) :
    Calls Tryz.prog 47 #[.pointer (some ⟨a.d, 0, none⟩), .int .i64 i] w fun e w' => e = .returned (.int .i64 20) ∧ w = w' := by
  obtain ⟨L, h⟩ := h
  obtain ⟨c0, c1, c2, c3, c4, c5, c6, c7⟩ := h.cells
  rw [hd] at c5
  have d1 : decide (i < 0) = false := decide_eq_false (by omega)
  have d2 : decide (4611686018427387904 < i) = false := decide_eq_false (by omega)
  have d3 : decide (i < D.counter) = true := decide_eq_true hi.2.2
  clear h hd hi
  go_enter Tryz.func47, Tryz.ntmps47
  go_wp2_with fail
  go_ret
  exact ⟨rfl, rfl⟩
set_option maxRecDepth 100000 in
set_option maxHeartbeats 1600000 in
theorem rdRaise_fail (h : RDevIs w a D) (i : Int) (hr : -1 ≤ D.left ∧ D.left ≤ 9223372036854775807) (hd : D.down = false) (hi : 0 ≤ i ∧ i ≤ 4611686018427387904 ∧ ¬ i < D.counter) (hl : D.left = 0) :
    Calls Tryz.prog 47 #[.pointer (some ⟨a.d, 0, none⟩), .int .i64 i] w fun e w' => e = .returned (.int .i64 14) ∧ RDevIs w' a D.stepped ∧ DLeft w w' a := by
  have HS := Lib.hid (rdstep_any h hd hr)
  have h0 : decide (D.left ≠ 0) = false := decide_eq_false (by omega)
  rw [h0] at HS
  obtain ⟨L, h⟩ := h
  obtain ⟨c0, c1, c2, c3, c4, c5, c6, c7⟩ := h.cells
  rw [hd] at c5
  have d1 : decide (i < 0) = false := decide_eq_false (by omega)
  have d2 : decide (4611686018427387904 < i) = false := decide_eq_false (by omega)
  have d3 : decide (i < D.counter) = false := decide_eq_false hi.2.2
  clear h hd hr hl h0 hi
  go_enter Tryz.func47, Tryz.ntmps47
  go_wp2_with (first | (go_at_call 82; refine HS.out.mono ?_; rintro e w1 ⟨rfl, h1, hF⟩))
  go_ret
  exact ⟨rfl, h1, hF⟩
set_option maxRecDepth 100000 in
set_option maxHeartbeats 1600000 in
theorem rdRaise_ok (h : RDevIs w a D) (i : Int) (hr : -1 ≤ D.left ∧ D.left ≤ 9223372036854775807) (hd : D.down = false) (hi : 0 ≤ i ∧ i ≤ 4611686018427387904 ∧ ¬ i < D.counter) (hl : D.left ≠ 0) :
    Calls Tryz.prog 47 #[.pointer (some ⟨a.d, 0, none⟩), .int .i64 i] w fun e w' => e = .returned (.int .i64 0) ∧ RDevIs w' a ((fun D : Dev => { D with counter := i }) D.stepped) ∧ DLeft w w' a := by
  have HS := Lib.hid (rdstep_any h hd hr)
  have h0 : decide (D.left ≠ 0) = true := decide_eq_true hl
  rw [h0] at HS
  obtain ⟨e1, e2, e3, e4⟩ := stepped_same D
  obtain ⟨L, h⟩ := h
  obtain ⟨c0, c1, c2, c3, c4, c5, c6, c7⟩ := h.cells
  rw [hd] at c5
  have d1 : decide (i < 0) = false := decide_eq_false (by omega)
  have d2 : decide (4611686018427387904 < i) = false := decide_eq_false (by omega)
  have d3 : decide (i < D.counter) = false := decide_eq_false hi.2.2
  generalize D.stepped = S at HS e1 e2 e3 e4 ⊢
  have E1 := Lib.hid e1
  have E2 := Lib.hid e2
  have E3 := Lib.hid e3
  have E4 := Lib.hid e4
  clear h hd hr hl h0 e1 e2 e3 e4 hi
  go_enter Tryz.func47, Tryz.ntmps47
  go_wp2_with (first | (go_at_call 82; refine HS.out.mono ?_; rintro e w1 ⟨rfl, ⟨L1, h1⟩, hF⟩; have y3 := h1.blk.cell 3; have f3 := h1.blk.frozen 3; have H1 := Lib.hid h1; have HF := Lib.hid hF; clear h1 hF))
  go_ret
  have hg := grown_set w1 a.d 3 (.int .i64 i)
  exact ⟨rfl, ⟨L1, H1.out.scal (D' := { S with counter := i }) hg rfl rfl rfl H1.out.lf (H1.out.blk.set_ 3 (.int .i64 i))⟩, DLeft.trans HF.out (DFr.ofGrown hg (.inl rfl))⟩
theorem raise_zero {i c : Int} (h : (if 0 ≤ i ∧ i ≤ 4611686018427387904 then (if i < c then 20 else 0) else 1) = (0 : Int)) : 0 ≤ i ∧ i ≤ 4611686018427387904 ∧ ¬ i < c := by
  split at h
  · rename_i h1
    split at h
    · cases h
    · rename_i h2
      exact ⟨h1.1, h1.2, h2⟩
  · cases h
theorem rdRaise_any (h : RDevIs w a D) (hr : -1 ≤ D.left ∧ D.left ≤ 9223372036854775807) (i : Int) :
    Calls Tryz.prog 47 #[.pointer (some ⟨a.d, 0, none⟩), .int .i64 i] w fun e w' => e = .returned (.int .i64 (D.dstep (if 0 ≤ i ∧ i ≤ 4611686018427387904 then (if i < D.counter then 20 else 0) else 1) (fun D => { D with counter := i })).1) ∧ RDevIs w' a (D.dstep (if 0 ≤ i ∧ i ≤ 4611686018427387904 then (if i < D.counter then 20 else 0) else 1) (fun D => { D with counter := i })).2 ∧ DLeft w w' a := by
  refine rd_comb h _ _ (fun hd => rdRaise_down h i hd) (fun hd hc => ?_) (fun hd hc hl => rdRaise_fail h i hr hd (raise_zero hc) hl) (fun hd hc hl => rdRaise_ok h i hr hd (raise_zero hc) hl)
  by_cases h1 : 0 ≤ i ∧ i ≤ 4611686018427387904
  · rw [if_pos h1] at hc ⊢
    by_cases h2 : i < D.counter
    · rw [if_pos h2]
      exact rdRaise_old h i hd ⟨h1.1, h1.2, h2⟩
    · rw [if_neg h2] at hc
      exact absurd rfl hc
  · rw [if_neg h1]
    by_cases h2 : i < 0
    · exact rdRaise_neg h i hd h2
    · exact rdRaise_big h i hd ⟨by omega, by omega⟩
set_option maxRecDepth 100000 in
set_option maxHeartbeats 1600000 in
theorem rdFlush_down (h : RDevIs w a D) (hd : D.down = true) :
    Calls Tryz.prog 43 #[.pointer (some ⟨a.d, 0, none⟩)] w fun e w' => e = .returned (.int .i64 14) ∧ w = w' := by
  obtain ⟨L, h⟩ := h
  obtain ⟨c0, c1, c2, c3, c4, c5, c6, c7⟩ := h.cells
  rw [hd] at c5
  clear h hd
  go_enter Tryz.func43, Tryz.ntmps43
  go_wp2_with fail
  go_ret
  exact ⟨rfl, rfl⟩
set_option maxRecDepth 100000 in
set_option maxHeartbeats 1600000 in
theorem rdFlush_fail (h : RDevIs w a D) (hr : -1 ≤ D.left ∧ D.left ≤ 9223372036854775807) (hd : D.down = false) (hl : D.left = 0) :
    Calls Tryz.prog 43 #[.pointer (some ⟨a.d, 0, none⟩)] w fun e w' => e = .returned (.int .i64 14) ∧ RDevIs w' a D.stepped ∧ DLeft w w' a := by
  have HS := Lib.hid (rdstep_any h hd hr)
  have h0 : decide (D.left ≠ 0) = false := decide_eq_false (by omega)
  rw [h0] at HS
  obtain ⟨L, h⟩ := h
  obtain ⟨c0, c1, c2, c3, c4, c5, c6, c7⟩ := h.cells
  rw [hd] at c5
  clear h hd hr hl h0
  go_enter Tryz.func43, Tryz.ntmps43
  go_wp2_with (first | (go_at_call 82; refine HS.out.mono ?_; rintro e w1 ⟨rfl, h1, hF⟩))
  go_ret
  exact ⟨rfl, h1, hF⟩
set_option maxRecDepth 100000 in
set_option maxHeartbeats 1600000 in
theorem rdFlush_ok (h : RDevIs w a D) (hr : -1 ≤ D.left ∧ D.left ≤ 9223372036854775807) (hfi : Fine D.M) (hN : D.M.length ≤ 1048576) (hd : D.down = false) (hl : D.left ≠ 0) :
    Calls Tryz.prog 43 #[.pointer (some ⟨a.d, 0, none⟩)] w fun e w' => e = .returned (.int .i64 0) ∧ RDevIs w' a ((fun D : Dev => { D with M := doneM (fun _ => 64) D.M (idxs Sec.dirty D.M) }) D.stepped) ∧ DLeft w w' a := by
  have HS := Lib.hid (rdstep_any h hd hr)
  have h0 : decide (D.left ≠ 0) = true := decide_eq_true hl
  rw [h0] at HS
  obtain ⟨e1, _⟩ := stepped_same D
  obtain ⟨L, h⟩ := h
  obtain ⟨c0, c1, c2, c3, c4, c5, c6, c7⟩ := h.cells
  rw [hd] at c5
  have HFi := Lib.hid (And.intro hfi hN)
  generalize D.stepped = S at HS e1 ⊢
  have E1 := Lib.hid e1
  clear h hd hr hl h0 e1 hfi hN
  go_enter Tryz.func43, Tryz.ntmps43
  go_wp2_with (first | (go_at_call 82; refine HS.out.mono ?_; rintro e w1 ⟨rfl, ⟨L1, h1⟩, hF⟩; have y0 := h1.blk.cell 0; have H1 := Lib.hid h1; have HF := Lib.hid hF; have HW := Lib.hid (rFlush_any h1.mem (by rw [E1.out]; exact HFi.out.1) (by rw [E1.out]; exact HFi.out.2)); clear h1 hF) | (go_at_call 84; refine HW.out.mono ?_; rintro e w2 ⟨rfl, hM, hg⟩))
  go_ret
  exact ⟨rfl, ⟨_, H1.out.turn hM hg⟩, DLeft.trans HF.out (DFr.ofGrown hg (.inr (.inl rfl)))⟩
theorem rdFlush_any (h : RDevIs w a D) (hr : -1 ≤ D.left ∧ D.left ≤ 9223372036854775807) (hfi : Fine D.M) (hN : D.M.length ≤ 1048576) :
    Calls Tryz.prog 43 #[.pointer (some ⟨a.d, 0, none⟩)] w fun e w' => e = .returned (.int .i64 (D.dstep 0 (fun D => { D with M := doneM (fun _ => 64) D.M (idxs Sec.dirty D.M) })).1) ∧ RDevIs w' a (D.dstep 0 (fun D => { D with M := doneM (fun _ => 64) D.M (idxs Sec.dirty D.M) })).2 ∧ DLeft w w' a :=
  rd_comb h _ _ (fun hd => rdFlush_down h hd) (fun _ hc => absurd rfl hc) (fun hd _ hl => rdFlush_fail h hr hd hl) (fun hd _ hl => rdFlush_ok h hr hfi hN hd hl)
end
end Go.Proofs.YtcifkahmeimniaaGreat
namespace Go.Proofs.YtcifkahmeimniaaGreat
open Go.RowKit Go.Shelf
attribute [local go_sem] Oper.semAt_some

section
variable {w : World} {a : DAt} {D : Dev}
set_option maxRecDepth 100000 in
set_option maxHeartbeats 1600000 in
theorem rdRead_any (h : RDevIs w a D) (i : Int) :
    Calls Tryz.prog 41 #[.pointer (some ⟨a.d, 0, none⟩), .int .i64 i] w fun e w' => e = .returned (.tuple #[.string (if D.down then ⟨#[]⟩ else if isAt D.M i then (D.M.getD i.toNat default).seen else ⟨#[]⟩), .int .i64 (if D.down then 14 else if isAt D.M i then 0 else 1)]) ∧ w = w' := by
  obtain ⟨L, h⟩ := h
  obtain ⟨c0, c1, c2, c3, c4, c5, c6, c7⟩ := h.cells
  have HR := Lib.hid (rread_any h.mem i)
  unfold errOf at HR
  cases hd : D.down with
  | true =>
    rw [hd] at c5
    clear HR h hd
    go_enter Tryz.func41, Tryz.ntmps41
    go_wp2_with fail
    go_ret2
    exact ⟨rfl, rfl⟩
  | false =>
    rw [hd] at c5
    simp only [Bool.false_eq_true, if_false]
    generalize (if isAt D.M i then (D.M.getD i.toNat default).seen else ⟨#[]⟩ : ByteArray) = T at HR ⊢
    generalize (if isAt D.M i then 0 else 1 : Int) = E at HR ⊢
    clear h hd
    go_enter Tryz.func41, Tryz.ntmps41
    go_wp2_with (first | (go_at_call 81; refine HR.out.mono ?_; rintro e w1 ⟨rfl, rfl⟩))
    go_ret2
    exact ⟨rfl, rfl⟩
set_option maxRecDepth 100000 in
set_option maxHeartbeats 1600000 in
theorem rdLoad_any (h : RDevIs w a D) (i : Int) :
    Calls Tryz.prog 44 #[.pointer (some ⟨a.d, 0, none⟩), .int .i64 i] w fun e w' => e = .returned (.tuple #[.string (if D.down then ⟨#[]⟩ else if inS D.slots i then D.slots.getD i.toNat ⟨#[]⟩ else ⟨#[]⟩), .int .i64 (if D.down then 14 else if inS D.slots i then 0 else 1)]) ∧ w = w' := by
  obtain ⟨L, h⟩ := h
  obtain ⟨c0, c1, c2, c3, c4, c5, c6, c7⟩ := h.cells
  cases hd : D.down with
  | true =>
    rw [hd] at c5
    clear h hd
    go_enter Tryz.func44, Tryz.ntmps44
    go_wp2_with fail
    go_ret2
    exact ⟨rfl, rfl⟩
  | false =>
    rw [hd] at c5
    simp only [Bool.false_eq_true, if_false]
    by_cases hi : inS D.slots i
    · rw [if_pos hi, if_pos hi]
      obtain ⟨n, rfl⟩ := Int.eq_ofNat_of_zero_le hi.1
      have hn : n < D.slots.length := by have := hi.2; omega
      obtain ⟨o, ho⟩ : ∃ o, D.slots[n]? = some o := ⟨_, List.getElem?_eq_getElem hn⟩
      have hc : w.cell? ⟨a.sb, n, none⟩ = some (.string o) := by
        rw [h.srow.cellAt n (by omega)]
        unfold strCells
        rw [List.getElem?_map, ho]
        rfl
      have e : D.slots.getD (n : Int).toNat ⟨#[]⟩ = o := by
        rw [Int.toNat_natCast, List.getD_eq_getElem?_getD, ho]; rfl
      rw [e]
      have d1 : decide ((n : Int) < 0) = false := decide_eq_false (by omega)
      have d2 : decide (D.slots.length ≤ n) = false := decide_eq_false (by omega)
      have hi0 : (0 : Int) ≤ (n : Int) := by omega
      have hi1 : (n : Int) < D.slots.length := by omega
      clear h hd hi ho e
      go_enter Tryz.func44, Tryz.ntmps44
      go_wp2_with fail
      go_ret2
      exact ⟨rfl, rfl⟩
    · rw [if_neg hi, if_neg hi]
      rcases not_inS hi with h0 | h0
      · have d1 : decide (i < 0) = true := decide_eq_true h0
        clear h hd hi h0
        go_enter Tryz.func44, Tryz.ntmps44
        go_wp2_with fail
        go_ret2
        exact ⟨rfl, rfl⟩
      · have d1 : decide (i < 0) = false := decide_eq_false (by omega)
        have d2 : decide ((D.slots.length : Int) ≤ i) = true := decide_eq_true h0.2
        clear h hd hi h0
        go_enter Tryz.func44, Tryz.ntmps44
        go_wp2_with fail
        go_ret2
        exact ⟨rfl, rfl⟩
set_option maxRecDepth 100000 in
set_option maxHeartbeats 1600000 in
theorem rdBurned_any (h : RDevIs w a D) (i : Int) :
    Calls Tryz.prog 60 #[.pointer (some ⟨a.d, 0, none⟩), .int .i64 i] w fun e w' => e = .returned (.bool (burnedD D i)) ∧ w = w' := by
  obtain ⟨L, h⟩ := h
  obtain ⟨c0, c1, c2, c3, c4, c5, c6, c7⟩ := h.cells
  unfold burnedD
  by_cases hi : inS D.fuses i
  · rw [if_pos hi]
    obtain ⟨n, rfl⟩ := Int.eq_ofNat_of_zero_le hi.1
    have hn : n < D.fuses.length := by have := hi.2; omega
    obtain ⟨o, ho⟩ : ∃ o, D.fuses[n]? = some o := ⟨_, List.getElem?_eq_getElem hn⟩
    have hc : w.cell? ⟨a.fb, n, none⟩ = some (.bool o) := by
      rw [h.frow.cellAt n (by omega)]
      unfold boolCells
      rw [List.getElem?_map, ho]
      rfl
    have e : D.fuses.getD (n : Int).toNat false = o := by
      rw [Int.toNat_natCast, List.getD_eq_getElem?_getD, ho]; rfl
    rw [e]
    have hi0 : (0 : Int) ≤ (n : Int) := by omega
    have hi1 : (n : Int) < D.fuses.length := by omega
    clear h hi ho e
    go_enter Tryz.func60, Tryz.ntmps60
    go_wp2_with fail
    go_ret
    exact ⟨rfl, rfl⟩
  · rw [if_neg hi]
    rcases not_inS hi with h0 | h0
    · have d1 : decide (0 ≤ i) = false := decide_eq_false (by omega)
      clear h hi h0
      go_enter Tryz.func60, Tryz.ntmps60
      go_wp2_with fail
      go_ret
      exact ⟨rfl, rfl⟩
    · have d1 : decide (0 ≤ i) = true := decide_eq_true h0.1
      have d2 : decide (i < (D.fuses.length : Int)) = false := decide_eq_false (by omega)
      clear h hi h0
      go_enter Tryz.func60, Tryz.ntmps60
      go_wp2_with fail
      go_ret
      exact ⟨rfl, rfl⟩
set_option maxRecDepth 100000 in
set_option maxHeartbeats 1600000 in
theorem rdTick_any (h : RDevIs w a D) (hc : 0 ≤ D.clock ∧ D.clock ≤ 1099511627776) (n : Int) :
    Calls Tryz.prog 48 #[.pointer (some ⟨a.d, 0, none⟩), .int .i64 n] w fun e w' => e = .returned (.int .i64 (if n < 0 ∨ 1099511627776 - D.clock < n then 1 else 0)) ∧ RDevIs w' a (if n < 0 ∨ 1099511627776 - D.clock < n then D else { D with clock := D.clock + n }) ∧ DLeft w w' a := by
  obtain ⟨L, h⟩ := h
  have hf := h.blk.frozen 4
  have c4 := h.blk.cell 4
  have H := Lib.hid h
  clear h
  have hw1 : wrap64 (1099511627776 - D.clock) = 1099511627776 - D.clock := by unfold wrap64; omega
  by_cases h1 : n < 0
  · rw [if_pos (.inl h1), if_pos (.inl h1)]
    have d1 : decide (n < 0) = true := decide_eq_true h1
    clear h1 hc
    go_enter Tryz.func48, Tryz.ntmps48
    go_wp2_with fail
    go_ret
    exact ⟨rfl, ⟨L, H.out⟩, DLeft.refl _⟩
  · have d1 : decide (n < 0) = false := decide_eq_false h1
    by_cases h2 : 1099511627776 - D.clock < n
    · rw [if_pos (.inr h2), if_pos (.inr h2)]
      have d2 : decide (1099511627776 - D.clock < n) = true := decide_eq_true h2
      clear h1 h2 hc
      go_enter Tryz.func48, Tryz.ntmps48
      go_wp2_with fail
      go_ret
      exact ⟨rfl, ⟨L, H.out⟩, DLeft.refl _⟩
    · have hno : ¬ (n < 0 ∨ 1099511627776 - D.clock < n) := by omega
      rw [if_neg hno, if_neg hno]
      have d2 : decide (1099511627776 - D.clock < n) = false := decide_eq_false h2
      have hw2 : wrap64 (D.clock + n) = D.clock + n := by unfold wrap64; omega
      clear h1 h2 hc hno
      go_enter Tryz.func48, Tryz.ntmps48
      go_wp2_with fail
      go_ret
      have hg := grown_set w a.d 4 (.int .i64 (D.clock + n))
      exact ⟨rfl, ⟨L, H.out.scal (D' := { D with clock := D.clock + n }) hg rfl rfl rfl H.out.lf (H.out.blk.set_ 4 (.int .i64 (D.clock + n)))⟩, DFr.ofGrown hg (.inl rfl)⟩
set_option maxRecDepth 100000 in
set_option maxHeartbeats 1600000 in
theorem rdTrip_any (h : RDevIs w a D) (n : Int) :
    Calls Tryz.prog 49 #[.pointer (some ⟨a.d, 0, none⟩), .int .i64 n] w fun e w' => e = .returned (.tuple #[]) ∧ RDevIs w' a { D with left := max n (-1) } ∧ DLeft w w' a := by
  obtain ⟨L, h⟩ := h
  have f6 := h.blk.frozen 6
  have f7 := h.blk.frozen 7
  have c6 := h.blk.cell 6
  have c7 := h.blk.cell 7
  have H := Lib.hid h
  clear h
  go_enter Tryz.func49, Tryz.ntmps49
  go_wp2_with fail
  go_end0
  have hg := grown_trans (grown_set w a.d 6 (.bool (decide (0 ≤ n)))) (grown_set (w.setCell ⟨a.d, 6, none⟩ (.bool (decide (0 ≤ n)))) a.d 7 (.int .i64 n))
  refine ⟨by simp, ⟨n, H.out.scal (D' := { D with left := max n (-1) }) hg rfl rfl rfl (fun e => by dsimp only at e ⊢; omega) ?_⟩, DFr.ofGrown hg (.inl rfl)⟩
  have h2 := (H.out.blk.set_ 6 (.bool (decide (0 ≤ n)))).set_ 7 (.int .i64 n)
  have e : decide (0 ≤ max n (-1)) = decide (0 ≤ n) := by
    by_cases hn : 0 ≤ n
    · rw [decide_eq_true hn, decide_eq_true (by omega)]
    · rw [decide_eq_false hn, decide_eq_false (by omega)]
  dsimp only
  rw [e]
  exact h2
set_option maxRecDepth 100000 in
set_option maxHeartbeats 1600000 in
theorem rdStale_any (h : RDevIs w a D) (i : Int) :
    Calls Tryz.prog 52 #[.pointer (some ⟨a.d, 0, none⟩), .int .i64 i] w fun e w' => e = .returned (.int .i64 (chk (isAt D.M i))) ∧ RDevIs w' a { D with M := if isAt D.M i then upd Sec.stale D.M i else D.M } ∧ DLeft w w' a := by
  obtain ⟨L, h⟩ := h
  obtain ⟨c0, c1, c2, c3, c4, c5, c6, c7⟩ := h.cells
  have HR := Lib.hid (rstale_any h.mem i)
  have H := Lib.hid h
  unfold errOf at HR
  unfold chk
  generalize (if isAt D.M i then upd Sec.stale D.M i else D.M) = M2 at HR ⊢
  generalize (if isAt D.M i then 0 else 1 : Int) = E at HR ⊢
  clear h
  go_enter Tryz.func52, Tryz.ntmps52
  go_wp2_with (first | (go_at_call 86; refine HR.out.mono ?_; rintro e w1 ⟨rfl, hM, hg⟩))
  go_ret
  exact ⟨rfl, ⟨L, H.out.turn hM hg⟩, DFr.ofGrown hg (.inr (.inl rfl))⟩
set_option maxRecDepth 100000 in
set_option maxHeartbeats 1600000 in
theorem rdWear_any (h : RDevIs w a D) (i : Int) :
    Calls Tryz.prog 53 #[.pointer (some ⟨a.d, 0, none⟩), .int .i64 i] w fun e w' => e = .returned (.int .i64 (chk (isAt D.M i))) ∧ RDevIs w' a { D with M := if isAt D.M i then upd Sec.wear D.M i else D.M } ∧ DLeft w w' a := by
  obtain ⟨L, h⟩ := h
  obtain ⟨c0, c1, c2, c3, c4, c5, c6, c7⟩ := h.cells
  have HR := Lib.hid (rwear_any h.mem i)
  have H := Lib.hid h
  unfold errOf at HR
  unfold chk
  generalize (if isAt D.M i then upd Sec.wear D.M i else D.M) = M2 at HR ⊢
  generalize (if isAt D.M i then 0 else 1 : Int) = E at HR ⊢
  clear h
  go_enter Tryz.func53, Tryz.ntmps53
  go_wp2_with (first | (go_at_call 87; refine HR.out.mono ?_; rintro e w1 ⟨rfl, hM, hg⟩))
  go_ret
  exact ⟨rfl, ⟨L, H.out.turn hM hg⟩, DFr.ofGrown hg (.inr (.inl rfl))⟩
set_option maxRecDepth 100000 in
set_option maxHeartbeats 1600000 in
theorem rdImage_any (h : RDevIs w a D) (hN : D.M.length ≤ 1048576) :
    Calls Tryz.prog 54 #[.pointer (some ⟨a.d, 0, none⟩)] w fun e w' => ∃ v, e = .returned v ∧ NewTexts w w' v (D.M.map Sec.now) := by
  obtain ⟨L, h⟩ := h
  obtain ⟨c0, c1, c2, c3, c4, c5, c6, c7⟩ := h.cells
  have HR := Lib.hid (rImage_any h.mem hN)
  clear h
  go_enter Tryz.func54, Tryz.ntmps54
  go_wp2_with (first | (go_at_call 88; refine HR.out.mono ?_; rintro e w1 ⟨v, rfl, hT⟩; have HT := Lib.hid hT; clear hT))
  go_ret
  exact ⟨_, rfl, HT.out⟩
set_option maxRecDepth 100000 in
set_option maxHeartbeats 1600000 in
theorem rdRestore_any (h : RDevIs w a D) (v : Value) (I : List ByteArray) (hv : Texts w v I) (hN : I.length ≤ 1048576) :
    Calls Tryz.prog 55 #[.pointer (some ⟨a.d, 0, none⟩), v] w fun e w' => e = .returned (.int .i64 (if loadErr I D.M then 1 else 0)) ∧ RDevIs w' a { D with M := if loadErr I D.M then D.M else loadM I D.M } ∧ DLeft w w' a := by
  obtain ⟨L, h⟩ := h
  obtain ⟨c0, c1, c2, c3, c4, c5, c6, c7⟩ := h.cells
  have HR := Lib.hid (rLoad_any h.mem v I hv hN)
  have H := Lib.hid h
  generalize (if loadErr I D.M then D.M else loadM I D.M) = M2 at HR ⊢
  generalize (if loadErr I D.M then 1 else 0 : Int) = E at HR ⊢
  clear h hv
  go_enter Tryz.func55, Tryz.ntmps55
  go_wp2_with (first | (go_at_call 89; refine HR.out.mono ?_; rintro e w1 ⟨rfl, hM, hg⟩))
  go_ret
  exact ⟨rfl, ⟨L, H.out.turn hM hg⟩, DFr.ofGrown hg (.inr (.inl rfl))⟩
set_option maxRecDepth 100000 in
set_option maxHeartbeats 1600000 in
theorem rdMount_any (h : RDevIs w a D) (hf : Fine D.M) (hN : D.M.length ≤ 1048576) (v : Value) (P : List Int) (pb po : Nat) (hv : RestAt v P.length 0 pb po) (hpg : pb ≠ a.g) (hpl : pb < w.heap.size)
    (hc : ∀ i x, P[i]? = some x → w.cell? ⟨pb, po + i, none⟩ = some (.int .i64 x)) :
    Calls Tryz.prog 50 #[.pointer (some ⟨a.d, 0, none⟩), v] w fun e w' => e = .returned (.tuple #[]) ∧ RDevIs w' a { D with M := doneM (pick P) D.M (idxs Sec.dirty D.M), down := false, left := -1 } ∧ DLeft w w' a := by
  obtain ⟨L, h⟩ := h
  obtain ⟨c0, c1, c2, c3, c4, c5, c6, c7⟩ := h.cells
  have HR := Lib.hid (rCut_any h.mem hf hN v P pb po hv hpg hpl hc)
  have H := Lib.hid h
  generalize doneM (pick P) D.M (idxs Sec.dirty D.M) = M2 at HR ⊢
  clear h hv hc hf
  go_enter Tryz.func50, Tryz.ntmps50
  go_wp2_with (first | (go_at_call 85; refine HR.out.mono ?_; rintro e w1 ⟨rfl, hM, hg⟩; have h1 := H.out.turn hM hg; have y5 := h1.blk.cell 5; have y6 := h1.blk.cell 6; have z5 := h1.blk.frozen 5; have z6 := h1.blk.frozen 6; have H1 := Lib.hid h1; clear h1))
  go_end0
  have hg2 := grown_trans (grown_set w1 a.d 5 (.bool true)) (grown_set (w1.setCell ⟨a.d, 5, none⟩ (.bool true)) a.d 6 (.bool false))
  exact ⟨by simp, ⟨L, H1.out.scal (D' := { D with M := M2, down := false, left := -1 }) hg2 rfl rfl rfl (fun e => by dsimp only at e; omega) ((H1.out.blk.set_ 5 (.bool true)).set_ 6 (.bool false))⟩, DFr.trans (w' := w1) (DFr.ofGrown hg (.inr (.inl rfl))) (DFr.ofGrown hg2 (.inl rfl))⟩
/-- 32 zero bytes, as cells. -/
def zcells32 : Array Value := Array.replicate 32 (.int .u8 0)
theorem zmake32 (w : World) : (Instr.makeSlice 78 (.int .i64 32) (.int .i64 32)).run Tryz.prog w = .ok (.slice (some ⟨w.heap.size, 0, none⟩) 32 32) (w.alloc (.cells zcells32 5)) := by kernel_rfl
theorem zconv32 (w : World) : (convert 78 9 (.slice (some ⟨w.heap.size, 0, none⟩) 32 32)).run Tryz.prog (w.alloc (.cells zcells32 5)) = .ok (.string zero32) (w.alloc (.cells zcells32 5)) := by
  have h := run_convert_bytes_back (P := Tryz.prog) (w.alloc (.cells zcells32 5)) 78 9 5 ⟨w.heap.size, 0, none⟩ 32 (List.replicate 32 (0 : UInt8)) Tryz.underlying78 Tryz.underlying5 Tryz.underlying9 (fun j hj => by
    have hb := (Blk.new w 5 zcells32).cell j
    have e : (⟨w.heap.size, 0, none⟩ : Addr).add j = ⟨w.heap.size, j, none⟩ := by
      simp [Addr.add]; intro e; exact e.symm
    rw [e, hb]
    have hj' : j < 32 := by simpa using hj
    rw [List.getElem_replicate]
    have hz : zcells32[j]? = some (.int .u8 0) := by
      unfold zcells32
      rw [Array.getElem?_replicate, if_pos hj']
    rw [hz]
    rfl)
  exact h
set_option maxRecDepth 100000 in
set_option maxHeartbeats 1600000 in
theorem rdzero_any (w : World) : Calls Tryz.prog 30 #[] w fun e w' => e = .returned (.string zero32) ∧ Below w.heap.size w w' := by
  have k2 := zmake32
  have k3 := zconv32
  go_enter Tryz.func30, Tryz.ntmps30
  go_wp2_with fail
  go_ret
  exact ⟨rfl, (Below.refl _ _).alloc (Nat.le_refl _) _⟩
set_option maxRecDepth 100000 in
set_option maxHeartbeats 1600000 in
theorem rdBattery_any (h : RDevIs w a D) (hN : D.slots.length ≤ 1048576) :
    Calls Tryz.prog 51 #[.pointer (some ⟨a.d, 0, none⟩)] w fun e w' => e = .returned (.tuple #[]) ∧ RDevIs w' a { D with slots := List.replicate D.slots.length zero32 } ∧ DLeft w w' a := by
  obtain ⟨L, h⟩ := h
  obtain ⟨c0, c1, c2, c3, c4, c5, c6, c7⟩ := h.cells
  have H := Lib.hid h
  obtain ⟨N, hNN⟩ : ∃ N, D.slots.length = N := ⟨_, rfl⟩
  rw [hNN] at c1 hN
  have HN := Lib.hid hNN
  clear h hNN
  go_enter Tryz.func51, Tryz.ntmps51
  go_wp2_with fail
  go_loopw [2] (fun i wr => ∃ k : Nat, k ≤ N ∧ i = .int .i64 k ∧ Hid (IsRDev wr a L { D with slots := emptied D.slots k }) ∧ Hid (DLeft w wr a)) (fun i _ => N - (intOf i).toNat)
  case atStart => exact ⟨0, Nat.zero_le _, rfl, H.out, DLeft.refl _⟩
  case round =>
    obtain ⟨k, hk, rfl, HD, HF⟩ := hrel
    clear c0 c1 c2 c3 c4 c5 c6 c7
    have hel : (emptied D.slots k).length = N := (emptied_len _ _ (by have := HN.out; omega)).trans HN.out
    have y0 := HD.out.blk.cell 1
    dsimp only at y0
    rw [hel] at y0
    by_cases hkN : k < N
    · have hd : decide (k < N) = true := decide_eq_true hkN
      have hkl : k < D.slots.length := by have := HN.out; omega
      have hk0 : (0 : Int) ≤ (k : Int) := by omega
      have hk1 : (k : Int) < (N : Int) := by omega
      have hwk : wrap64 ((k : Int) + 1) = (k : Int) + 1 := by unfold wrap64; omega
      have hstep : Hid (∀ w1, Below wr.heap.size wr.drew w1 → w1.cell? ⟨a.d, 1, none⟩ = some (.slice (some ⟨a.sb, 0, none⟩) N a.sc) ∧ (∃ o, w1.cell? ⟨a.sb, k, none⟩ = some o) ∧ w1.frozen? ⟨a.sb, k, none⟩ = false ∧ (w1.setCell ⟨a.sb, k, none⟩ (.string zero32)).cell? ⟨a.d, 1, none⟩ = some (.slice (some ⟨a.sb, 0, none⟩) N a.sc) ∧
          IsRDev (w1.setCell ⟨a.sb, k, none⟩ (.string zero32)) a L { D with slots := emptied D.slots (k + 1) } ∧ DLeft w (w1.setCell ⟨a.sb, k, none⟩ (.string zero32)) a) := by
        intro w1 hB
        have hb : Below wr.heap.size wr w1 := (Below.refl _ wr).drew.trans hB
        have h1 := HD.out.below hb
        obtain ⟨s1, s2⟩ := h1.slotSet k zero32
        dsimp only at s1
        rw [emptied_set _ _ hkl] at s1
        have z0 := h1.blk.cell 1
        have z1 := s1.blk.cell 1
        dsimp only at z0 z1
        rw [hel] at z0
        rw [emptied_len _ _ (by omega), HN.out] at z1
        have zc : w1.cell? ⟨a.sb, k, none⟩ = some (.string ((emptied D.slots k).getD k ⟨#[]⟩)) := by
          have e1 := h1.srow.cellAt k (by dsimp only; rw [hel]; omega)
          have e2 : (emptied D.slots k)[k]? = some ((emptied D.slots k).getD k ⟨#[]⟩) := by
            rw [List.getD_eq_getElem?_getD, List.getElem?_eq_getElem (by omega)]
            rfl
          rw [e1]
          dsimp only
          unfold strCells
          rw [List.getElem?_map, e2]
          rfl
        exact ⟨z0, ⟨_, zc⟩, h1.srow.frozenAt k, z1, s1, DLeft.trans HF.out (DLeft.trans (DLeft.ofBelow hb) (DFr.ofGrown s2 (.inr (.inr (.inl rfl)))))⟩
      have Hel := Lib.hid hel
      have Hkl := Lib.hid hkN
      clear hel hkl hkN
      go_wp2_with fail
      go_region_held3 (fun w' => w'.cell? ⟨a.d, 1, none⟩ = some (.slice (some ⟨a.sb, 0, none⟩) N a.sc)) (go_keep)
        (first | (go_at_call 30; refine (rdzero_any _).mono ?_; rintro e w1 ⟨rfl, hB1⟩; obtain ⟨a0, ⟨o1, a1⟩, a2, a3, hI, hFr⟩ := hstep.out _ hB1; have HI := Lib.hid hI; have HFr := Lib.hid hFr; clear hI hFr))
      go_wp2_with fail
      go_roundw
      case rel => exact ⟨k + 1, Hkl.out, by go_num, HI, HFr⟩
      case measure => have := Hkl.out; simp [intOf]; omega
    · have hd : decide (k < N) = false := decide_eq_false hkN
      have hkN2 : k = N := by omega
      go_wp2_with fail
      go_end0
      refine ⟨by simp, ⟨L, ?_⟩, HF.out⟩
      have e : emptied D.slots k = List.replicate D.slots.length zero32 := by
        unfold emptied
        rw [hkN2, ← HN.out, List.drop_length, List.append_nil]
      have hD := HD.out
      rw [e] at hD
      exact hD
end
end Go.Proofs.YtcifkahmeimniaaGreat
