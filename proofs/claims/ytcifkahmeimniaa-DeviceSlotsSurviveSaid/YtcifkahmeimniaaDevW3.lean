/-
  Layer 23 (device): step, one contract; what an operation leaves.
-/
import Derived.Test.YtcifkahmeimniaaDevW2
import Derived.Test.YtcifkahmeimniaaDevP2
namespace Go.Proofs.Ytcifkahmeimniaa
open Go.RowKit Go.Shelf
attribute [local go_sem] Oper.semAt_some

/-- What an operation on a device leaves of the other blocks. -/
structure DFr (w w' : World) (d g sb fb : Nat) : Prop where
  os : w'.os = w.os
  tape : w'.tape = w.tape
  output : w'.output = w.output
  size : w.heap.size ≤ w'.heap.size
  rest : ∀ k, k < w.heap.size → k ≠ d → k ≠ g → k ≠ sb → k ≠ fb → w'.heap[k]? = w.heap[k]?

section
variable {w w' w2 : World} {d b g sb sc fb fc : Nat} {D : Dev}
theorem DFr.refl (w : World) : DFr w w d g sb fb := ⟨rfl, rfl, rfl, Nat.le_refl _, fun _ _ _ _ _ _ => rfl⟩
theorem DFr.trans (h : DFr w w' d g sb fb) (k : DFr w' w2 d g sb fb) : DFr w w2 d g sb fb :=
  ⟨k.os.trans h.os, k.tape.trans h.tape, k.output.trans h.output, Nat.le_trans h.size k.size, fun i hi h1 h2 h3 h4 => (k.rest i (Nat.lt_of_lt_of_le hi h.size) h1 h2 h3 h4).trans (h.rest i hi h1 h2 h3 h4)⟩
theorem DFr.ofGrown {r : Nat} (hg : w.grownBy w' (some r)) (hr : r = d ∨ r = g ∨ r = sb ∨ r = fb) : DFr w w' d g sb fb :=
  ⟨hg.os, hg.tape, hg.output, hg.size, fun k hk h1 h2 h3 h4 => hg.block k hk (fun e => by cases e; rcases hr with h | h | h | h <;> (subst h; first | exact h1 rfl | exact h2 rfl | exact h3 rfl | exact h4 rfl))⟩
theorem DFr.ofBelow (hB : Below w.heap.size w w') : DFr w w' d g sb fb := ⟨hB.os, hB.tape, hB.output, hB.size, fun k hk _ _ _ _ => hB.block k hk⟩
theorem DFr.below {B : Nat} {w0 : World} (h : DFr w w' d g sb fb) (hB : Below B w0 w) (hw : B ≤ w.heap.size) (h1 : B ≤ d) (h2 : B ≤ g) (h3 : B ≤ sb) (h4 : B ≤ fb) : Below B w0 w' :=
  ⟨h.os.trans hB.os, h.tape.trans hB.tape, h.output.trans hB.output, Nat.le_trans hB.size h.size, fun k hk => (h.rest k (by omega) (by omega) (by omega) (by omega) (by omega)).trans (hB.block k hk)⟩

/-- The memory has turned. -/
theorem IsDev.turn {M2 : List Sec} (h : IsDev w d b g sb sc fb fc D) (hM : PMem w' b g M2) (hg : w.grownBy w' (some g)) : IsDev w' d b g sb sc fb fc { D with M := M2 } := by
  obtain ⟨cap, cur, _, hgb, _⟩ := h.mem.body
  exact ⟨h.blk.grown hg (fun e => h.blk.ne_ hgb (by decide) (by cases e; rfl)), hM, h.srow.kept hg (.inr (own_blk_ne h.srow hgb (by decide))), h.frow.kept hg (.inr (own_blk_ne h.frow hgb (by decide)))⟩
theorem IsDev.below (h : IsDev w d b g sb sc fb fc D) (hB : Below w.heap.size w w') : IsDev w' d b g sb sc fb fc D :=
  ⟨h.blk.below hB h.blk.lt, h.mem.below hB h.mem.lt.1 h.mem.lt.2, ownsRow_below h.srow hB (Nat.le_refl _), ownsRow_below h.frow hB (Nat.le_refl _)⟩

theorem step_any (h : IsDev w d b g sb sc fb fc D) (hr : -1 ≤ D.left ∧ D.left ≤ 9223372036854775807) (check : Int) (fi : Nat) (caps : Array Value) (eg : ∀ args w, (callFunc fi args).run Try.prog w = .ok (.enter fi args) w) (f : Dev → Dev)
    (HC : check = 0 → ∀ w2, IsDev w2 d b g sb sc fb fc { D with left := leftNext D.left } → w.grownBy w2 (some d) → Calls Try.prog fi caps w2 fun e w' => e = .returned (.tuple #[]) ∧ IsDev w' d b g sb sc fb fc (f { D with left := leftNext D.left }) ∧ DFr w2 w' d g sb fb) :
    Calls Try.prog 44 #[.pointer (some ⟨d, 0, none⟩), .int .i64 check, .func (.func fi) #[] caps] w fun e w' => e = .returned (.int .i64 (D.dstep check f).1) ∧ IsDev w' d b g sb sc fb fc (D.dstep check f).2 ∧ DFr w w' d g sb fb := by
  unfold Dev.dstep
  by_cases hd : D.down = true
  · rw [if_pos hd]
    refine (step_down h hd check _).mono ?_
    rintro e w' ⟨rfl, rfl⟩
    exact ⟨rfl, h, DFr.refl _⟩
  · rw [if_neg hd]
    have hd' : D.down = false := by simpa using hd
    by_cases hc : check ≠ 0
    · rw [if_pos hc]
      refine (step_chk h hd' check hc _).mono ?_
      rintro e w' ⟨rfl, rfl⟩
      exact ⟨rfl, h, DFr.refl _⟩
    · rw [if_neg hc]
      have hc' : check = 0 := by simpa using hc
      subst hc'
      by_cases hl : D.left = 0
      · rw [if_pos hl]
        refine (step_fail h hd' hl _).mono ?_
        rintro e w' ⟨rfl, h1, h2⟩
        exact ⟨rfl, h1, DFr.ofGrown h2 (.inl rfl)⟩
      · rw [if_neg hl]
        refine (step_ok (Q := fun w' => IsDev w' d b g sb sc fb fc (f { D with left := leftNext D.left }) ∧ DFr w w' d g sb fb) h hd' hl hr fi caps eg (fun w2 h1 h2 => (HC rfl w2 h1 h2).mono ?_)).mono ?_
        · rintro e w' ⟨rfl, h3, h4⟩
          exact ⟨rfl, h3, (DFr.ofGrown h2 (.inl rfl)).trans h4⟩
        · rintro e w' ⟨rfl, h3, h4⟩
          exact ⟨rfl, h3, h4⟩

/-- The closures' entries. -/
theorem eg_write (args : Array Value) (w : World) : (callFunc 53 args).run Try.prog w = .ok (.enter 53 args) w := by simp [go_sem]
theorem eg_store (args : Array Value) (w : World) : (callFunc 46 args).run Try.prog w = .ok (.enter 46 args) w := by simp [go_sem]
theorem eg_burn (args : Array Value) (w : World) : (callFunc 47 args).run Try.prog w = .ok (.enter 47 args) w := by simp [go_sem]
theorem eg_raise (args : Array Value) (w : World) : (callFunc 48 args).run Try.prog w = .ok (.enter 48 args) w := by simp [go_sem]
end
end Go.Proofs.Ytcifkahmeimniaa
