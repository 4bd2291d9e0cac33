/-
  Layer 33 (zero): Steps.
-/
import Derived.Test.YtgenifcikfbfhaaZerW6
namespace Go.Proofs.Ytgenifcikfbfhaa
open Go.RowKit Go.Shelf
attribute [local go_sem] Oper.semAt_some

/-- A number in a cell, as the result. -/
theorem results_num {fn : Func} {p : Tmp} (h : fn.results = #[.cell p 3]) (tmps : Array Value) (w : World) (g : Nat) (v : Value) (hp : tmps.getD p undef = .pointer (some ⟨g, 0, none⟩)) (hc : w.cell? ⟨g, 0, none⟩ = some v) :
    (results fn tmps).run Try.prog w = .ok v w := by
  have hp' : tmps[p]?.getD undef = .pointer (some ⟨g, 0, none⟩) := by simpa using hp
  simp [results, h, hp', loadVar, asAddr, go_sem, hc]
section
variable {w : World} {d b g sb sc fb fc s n f : Nat} {D : Dev}
/-- What the loop of Steps keeps. -/
def Counting (d b g sb sc fb fc bd r : Nat) (w : World) (D : Dev) (K n : Nat) (pre : List (ZStep × Nat)) (W : World) : Prop :=
  pre.map Prod.fst = (zlist K n).take pre.length ∧ IsDev W d b g sb sc fb fc D ∧ Blk W bd 26 #[.pointer (some ⟨d, 0, none⟩)] ∧ Blk W r 3 #[.int .i64 pre.length] ∧ DFr w W d g sb fb
theorem counting_own (bd r K : Nat) (B : Nat) (hB : w.heap.size ≤ B) : OwnFrom B (Counting d b g sb sc fb fc bd r w D K n) := by
  rintro pre W W' row ⟨h1, h3, h4, h5, h6⟩ hg hr
  have hr2 := fun r e => (hr r e).2
  exact ⟨h1, isDev_own h3 hg hr2, h4.grown hg (blk_row h4 hr2), h5.grown hg (blk_row h5 hr2), h6.grownRow hg (fun r e => by have := (hr r e).1; omega)⟩
set_option maxRecDepth 100000 in
set_option maxHeartbeats 4000000 in
theorem zSteps_any (h : IsDev w d b g sb sc fb fc D) (hok : D.Ok n s f) (hn : n ≤ 1048576) (hs : s ≤ 1048576) :
    Calls Try.prog 21 #[.pointer (some ⟨d, 0, none⟩)] w fun e w' => e = .returned (.int .i64 (zcount D : Nat)) ∧ IsDev w' d b g sb sc fb fc D ∧ DFr w w' d g sb fb := by
  have hB1 : Below w.heap.size w (w.alloc (.cells #[.int .i64 0] 3)) := (Below.refl _ w).alloc (Nat.le_refl _) _
  have hr1 := Blk.new w 3 #[.int .i64 0]
  obtain ⟨w1, hw1⟩ : ∃ w1, w.alloc (.cells #[.int .i64 0] 3) = w1 := ⟨_, rfl⟩
  have hs1 : w1.heap.size = w.heap.size + 1 := by rw [← hw1]; simp
  rw [hw1] at hB1 hr1
  have h1 : IsDev w1 d b g sb sc fb fc D := h.below hB1
  have HST := Lib.hid (callsIn_wide (n := 4 - 1) |>.2 (zState_any h1))
  have HSQ := Lib.hid (callsIn_wide (n := 4 - 1) |>.2 (zsteps_any w1 d))
  have y0 : w1.cell? ⟨w.heap.size, 0, none⟩ = some (.int .i64 0) := hr1.cell 0
  have z0 := hr1.frozen 0
  by_cases hz : zstate D = 1
  · rw [hz] at HST
    have hcnt : zcount D = zslots D + n + 2 := by unfold zcount zslots; rw [if_neg (by omega), hok.M]
    have hKs : zslots D ≤ s := by unfold zslots; rw [hok.slots]; split <;> omega
    obtain ⟨C, hC⟩ : ∃ C, zslots D + n + 2 = C := ⟨_, rfl⟩
    rw [hcnt, hC]
    refine (callsIn_wide (n := 4)).1 ?_
    refine callsIn_of_wp_marks Try.func21 rfl trivial ?_ rfl
    simp only [Try.ntmps21, List.size_toArray, List.length_cons, List.length_nil, Nat.reduceAdd, Nat.reduceSub, Array.replicate_succ, Array.replicate_zero, List.push_toArray, List.append_toArray, List.nil_append, List.cons_append]
    gi_wp2_with (first | (refine ⟨trivial, ?_⟩; gi_at_call 16; refine HST.out.mono ?_; rintro e w2 ⟨rfl, rfl⟩) | (refine ⟨trivial, ?_⟩; gi_at_call 38; refine HSQ.out.mono ?_; rintro e w2 ⟨rfl, hb2, hB2⟩))
    have h2 : IsDev w2 d b g sb sc fb fc D := h1.below hB2
    have hr2 : Blk w2 w.heap.size 3 #[.int .i64 0] := hr1.below hB2 hr1.lt
    have hF2 : DFr w w2 d g sb fb := DFr.trans (w' := w1) (DFr.ofBelow hB1) (DFr.ofBelow hB2)
    have hle : w.heap.size ≤ w2.heap.size := hF2.size
    rw [hs1] at hb2
    refine wpIn_rangeFunc_steps rfl (by decide) (gf := 61) (lb := #[.pointer (some ⟨w.heap.size + 1, 0, none⟩)]) rfl trivial (enters_of Try.func61 (by kernel_rfl) rfl)
      (zsteps1_seq 3 (by decide) d b g sb sc fb fc (w.heap.size + 1) (zslots D) s n hs hn (by omega)) (fun _ => rfl)
      (Counting d b g sb sc fb fc (w.heap.size + 1) w.heap.size w D (zslots D) n) (fun _ _ _ => False) (counting_own _ _ _ _ hle) (fun c pre W W' row k hg hr => k)
      (fun pre W1 hI => ⟨hI.2.2.1, D, hI.2.1, hok.slots, hok.M, fun _ => rfl⟩)
      (fun pre x => by
        rintro _ W W' row ⟨k1, k2⟩ hg hr
        exact ⟨k1, stepBox_own _ x () W W' row k2 hg hr⟩)
      ⟨rfl, h2, hb2, hr2, hF2⟩
      (fun x => { tmps := #[.pointer (some ⟨d, 0, none⟩), undef, .pointer (some ⟨w.heap.size, 0, none⟩), .pointer (some ⟨d, 0, none⟩), .int .i64 1, .bool true, .pointer (some ⟨d, 0, none⟩), .func (.func 61) #[] #[.pointer (some ⟨w.heap.size + 1, 0, none⟩)], stepV d (w.heap.size + 1) x.1 x.2, undef, undef, undef], defers := [] }) ?assign ?body ?done ?stop
    case assign =>
      intro l x W K hK
      gi_wp2
      refine cast (congrArg (fun t => K { tmps := t, defers := [] } W) ?_) hK
      simp
    case body =>
      rintro l pre ⟨x, B⟩ W ⟨j1, j3, j4, j5, j6⟩ ⟨k1, k2⟩
      have hpl : pre.length < zslots D + n + 2 := by
        have := (List.getElem?_eq_some_iff.1 k1).1
        rw [zlist_len] at this
        exact this
      have c5 : W.cell? ⟨w.heap.size, 0, none⟩ = some (.int .i64 pre.length) := j5.cell 0
      have f5 := j5.frozen 0
      have hwk : wrap64 ((pre.length : Int) + 1) = (pre.length : Int) + 1 := by unfold wrap64; omega
      have hlen : (pre ++ [(x, B)]).length = pre.length + 1 := by simp
      have hfin : Hid (KeepsOthers W (W.setCell ⟨w.heap.size, 0, none⟩ (.int .i64 ((pre.length : Int) + 1))) ∧ Counting d b g sb sc fb fc (w.heap.size + 1) w.heap.size w D (zslots D) n (pre ++ [(x, B)]) (W.setCell ⟨w.heap.size, 0, none⟩ (.int .i64 ((pre.length : Int) + 1)))) := by
        refine ⟨KeepsOthers.setCell _ _ _, ?_, isDev_past j3 j5 (by decide) (grown_set _ _ _ _), j4.other (a := ⟨w.heap.size, 0, none⟩) (by show w.heap.size + 1 ≠ w.heap.size; omega) _, ?_, j6.grownRow (grown_set _ _ _ _) (fun r e => by cases e; omega)⟩
        · rw [hlen]; exact map_snoc_take B j1 k1
        · rw [hlen]; exact j5.set_ 0 _
      clear j1 j3 j4 j5 j6 k1 k2 hlen
      gi_wp2
      exact hfin.out
    case done =>
      rintro E xs W hE hxs ⟨j1, j3, j4, j5, j6⟩ hK
      have hl : xs.length = zslots D + n + 2 := by rw [← zlist_len, ← hxs, List.length_map]
      rw [hl, hC] at j5
      have c5 : W.cell? ⟨w.heap.size, 0, none⟩ = some (.int .i64 C) := j5.cell 0
      have f5 := j5.frozen 0
      gi_wp2
      refine ⟨by simp, .inl ⟨_, _, rfl, run_takeDeferred ((KeepsOthers.setCell W ⟨w.heap.size, 0, none⟩ (.int .i64 C)).same E _ hK rfl), ?_⟩⟩
      have hK2 := (KeepsOthers.setCell W ⟨w.heap.size, 0, none⟩ (.int .i64 C)).same E _ hK rfl
      have q1 := isDev_past j3 j5 (by decide) (grown_set W w.heap.size 0 (.int .i64 C))
      have q2 := j5.set_ 0 (.int .i64 C)
      have q3 : DFr w (W.setCell ⟨w.heap.size, 0, none⟩ (.int .i64 C)) d g sb fb := j6.grownRow (grown_set _ _ _ _) (fun r e => by cases e; omega)
      have hgp := grownBy_putObj' (W.setCell ⟨w.heap.size, 0, none⟩ (.int .i64 C)) E (.deferred none)
      have hrr : ∀ r, some E = some r → ∃ o : Obj, (W.setCell ⟨w.heap.size, 0, none⟩ (.int .i64 C)).heap[r]? = some o ∧ o.isCells = false := fun r e => by cases e; exact ⟨_, hK2, rfl⟩
      exact ⟨_, results_num rfl _ _ w.heap.size _ rfl ((q2.grown hgp (blk_row q2 hrr)).cell 0), rfl, isDev_own q1 hgp hrr, q3.grownRow hgp (fun r e => by cases e; omega)⟩
    case stop =>
      rintro E c pre W hE h5 hK
      exact h5.elim
  · have dz : (zstate D == 1) = false := by simpa using hz
    have hcnt : zcount D = 0 := by unfold zcount; rw [if_pos hz]
    rw [hcnt]
    refine (callsIn_wide (n := 4)).1 ?_
    refine callsIn_of_wp_marks Try.func21 rfl trivial ?_ rfl
    simp only [Try.ntmps21, List.size_toArray, List.length_cons, List.length_nil, Nat.reduceAdd, Nat.reduceSub, Array.replicate_succ, Array.replicate_zero, List.push_toArray, List.append_toArray, List.nil_append, List.cons_append]
    gi_wp2_with (first | (refine ⟨trivial, ?_⟩; gi_at_call 16; refine HST.out.mono ?_; rintro e w2 ⟨rfl, rfl⟩))
    have q1 := isDev_past h1 hr1 (by decide) (grown_set w1 w.heap.size 0 (.int .i64 0))
    have q2 := (hr1.set_ 0 (.int .i64 0)).cell 0
    exact ⟨_, results_num rfl _ _ w.heap.size _ rfl q2, rfl, q1, DFr.ofBelow (hB1.setCell (p := ⟨w.heap.size, 0, none⟩) (Nat.le_refl _) _)⟩
end
end Go.Proofs.Ytgenifcikfbfhaa
