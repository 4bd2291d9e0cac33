/-
  Layer 33 (zero): Resume.
-/
import Derived.Test.YtgenifcikfbfhaaG6
import Derived.RangeFuncBox
namespace Go.Proofs.Ytgenifcikfbfhaa
open Go.RowKit Go.Shelf
attribute [local go_sem] Oper.semAt_some

/-- An error in a cell, as the result. -/
theorem results_err {fn : Func} {p : Tmp} (h : fn.results = #[.cell p 32]) (tmps : Array Value) (w : World) (g : Nat) (v : Value) (hp : tmps.getD p undef = .pointer (some ⟨g, 0, none⟩)) (hc : w.cell? ⟨g, 0, none⟩ = some v) :
    (results fn tmps).run Try.prog w = .ok v w := by
  have hp' : tmps[p]?.getD undef = .pointer (some ⟨g, 0, none⟩) := by simpa using hp
  simp [results, h, hp', loadVar, asAddr, go_sem, hc]
section
variable {w : World} {d b g sb sc fb fc s n f : Nat} {D : Dev}
/-- What Resume's loop keeps. -/
def Resuming (d b g sb sc fb fc bd r : Nat) (w : World) (D : Dev) (s n : Nat) (pre : List (ZStep × Nat)) (W : World) : Prop :=
  pre.map Prod.fst = (zlist s n).take pre.length ∧ (zrun ((zlist s n).take pre.length) D).1 = 0 ∧ IsDev W d b g sb sc fb fc (zrun ((zlist s n).take pre.length) D).2 ∧
    Blk W bd 26 #[.pointer (some ⟨d, 0, none⟩)] ∧ (∃ v, Blk W r 32 #[v]) ∧ DFr w W d g sb fb
/-- Where a step has failed. -/
def Resumed (d b g sb sc fb fc r : Nat) (w : World) (D : Dev) (s n : Nat) (c : Code) (_pre : List (ZStep × Nat)) (W : World) : Prop :=
  c = .ret ∧ IsDev W d b g sb sc fb fc (zrun (zlist s n) D).2 ∧ Blk W r 32 #[.int .i64 (zrun (zlist s n) D).1] ∧ DFr w W d g sb fb
theorem resuming_own (bd r : Nat) (B : Nat) (hB : w.heap.size ≤ B) : OwnFrom B (Resuming d b g sb sc fb fc bd r w D s n) := by
  rintro pre W W' row ⟨h1, h2, h3, h4, ⟨v, h5⟩, h6⟩ hg hr
  have hr2 := fun r e => (hr r e).2
  exact ⟨h1, h2, isDev_own h3 hg hr2, h4.grown hg (blk_row h4 hr2), ⟨v, h5.grown hg (blk_row h5 hr2)⟩, h6.grownRow hg (fun r e => by have := (hr r e).1; omega)⟩
theorem resumed_own (r : Nat) (B : Nat) (hB : w.heap.size ≤ B) (c : Code) : OwnFrom B (Resumed d b g sb sc fb fc r w D s n c) := by
  rintro pre W W' row ⟨h1, h3, h5, h6⟩ hg hr
  have hr2 := fun r e => (hr r e).2
  exact ⟨h1, isDev_own h3 hg hr2, h5.grown hg (blk_row h5 hr2), h6.grownRow hg (fun r e => by have := (hr r e).1; omega)⟩
theorem stepBox_own (B : Nat) (x : ZStep × Nat) : OwnFrom B (fun (_ : Unit) W => StepBox x.1 x.2 W) := by
  rintro _ W W' row h hg hr
  have hr2 := fun r e => (hr r e).2
  obtain ⟨x, B⟩ := x
  cases x with
  | store i => exact Blk.grown h hg (blk_row h hr2)
  | write i => exact Blk.grown h hg (blk_row h hr2)
  | flush => trivial
  | burn => trivial

/-- A store into a block of another kind leaves the device. -/
theorem isDev_past {W W' : World} {k : Nat} {t : TypeId} {cs : Array Value} (h : IsDev W d b g sb sc fb fc D) (hk : Blk W k t cs) (ht : t ≠ 62 ∧ t ≠ 84 ∧ t ≠ 9 ∧ t ≠ 4 ∧ t ≠ 82) (hg : W.grownBy W' (some k)) : IsDev W' d b g sb sc fb fc D := by
  obtain ⟨cap, cur, m1, m2, _⟩ := h.mem.body
  obtain ⟨t1, t2, t3, t4, t5⟩ := ht
  refine ⟨h.blk.grown hg (fun e => hk.ne_ h.blk t1 (by cases e; rfl)), h.mem.grown hg (fun e => hk.ne_ m1 t5 (by cases e; rfl)) (fun e => hk.ne_ m2 t2 (by cases e; rfl)), ?_, ?_⟩
  · exact h.srow.kept hg (.inr (own_blk_ne h.srow hk (Ne.symm t3)))
  · exact h.frow.kept hg (.inr (own_blk_ne h.frow hk (Ne.symm t4)))
/-- The result's cell is written, and that is all. -/
theorem err_end {w1 : World} {r : Nat} {v0 : Value} (h1 : IsDev w1 d b g sb sc fb fc D) (hr1 : Blk w1 r 32 #[v0]) (v : Value) :
    IsDev (w1.setCell ⟨r, 0, none⟩ v) d b g sb sc fb fc D ∧ (w1.setCell ⟨r, 0, none⟩ v).cell? ⟨r, 0, none⟩ = some v :=
  ⟨isDev_past h1 hr1 (by decide) (grown_set _ _ _ _), (hr1.set_ 0 v).cell 0⟩

set_option maxRecDepth 100000 in
set_option maxHeartbeats 4000000 in
theorem zResume_any (h : IsDev w d b g sb sc fb fc D) (hok : D.Ok n s f) (hn : n ≤ 1048576) (hs : s ≤ 1048576) :
    Calls Try.prog 18 #[.pointer (some ⟨d, 0, none⟩)] w fun e w' => e = .returned (.int .i64 (zresume D).1) ∧ IsDev w' d b g sb sc fb fc (zresume D).2 ∧ DFr w w' d g sb fb := by
  have hB1 : Below w.heap.size w (w.alloc (.cells #[.int .i64 0] 32)) := (Below.refl _ w).alloc (Nat.le_refl _) _
  have hr1 := Blk.new w 32 #[.int .i64 0]
  obtain ⟨w1, hw1⟩ : ∃ w1, w.alloc (.cells #[.int .i64 0] 32) = w1 := ⟨_, rfl⟩
  have hs1 : w1.heap.size = w.heap.size + 1 := by rw [← hw1]; simp
  rw [hw1] at hB1 hr1
  have h1 : IsDev w1 d b g sb sc fb fc D := h.below hB1
  have HST := Lib.hid (callsIn_wide (n := 4 - 1) |>.2 (zState_any h1))
  have HUP := Lib.hid (callsIn_wide (n := 4 - 1) |>.2 (Up_any h1))
  have HSQ := Lib.hid (callsIn_wide (n := 4 - 1) |>.2 (zsteps_any w1 d))
  refine (callsIn_wide (n := 4)).1 ?_
  refine callsIn_of_wp_marks Try.func18 rfl trivial ?_ rfl
  simp only [Try.ntmps18, List.size_toArray, List.length_cons, List.length_nil, Nat.reduceAdd, Nat.reduceSub, Array.replicate_succ, Array.replicate_zero, List.push_toArray, List.append_toArray, List.nil_append, List.cons_append]
  have y0 : w1.cell? ⟨w.heap.size, 0, none⟩ = some (.int .i64 0) := hr1.cell 0
  have z0 := hr1.frozen 0
  by_cases hz : zstate D = 1
  · rw [hz] at HST
    cases hd : D.down with
    | true =>
      have hres : zresume D = (14, D) := by unfold zresume; rw [if_neg (by omega), if_pos hd]
      rw [hres]
      rw [hd] at HUP
      gi_wp2_with (first | (refine ⟨trivial, ?_⟩; gi_at_call 16; refine HST.out.mono ?_; rintro e w2 ⟨rfl, rfl⟩) | (refine ⟨trivial, ?_⟩; gi_at_call 27; refine HUP.out.mono ?_; rintro e w2 ⟨rfl, rfl⟩))
      obtain ⟨q1, q2⟩ := err_end h1 hr1 (.int .i64 14)
      exact ⟨_, results_err rfl _ _ w.heap.size _ rfl q2, rfl, q1, DFr.ofBelow (hB1.setCell (p := ⟨w.heap.size, 0, none⟩) (Nat.le_refl _) _)⟩
    | false =>
      have hres : zresume D = zrun (zlist s n) D := by unfold zresume; rw [if_neg (by omega), hd, if_neg (by decide), hok.slots, hok.M]
      rw [hres]
      rw [hd] at HUP
      gi_wp2_with (first | (refine ⟨trivial, ?_⟩; gi_at_call 16; refine HST.out.mono ?_; rintro e w2 ⟨rfl, rfl⟩) | (refine ⟨trivial, ?_⟩; gi_at_call 27; refine HUP.out.mono ?_; rintro e w2 ⟨rfl, rfl⟩) | (refine ⟨trivial, ?_⟩; gi_at_call 38; refine HSQ.out.mono ?_; rintro e w2 ⟨rfl, hb2, hB2⟩))
      have h2 : IsDev w2 d b g sb sc fb fc D := h1.below hB2
      have hr2 : Blk w2 w.heap.size 32 #[.int .i64 0] := hr1.below hB2 hr1.lt
      have hF2 : DFr w w2 d g sb fb := DFr.trans (w' := w1) (DFr.ofBelow hB1) (DFr.ofBelow hB2)
      have hle : w.heap.size ≤ w2.heap.size := hF2.size
      rw [hs1] at hb2
      refine wpIn_rangeFunc_steps rfl (by decide) (gf := 61) (lb := #[.pointer (some ⟨w.heap.size + 1, 0, none⟩)]) rfl trivial (enters_of Try.func61 (by kernel_rfl) rfl)
        (zsteps1_seq 3 (by decide) d b g sb sc fb fc (w.heap.size + 1) s s n hs hn hs) (fun _ => rfl)
        (Resuming d b g sb sc fb fc (w.heap.size + 1) w.heap.size w D s n) (Resumed d b g sb sc fb fc w.heap.size w D s n) (resuming_own _ _ _ hle) (resumed_own _ _ hle)
        (fun pre W1 hI => ⟨hI.2.2.2.1, _, hI.2.2.1, (zrun_ok _ hok).slots, (zrun_ok _ hok).M, fun e => by subst e; show zslots D = s; unfold zslots; rw [hd, if_neg (by decide)]; exact hok.slots⟩)
        (fun pre x => by
          rintro _ W W' row ⟨k1, k2⟩ hg hr
          exact ⟨k1, stepBox_own _ x () W W' row k2 hg hr⟩)
        ⟨rfl, rfl, h2, hb2, ⟨_, hr2⟩, hF2⟩
        (fun x => { tmps := #[.pointer (some ⟨d, 0, none⟩), undef, .pointer (some ⟨w.heap.size, 0, none⟩), stepV d (w.heap.size + 1) x.1 x.2, undef, .pointer (some ⟨d, 0, none⟩), .int .i64 1, .bool false, .pointer (some ⟨d, 0, none⟩), .bool true, .bool false, .pointer (some ⟨d, 0, none⟩), .func (.func 61) #[] #[.pointer (some ⟨w.heap.size + 1, 0, none⟩)], stepV d (w.heap.size + 1) x.1 x.2, undef, undef, undef, undef, undef], defers := [] }) ?assign ?body ?done ?stop
      case assign =>
        intro l x W K hK
        gi_wp2
        exact hK
      case body =>
        rintro l pre ⟨x, B⟩ W ⟨j1, j2, j3, j4, ⟨v, j5⟩, j6⟩ ⟨k1, k2⟩
        have hok1 := zrun_ok ((zlist s n).take pre.length) hok
        have ht := zrun_take (zlist s n) D pre.length x k1 j2
        have hst := zrun_stop (zlist s n) D pre.length x k1 j2
        have hlen : (pre ++ [(x, B)]).length = pre.length + 1 := by simp
        have hmap := map_snoc_take B j1 k1
        have c5 : W.cell? ⟨w.heap.size, 0, none⟩ = some v := j5.cell 0
        have f5 := j5.frozen 0
        generalize hD1 : (zrun ((zlist s n).take pre.length) D).2 = D1 at j3 hok1 ht hst
        have hlf : -1 ≤ D1.left ∧ D1.left ≤ 9223372036854775807 := hok1.left
        have hgo : Hid (∀ W', (zdo x D1).1 = 0 → IsDev W' d b g sb sc fb fc (zdo x D1).2 → DFr W W' d g sb fb → KeepsOthers W W' ∧ Resuming d b g sb sc fb fc (w.heap.size + 1) w.heap.size w D s n (pre ++ [(x, B)]) W') := by
          intro W' h0 hI hF
          refine ⟨hF.others j3, ?_, ?_, ?_, keep_box hF j3 j4 (by decide), ⟨v, keep_box hF j3 j5 (by decide)⟩, DFr.trans (w' := W) j6 hF⟩
          · rw [hlen]; exact hmap
          · rw [hlen, ht]; exact h0
          · rw [hlen, ht]; exact hI
        have hre : Hid (∀ W', (zdo x D1).1 ≠ 0 → IsDev W' d b g sb sc fb fc (zdo x D1).2 → DFr W W' d g sb fb → W'.cell? ⟨w.heap.size, 0, none⟩ = some v ∧ W'.frozen? ⟨w.heap.size, 0, none⟩ = false ∧
            KeepsOthers W (W'.setCell ⟨w.heap.size, 0, none⟩ (.int .i64 (zdo x D1).1)) ∧ Resumed d b g sb sc fb fc w.heap.size w D s n .ret (pre ++ [(x, B)]) (W'.setCell ⟨w.heap.size, 0, none⟩ (.int .i64 (zdo x D1).1))) := by
          intro W' h0 hI hF
          have j7 := keep_box hF j3 j5 (by decide)
          have hst2 := hst h0
          refine ⟨j7.cell 0, j7.frozen 0, (hF.others j3).trans (KeepsOthers.setCell _ _ _), rfl, ?_, ?_, ?_⟩
          · rw [hst2]; exact (err_end hI j7 _).1
          · rw [hst2]; exact j7.set_ 0 _
          · exact (DFr.trans (w' := W) j6 hF).grownRow (grown_set _ _ _ _) (fun r e => by cases e; omega)
        clear ht hst hlen hmap j1 j2 k1
        cases x with
        | store i =>
          have HC : Hid (Calls Try.prog 63 #[.pointer (some ⟨w.heap.size + 1, 0, none⟩), .pointer (some ⟨B, 0, none⟩)] W fun e w' => e = .returned (.int .i64 (zdo (.store i) D1).1) ∧ IsDev w' d b g sb sc fb fc (zdo (.store i) D1).2 ∧ DFr W w' d g sb fb) := zst1_any j3 hlf _ _ i j4 k2
          clear j3 j4 j5 j6 k2 hok1
          dsimp only [stepV]
          generalize (zdo (.store i) D1) = R at HC hgo hre
          obtain ⟨e0, R2⟩ := R
          dsimp only at HC hgo hre
          by_cases h0 : e0 = 0
          · subst h0
            gi_wp2_with (refine ⟨trivial, ?_⟩; gi_at_call 63; refine (CallsIn.inRound l (callsIn_wide.2 HC.out)).mono ?_; rintro e w3 ⟨rfl, hI, hF⟩)
            exact hgo.out _ (by trivial) hI hF
          · have dz : (e0 == 0) = false := by simpa using h0
            have H0 := Lib.hid h0
            clear h0
            gi_wp2_with (refine ⟨trivial, ?_⟩; gi_at_call 63; refine (CallsIn.inRound l (callsIn_wide.2 HC.out)).mono ?_; rintro e w3 ⟨rfl, hI, hF⟩; obtain ⟨a1, a2, a3, a4⟩ := hre.out _ H0.out hI hF)
            exact ⟨a3, a4⟩
        | write i =>
          have HC : Hid (Calls Try.prog 66 #[.pointer (some ⟨w.heap.size + 1, 0, none⟩), .pointer (some ⟨B, 0, none⟩)] W fun e w' => e = .returned (.int .i64 (zdo (.write i) D1).1) ∧ IsDev w' d b g sb sc fb fc (zdo (.write i) D1).2 ∧ DFr W w' d g sb fb) := zst2_any j3 hlf _ _ i j4 k2
          clear j3 j4 j5 j6 k2 hok1
          dsimp only [stepV]
          generalize (zdo (.write i) D1) = R at HC hgo hre
          obtain ⟨e0, R2⟩ := R
          dsimp only at HC hgo hre
          by_cases h0 : e0 = 0
          · subst h0
            gi_wp2_with (refine ⟨trivial, ?_⟩; gi_at_call 66; refine (CallsIn.inRound l (callsIn_wide.2 HC.out)).mono ?_; rintro e w3 ⟨rfl, hI, hF⟩)
            exact hgo.out _ (by trivial) hI hF
          · have dz : (e0 == 0) = false := by simpa using h0
            have H0 := Lib.hid h0
            clear h0
            gi_wp2_with (refine ⟨trivial, ?_⟩; gi_at_call 66; refine (CallsIn.inRound l (callsIn_wide.2 HC.out)).mono ?_; rintro e w3 ⟨rfl, hI, hF⟩; obtain ⟨a1, a2, a3, a4⟩ := hre.out _ H0.out hI hF)
            exact ⟨a3, a4⟩
        | flush =>
          have HC : Hid (Calls Try.prog 30 #[.pointer (some ⟨d, 0, none⟩)] W fun e w' => e = .returned (.int .i64 (zdo .flush D1).1) ∧ IsDev w' d b g sb sc fb fc (zdo .flush D1).2 ∧ DFr W w' d g sb fb) := dFlush_any j3 hlf hok1.fine (by rw [hok1.M]; exact hn)
          clear j3 j4 j5 j6 k2 hok1
          dsimp only [stepV]
          generalize (zdo .flush D1) = R at HC hgo hre
          obtain ⟨e0, R2⟩ := R
          dsimp only at HC hgo hre
          by_cases h0 : e0 = 0
          · subst h0
            gi_wp2_with (refine ⟨trivial, ?_⟩; gi_at_call 30; refine (CallsIn.inRound l (callsIn_wide.2 HC.out)).mono ?_; rintro e w3 ⟨rfl, hI, hF⟩)
            exact hgo.out _ (by trivial) hI hF
          · have dz : (e0 == 0) = false := by simpa using h0
            have H0 := Lib.hid h0
            clear h0
            gi_wp2_with (refine ⟨trivial, ?_⟩; gi_at_call 30; refine (CallsIn.inRound l (callsIn_wide.2 HC.out)).mono ?_; rintro e w3 ⟨rfl, hI, hF⟩; obtain ⟨a1, a2, a3, a4⟩ := hre.out _ H0.out hI hF)
            exact ⟨a3, a4⟩
        | burn =>
          have HC : Hid (Calls Try.prog 67 #[.pointer (some ⟨w.heap.size + 1, 0, none⟩)] W fun e w' => e = .returned (.int .i64 (zdo .burn D1).1) ∧ IsDev w' d b g sb sc fb fc (zdo .burn D1).2 ∧ DFr W w' d g sb fb) := zst3_any j3 hlf _ j4
          clear j3 j4 j5 j6 k2 hok1
          dsimp only [stepV]
          generalize (zdo .burn D1) = R at HC hgo hre
          obtain ⟨e0, R2⟩ := R
          dsimp only at HC hgo hre
          by_cases h0 : e0 = 0
          · subst h0
            gi_wp2_with (refine ⟨trivial, ?_⟩; gi_at_call 67; refine (CallsIn.inRound l (callsIn_wide.2 HC.out)).mono ?_; rintro e w3 ⟨rfl, hI, hF⟩)
            exact hgo.out _ (by trivial) hI hF
          · have dz : (e0 == 0) = false := by simpa using h0
            have H0 := Lib.hid h0
            clear h0
            gi_wp2_with (refine ⟨trivial, ?_⟩; gi_at_call 67; refine (CallsIn.inRound l (callsIn_wide.2 HC.out)).mono ?_; rintro e w3 ⟨rfl, hI, hF⟩; obtain ⟨a1, a2, a3, a4⟩ := hre.out _ H0.out hI hF)
            exact ⟨a3, a4⟩
      case done =>
        rintro E xs W hE hxs ⟨j1, j2, j3, j4, ⟨v, j5⟩, j6⟩ hK
        have c5 : W.cell? ⟨w.heap.size, 0, none⟩ = some v := j5.cell 0
        have f5 := j5.frozen 0
        have je : (zlist s n).take xs.length = zlist s n := by
          have hl : xs.length = (zlist s n).length := by rw [← hxs, List.length_map]
          rw [hl, List.take_length]
        rw [je] at j2 j3
        gi_wp2
        refine ⟨by simp, .inl ⟨_, _, rfl, run_takeDeferred ((KeepsOthers.setCell W ⟨w.heap.size, 0, none⟩ (.int .i64 0)).same E _ hK rfl), ?_⟩⟩
        have hK2 := (KeepsOthers.setCell W ⟨w.heap.size, 0, none⟩ (.int .i64 0)).same E _ hK rfl
        have q1 := (err_end j3 j5 (.int .i64 0)).1
        have q2 := j5.set_ 0 (.int .i64 0)
        have q3 : DFr w (W.setCell ⟨w.heap.size, 0, none⟩ (.int .i64 0)) d g sb fb := j6.grownRow (grown_set _ _ _ _) (fun r e => by cases e; omega)
        have hgp := grownBy_putObj' (W.setCell ⟨w.heap.size, 0, none⟩ (.int .i64 0)) E (.deferred none)
        have hrr : ∀ r, some E = some r → ∃ o : Obj, (W.setCell ⟨w.heap.size, 0, none⟩ (.int .i64 0)).heap[r]? = some o ∧ o.isCells = false := fun r e => by cases e; exact ⟨_, hK2, rfl⟩
        exact ⟨_, results_err rfl _ _ w.heap.size _ rfl ((q2.grown hgp (blk_row q2 hrr)).cell 0), by rw [j2]; rfl, isDev_own q1 hgp hrr, q3.grownRow hgp (fun r e => by cases e; omega)⟩
      case stop =>
        rintro E c pre W hE ⟨rfl, j3, j5, j6⟩ hK
        gi_wp2
        refine ⟨by simp, .inl ⟨_, _, rfl, run_takeDeferred hK, ?_⟩⟩
        have hgp := grownBy_putObj' W E (.deferred none)
        have hrr : ∀ r, some E = some r → ∃ o : Obj, W.heap[r]? = some o ∧ o.isCells = false := fun r e => by cases e; exact ⟨_, hK, rfl⟩
        exact ⟨_, results_err rfl _ _ w.heap.size _ rfl ((j5.grown hgp (blk_row j5 hrr)).cell 0), rfl, isDev_own j3 hgp hrr, j6.grownRow hgp (fun r e => by cases e; omega)⟩
  · have dz : (zstate D == 1) = false := by simpa using hz
    have hres : zresume D = (0, D) := by unfold zresume; rw [if_pos hz]
    rw [hres]
    gi_wp2_with (refine ⟨trivial, ?_⟩; gi_at_call 16; refine HST.out.mono ?_; rintro e w2 ⟨rfl, rfl⟩)
    obtain ⟨q1, q2⟩ := err_end h1 hr1 (.int .i64 0)
    exact ⟨_, results_err rfl _ _ w.heap.size _ rfl q2, rfl, q1, DFr.ofBelow (hB1.setCell (p := ⟨w.heap.size, 0, none⟩) (Nat.le_refl _) _)⟩
end
end Go.Proofs.Ytgenifcikfbfhaa
