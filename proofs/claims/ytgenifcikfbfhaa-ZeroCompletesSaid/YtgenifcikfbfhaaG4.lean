/-
  Layer 23 (device): Tick, Image, Restore, Mount, Raise.
  Layer 23 (device): Flush (a method value is its step); Raise.
  Layer 23 (device): Raise. (Written by a small program.)
-/
import Derived.Test.YtgenifcikfbfhaaG3
namespace Go.Proofs.Ytgenifcikfbfhaa
open Go.RowKit Go.Shelf
attribute [local go_sem] Oper.semAt_some

section
variable {w : World} {d b g sb sc fb fc : Nat} {D : Dev}
set_option maxRecDepth 100000 in
set_option maxHeartbeats 1600000 in
theorem dTick_any (h : IsDev w d b g sb sc fb fc D) (hc : 0 ≤ D.clock ∧ D.clock ≤ 1099511627776) (n : Int) :
    Calls Try.prog 34 #[.pointer (some ⟨d, 0, none⟩), .int .i64 n] w fun e w' => e = .returned (.int .i64 (if n < 0 ∨ 1099511627776 - D.clock < n then 1 else 0)) ∧ IsDev w' d b g sb sc fb fc (if n < 0 ∨ 1099511627776 - D.clock < n then D else { D with clock := D.clock + n }) ∧ DFr w w' d g sb fb := by
  have hf := h.blk.frozen 3
  have c3 := h.blk.cell 3
  have H := Lib.hid h
  clear h
  have hw1 : wrap64 (1099511627776 - D.clock) = 1099511627776 - D.clock := by unfold wrap64; omega
  by_cases h1 : n < 0
  · rw [if_pos (.inl h1), if_pos (.inl h1)]
    have d1 : decide (n < 0) = true := decide_eq_true h1
    clear h1 hc
    go_enter Try.func34, Try.ntmps34
    go_wp2_with fail
    go_ret
    exact ⟨rfl, H.out, DFr.refl _⟩
  · have d1 : decide (n < 0) = false := decide_eq_false h1
    by_cases h2 : 1099511627776 - D.clock < n
    · rw [if_pos (.inr h2), if_pos (.inr h2)]
      have d2 : decide (1099511627776 - D.clock < n) = true := decide_eq_true h2
      clear h1 h2 hc
      go_enter Try.func34, Try.ntmps34
      go_wp2_with fail
      go_ret
      exact ⟨rfl, H.out, DFr.refl _⟩
    · have hno : ¬ (n < 0 ∨ 1099511627776 - D.clock < n) := by omega
      rw [if_neg hno, if_neg hno]
      have d2 : decide (1099511627776 - D.clock < n) = false := decide_eq_false h2
      have hw2 : wrap64 (D.clock + n) = D.clock + n := by unfold wrap64; omega
      clear h1 h2 hc hno
      go_enter Try.func34, Try.ntmps34
      go_wp2_with fail
      go_ret
      have hg := grown_set w d 3 (.int .i64 (D.clock + n))
      exact ⟨rfl, H.out.scal hg rfl rfl rfl (H.out.blk.set_ 3 (.int .i64 (D.clock + n))), DFr.ofGrown hg (.inl rfl)⟩
set_option maxRecDepth 100000 in
set_option maxHeartbeats 1600000 in
theorem dImage_any (h : IsDev w d b g sb sc fb fc D) (hN : D.M.length ≤ 1048576) :
    Calls Try.prog 12 #[.pointer (some ⟨d, 0, none⟩)] w fun e w' => ∃ v, e = .returned v ∧ NewTexts w w' v (D.M.map Sec.now) := by
  obtain ⟨c0, c1, c2, c3, c4, c5, c6⟩ := h.cells
  have HR := Lib.hid (Image_any h.mem hN)
  clear h
  go_enter Try.func12, Try.ntmps12
  go_wp2_with (first | (go_at_call 32; refine HR.out.mono ?_; rintro e w1 ⟨v, rfl, hT⟩; have HT := Lib.hid hT; clear hT))
  go_ret
  exact ⟨_, rfl, HT.out⟩
set_option maxRecDepth 100000 in
set_option maxHeartbeats 1600000 in
theorem dRestore_any (h : IsDev w d b g sb sc fb fc D) (v : Value) (I : List ByteArray) (hv : Texts w v I) (hN : I.length ≤ 1048576) :
    Calls Try.prog 20 #[.pointer (some ⟨d, 0, none⟩), v] w fun e w' => e = .returned (.int .i64 (if loadErr I D.M then 1 else 0)) ∧ IsDev w' d b g sb sc fb fc { D with M := if loadErr I D.M then D.M else loadM I D.M } ∧ DFr w w' d g sb fb := by
  obtain ⟨c0, c1, c2, c3, c4, c5, c6⟩ := h.cells
  have HR := Lib.hid (Load_any h.mem v I hv hN)
  have H := Lib.hid h
  generalize (if loadErr I D.M then D.M else loadM I D.M) = M2 at HR ⊢
  generalize (if loadErr I D.M then 1 else 0 : Int) = E at HR ⊢
  clear h hv
  go_enter Try.func20, Try.ntmps20
  go_wp2_with (first | (go_at_call 42; refine HR.out.mono ?_; rintro e w1 ⟨rfl, hM, hg⟩))
  go_ret
  exact ⟨rfl, H.out.turn hM hg, DFr.ofGrown hg (.inr (.inl rfl))⟩
set_option maxRecDepth 100000 in
set_option maxHeartbeats 1600000 in
theorem dMount_any (h : IsDev w d b g sb sc fb fc D) (hf : Fine D.M) (hN : D.M.length ≤ 1048576) (v : Value) (P : List Int) (pb po : Nat) (hv : RestAt v P.length 0 pb po) (hpg : pb ≠ g)
    (hc : ∀ i x, P[i]? = some x → w.cell? ⟨pb, po + i, none⟩ = some (.int .i64 x)) :
    Calls Try.prog 9 #[.pointer (some ⟨d, 0, none⟩), v] w fun e w' => e = .returned (.tuple #[]) ∧ IsDev w' d b g sb sc fb fc { D with M := doneM (pick P) D.M (idxs Sec.dirty D.M), down := false, left := -1 } ∧ DFr w w' d g sb fb := by
  obtain ⟨c0, c1, c2, c3, c4, c5, c6⟩ := h.cells
  have HR := Lib.hid (Cut_any h.mem hf hN v P pb po hv hpg hc)
  have H := Lib.hid h
  generalize doneM (pick P) D.M (idxs Sec.dirty D.M) = M2 at HR ⊢
  clear h hv hc hf
  go_enter Try.func9, Try.ntmps9
  go_wp2_with (first | (go_at_call 31; refine HR.out.mono ?_; rintro e w1 ⟨rfl, hM, hg⟩; have h1 := H.out.turn hM hg; have y5 := h1.blk.cell 5; have y6 := h1.blk.cell 6; have z5 := h1.blk.frozen 5; have z6 := h1.blk.frozen 6; have H1 := Lib.hid h1; clear h1))
  go_end0
  have hg2 := grown_trans (grown_set w1 d 5 (.bool false)) (grown_set (w1.setCell ⟨d, 5, none⟩ (.bool false)) d 6 (.int .i64 (-1)))
  exact ⟨by simp, H1.out.scal hg2 rfl rfl rfl ((H1.out.blk.set_ 5 (.bool false)).set_ 6 (.int .i64 (-1))), (DFr.ofGrown hg (.inr (.inl rfl))).trans (DFr.ofGrown hg2 (.inl rfl))⟩
end
end Go.Proofs.Ytgenifcikfbfhaa
namespace Go.Proofs.Ytgenifcikfbfhaa
open Go.RowKit Go.Shelf
attribute [local go_sem] Oper.semAt_some

section
variable {w w' w2 : World} {d b g sb sc fb fc : Nat} {D : Dev}
set_option maxRecDepth 100000 in
set_option maxHeartbeats 4000000 in
theorem step_okb {Q : World → Prop} (h : IsDev w d b g sb sc fb fc D) (hd : D.down = false) (hl : D.left ≠ 0) (hr : -1 ≤ D.left ∧ D.left ≤ 9223372036854775807) (fi : Nat) (x : Value) (eg : ∀ args w, (callFunc fi args).run Try.prog w = .ok (.enter fi args) w)
    (HC : ∀ w2, IsDev w2 d b g sb sc fb fc { D with left := leftNext D.left } → w.grownBy w2 (some d) → Calls Try.prog fi #[x] w2 fun e w' => e = .returned (.tuple #[]) ∧ Q w') :
    Calls Try.prog 39 #[.pointer (some ⟨d, 0, none⟩), .int .i64 0, .func (.func fi) #[x] #[]] w fun e w' => e = .returned (.int .i64 0) ∧ Q w' := by
  have hf := h.blk.frozen
  obtain ⟨c0, c1, c2, c3, c4, c5, c6⟩ := h.cells
  rw [hd] at c5
  have hb : (D.left == 0) = false := beq_f hl
  have hw64 : wrap64 (D.left - 1) = D.left - 1 := by unfold wrap64; omega
  have H := Lib.hid h
  have Hc := Lib.hid HC
  clear hd hl h hr HC
  go_enter Try.func39, Try.ntmps39
  go_wp2_with fail
  have hg := grown_set w d 6 (.int .i64 (leftNext D.left))
  have hD : IsDev (w.setCell ⟨d, 6, none⟩ (.int .i64 (leftNext D.left))) d b g sb sc fb fc { D with left := leftNext D.left } := H.out.scal hg rfl rfl rfl (by
    have := H.out.blk.set_ 6 (.int .i64 (leftNext D.left))
    exact this)
  refine (Hc.out _ hD hg).mono ?_
  rintro e w' ⟨rfl, hQ⟩
  have HQ := Lib.hid hQ
  clear hQ
  go_wp2_with fail
  go_ret
  exact ⟨rfl, HQ.out⟩
theorem step_anyb (h : IsDev w d b g sb sc fb fc D) (hr : -1 ≤ D.left ∧ D.left ≤ 9223372036854775807) (check : Int) (fi : Nat) (x : Value) (eg : ∀ args w, (callFunc fi args).run Try.prog w = .ok (.enter fi args) w) (f : Dev → Dev)
    (HC : check = 0 → ∀ w2, IsDev w2 d b g sb sc fb fc { D with left := leftNext D.left } → w.grownBy w2 (some d) → Calls Try.prog fi #[x] w2 fun e w' => e = .returned (.tuple #[]) ∧ IsDev w' d b g sb sc fb fc (f { D with left := leftNext D.left }) ∧ DFr w2 w' d g sb fb) :
    Calls Try.prog 39 #[.pointer (some ⟨d, 0, none⟩), .int .i64 check, .func (.func fi) #[x] #[]] w fun e w' => e = .returned (.int .i64 (D.dstep check f).1) ∧ IsDev w' d b g sb sc fb fc (D.dstep check f).2 ∧ DFr w w' d g sb fb := by
  unfold Dev.dstep
  by_cases hd : D.down = true
  · rw [if_pos hd]
    refine (step_down h hd check _).mono ?_
    rintro e w' ⟨rfl, rfl⟩
    exact ⟨rfl, h, DFr.refl _⟩
  · rw [if_neg hd]
    have hd' : D.down = false := by simpa using hd
    by_cases hc : check ≠ 0
    · rw [if_pos hc]
      refine (step_chk h hd' check hc _).mono ?_
      rintro e w' ⟨rfl, rfl⟩
      exact ⟨rfl, h, DFr.refl _⟩
    · rw [if_neg hc]
      have hc' : check = 0 := by simpa using hc
      subst hc'
      by_cases hl : D.left = 0
      · rw [if_pos hl]
        refine (step_fail h hd' hl _).mono ?_
        rintro e w' ⟨rfl, h1, h2⟩
        exact ⟨rfl, h1, DFr.ofGrown h2 (.inl rfl)⟩
      · rw [if_neg hl]
        refine (step_okb (Q := fun w' => IsDev w' d b g sb sc fb fc (f { D with left := leftNext D.left }) ∧ DFr w w' d g sb fb) h hd' hl hr fi x eg (fun w2 h1 h2 => (HC rfl w2 h1 h2).mono ?_)).mono ?_
        · rintro e w' ⟨rfl, h3, h4⟩
          exact ⟨rfl, h3, (DFr.ofGrown h2 (.inl rfl)).trans h4⟩
        · rintro e w' ⟨rfl, h3, h4⟩
          exact ⟨rfl, h3, h4⟩

/-- The closures' entries. -/
theorem eg_flush (args : Array Value) (w : World) : (callFunc 53 args).run Try.prog w = .ok (.enter 53 args) w := by simp [go_sem]
theorem flush_step (h : IsDev w d b g sb sc fb fc D) (hr : -1 ≤ D.left ∧ D.left ≤ 9223372036854775807) (hf : Fine D.M) (hN : D.M.length ≤ 1048576) :
    Calls Try.prog 39 #[.pointer (some ⟨d, 0, none⟩), .int .i64 0, .func (.func 53) #[.pointer (some ⟨b, 0, none⟩)] #[]] w fun e w' => e = .returned (.int .i64 (D.dstep 0 fun D => { D with M := doneM (fun _ => 64) D.M (idxs Sec.dirty D.M) }).1) ∧
      IsDev w' d b g sb sc fb fc (D.dstep 0 fun D => { D with M := doneM (fun _ => 64) D.M (idxs Sec.dirty D.M) }).2 ∧ DFr w w' d g sb fb := by
  refine step_anyb h hr _ _ _ eg_flush _ (fun hc w2 h2 hg => ?_)
  refine (Flush_any h2.mem hf hN).mono ?_
  rintro e w' ⟨rfl, h3, h4⟩
  exact ⟨rfl, h2.turn h3 h4, DFr.ofGrown h4 (.inr (.inl rfl))⟩
set_option maxRecDepth 100000 in
set_option maxHeartbeats 1600000 in
theorem dFlush_any (h : IsDev w d b g sb sc fb fc D) (hr : -1 ≤ D.left ∧ D.left ≤ 9223372036854775807) (hf : Fine D.M) (hN : D.M.length ≤ 1048576) :
    Calls Try.prog 30 #[.pointer (some ⟨d, 0, none⟩)] w fun e w' => e = .returned (.int .i64 (D.dstep 0 fun D => { D with M := doneM (fun _ => 64) D.M (idxs Sec.dirty D.M) }).1) ∧
      IsDev w' d b g sb sc fb fc (D.dstep 0 fun D => { D with M := doneM (fun _ => 64) D.M (idxs Sec.dirty D.M) }).2 ∧ DFr w w' d g sb fb := by
  obtain ⟨c0, c1, c2, c3, c4, c5, c6⟩ := h.cells
  have HS := Lib.hid (flush_step h hr hf hN)
  generalize (D.dstep 0 fun D => { D with M := doneM (fun _ => 64) D.M (idxs Sec.dirty D.M) }) = R at HS ⊢
  obtain ⟨r, E⟩ := R
  dsimp only at HS ⊢
  clear h hr hf
  go_enter Try.func30, Try.ntmps30
  go_wp2_with (first | (go_at_call 39; refine HS.out.mono ?_; rintro e w' ⟨rfl, hE, hF⟩))
  go_ret
  exact ⟨rfl, hE, hF⟩
end
end Go.Proofs.Ytgenifcikfbfhaa
namespace Go.Proofs.Ytgenifcikfbfhaa
open Go.RowKit Go.Shelf
attribute [local go_sem] Oper.semAt_some

section
variable {w : World} {d b g sb sc fb fc : Nat} {D : Dev}
theorem below_drewN {B : Nat} {a w : World} (h : Below B a w) (q : Nat) : Below B a (w.drewN q) := ⟨h.os, h.tape, h.output, h.size, h.block⟩
theorem blk_drewN {w : World} {k : Nat} {t : TypeId} {cs : Array Value} (h : Blk w k t cs) (q : Nat) : Blk (w.drewN q) k t cs := h
set_option maxRecDepth 100000 in
set_option maxHeartbeats 1600000 in
theorem dRaise_neg (h : IsDev w d b g sb sc fb fc D) (hr : -1 ≤ D.left ∧ D.left ≤ 9223372036854775807) (n : Int) (hi : n < 0) :
    Calls Try.prog 33 #[.pointer (some ⟨d, 0, none⟩), .int .i64 n] w fun e w' => e = .returned (.int .i64 (D.dstep 1 fun D => { D with counter := n }).1) ∧
      IsDev w' d b g sb sc fb fc (D.dstep 1 fun D => { D with counter := n }).2 ∧ DFr w w' d g sb fb := by
  have hs0 : (w.alloc (.cells #[.pointer (some ⟨d, 0, none⟩)] 26)).heap.size = w.heap.size + 1 := by simp
  have q1 : Blk ((w.alloc (.cells #[.pointer (some ⟨d, 0, none⟩)] 26)).alloc (.cells #[.int .i64 n] 3)) w.heap.size 26 #[.pointer (some ⟨d, 0, none⟩)] := (Blk.new w _ _).alloc _
  have q2 : Blk ((w.alloc (.cells #[.pointer (some ⟨d, 0, none⟩)] 26)).alloc (.cells #[.int .i64 n] 3)) (w.heap.size + 1) 3 #[.int .i64 n] := by rw [← hs0]; exact Blk.new _ _ _
  have hB : Below w.heap.size w ((w.alloc (.cells #[.pointer (some ⟨d, 0, none⟩)] 26)).alloc (.cells #[.int .i64 n] 3)) := ((Below.refl _ w).alloc (Nat.le_refl _) _).alloc (by omega) _
  have H := Lib.hid h
  clear h hs0
  have d1 : decide (0 ≤ n) = false := decide_eq_false (by omega)
  clear hi
  go_enter Try.func33, Try.ntmps33
  go_wp2_with (first | (go_at_call 40; refine (valid_any _ false).mono ?_; rintro e w1 ⟨rfl, rfl⟩))
  generalize ((w.alloc (.cells #[.pointer (some ⟨d, 0, none⟩)] 26)).alloc (.cells #[.int .i64 n] 3)) = W at q1 q2 hB ⊢
  have hst : ∀ q, Hid (Calls Try.prog 39 #[.pointer (some ⟨d, 0, none⟩), .int .i64 1, .func (.func 57) #[] #[.pointer (some ⟨w.heap.size + 1, 0, none⟩), .pointer (some ⟨w.heap.size, 0, none⟩)]] (W.drewN q) fun e w' => e = .returned (.int .i64 (D.dstep 1 fun D => { D with counter := n }).1) ∧
      IsDev w' d b g sb sc fb fc (D.dstep 1 fun D => { D with counter := n }).2 ∧ DFr (W.drewN q) w' d g sb fb) := fun q => raise_step (H.out.below (below_drewN hB q)) hr 1 w.heap.size (w.heap.size + 1) n (blk_drewN q1 q) (blk_drewN q2 q)
  have hD := H.out.below hB
  have x1 := q1.cell 0
  have x2 := q2.cell 0
  have x3 := hD.blk.cell 2
  have HB := Lib.hid hB
  clear hD hB q1 q2 hr H
  go_quiet (fail)
  have HST := hst nq
  have HBQ := Lib.hid (below_drewN HB.out nq)
  have y1 : (W.drewN nq).cell? ⟨w.heap.size, 0, none⟩ = some (.pointer (some ⟨d, 0, none⟩)) := x1
  have y2 : (W.drewN nq).cell? ⟨w.heap.size + 1, 0, none⟩ = some (.int .i64 n) := x2
  clear hst x1 x2 x3 HB
  generalize W.drewN nq = W2 at HST HBQ y1 y2 ⊢
  go_wp2_with (first | (go_at_call 39; refine HST.out.mono ?_; rintro e w' ⟨rfl, hE, hF⟩))
  go_ret
  exact ⟨rfl, hE, (DFr.ofBelow HBQ.out).trans hF⟩
set_option maxRecDepth 100000 in
set_option maxHeartbeats 1600000 in
theorem dRaise_big (h : IsDev w d b g sb sc fb fc D) (hr : -1 ≤ D.left ∧ D.left ≤ 9223372036854775807) (n : Int) (hi : 0 ≤ n ∧ 4611686018427387904 < n) :
    Calls Try.prog 33 #[.pointer (some ⟨d, 0, none⟩), .int .i64 n] w fun e w' => e = .returned (.int .i64 (D.dstep 1 fun D => { D with counter := n }).1) ∧
      IsDev w' d b g sb sc fb fc (D.dstep 1 fun D => { D with counter := n }).2 ∧ DFr w w' d g sb fb := by
  have hs0 : (w.alloc (.cells #[.pointer (some ⟨d, 0, none⟩)] 26)).heap.size = w.heap.size + 1 := by simp
  have q1 : Blk ((w.alloc (.cells #[.pointer (some ⟨d, 0, none⟩)] 26)).alloc (.cells #[.int .i64 n] 3)) w.heap.size 26 #[.pointer (some ⟨d, 0, none⟩)] := (Blk.new w _ _).alloc _
  have q2 : Blk ((w.alloc (.cells #[.pointer (some ⟨d, 0, none⟩)] 26)).alloc (.cells #[.int .i64 n] 3)) (w.heap.size + 1) 3 #[.int .i64 n] := by rw [← hs0]; exact Blk.new _ _ _
  have hB : Below w.heap.size w ((w.alloc (.cells #[.pointer (some ⟨d, 0, none⟩)] 26)).alloc (.cells #[.int .i64 n] 3)) := ((Below.refl _ w).alloc (Nat.le_refl _) _).alloc (by omega) _
  have H := Lib.hid h
  clear h hs0
  have d1 : decide (0 ≤ n) = true := decide_eq_true hi.1
  have d2 : decide (n ≤ 4611686018427387904) = false := decide_eq_false (by omega)
  clear hi
  go_enter Try.func33, Try.ntmps33
  go_wp2_with (first | (go_at_call 40; refine (valid_any _ false).mono ?_; rintro e w1 ⟨rfl, rfl⟩))
  generalize ((w.alloc (.cells #[.pointer (some ⟨d, 0, none⟩)] 26)).alloc (.cells #[.int .i64 n] 3)) = W at q1 q2 hB ⊢
  have hst : ∀ q, Hid (Calls Try.prog 39 #[.pointer (some ⟨d, 0, none⟩), .int .i64 1, .func (.func 57) #[] #[.pointer (some ⟨w.heap.size + 1, 0, none⟩), .pointer (some ⟨w.heap.size, 0, none⟩)]] (W.drewN q) fun e w' => e = .returned (.int .i64 (D.dstep 1 fun D => { D with counter := n }).1) ∧
      IsDev w' d b g sb sc fb fc (D.dstep 1 fun D => { D with counter := n }).2 ∧ DFr (W.drewN q) w' d g sb fb) := fun q => raise_step (H.out.below (below_drewN hB q)) hr 1 w.heap.size (w.heap.size + 1) n (blk_drewN q1 q) (blk_drewN q2 q)
  have hD := H.out.below hB
  have x1 := q1.cell 0
  have x2 := q2.cell 0
  have x3 := hD.blk.cell 2
  have HB := Lib.hid hB
  clear hD hB q1 q2 hr H
  go_quiet (fail)
  have HST := hst nq
  have HBQ := Lib.hid (below_drewN HB.out nq)
  have y1 : (W.drewN nq).cell? ⟨w.heap.size, 0, none⟩ = some (.pointer (some ⟨d, 0, none⟩)) := x1
  have y2 : (W.drewN nq).cell? ⟨w.heap.size + 1, 0, none⟩ = some (.int .i64 n) := x2
  clear hst x1 x2 x3 HB
  generalize W.drewN nq = W2 at HST HBQ y1 y2 ⊢
  go_wp2_with (first | (go_at_call 39; refine HST.out.mono ?_; rintro e w' ⟨rfl, hE, hF⟩))
  go_ret
  exact ⟨rfl, hE, (DFr.ofBelow HBQ.out).trans hF⟩
set_option maxRecDepth 100000 in
set_option maxHeartbeats 1600000 in
theorem dRaise_old (h : IsDev w d b g sb sc fb fc D) (hr : -1 ≤ D.left ∧ D.left ≤ 9223372036854775807) (n : Int) (hi : 0 ≤ n ∧ n ≤ 4611686018427387904 ∧ n < D.counter) :
    Calls Try.prog 33 #[.pointer (some ⟨d, 0, none⟩), .int .i64 n] w fun e w' => e = .returned (.int .i64 (D.dstep 20 fun D => { D with counter := n }).1) ∧
      IsDev w' d b g sb sc fb fc (D.dstep 20 fun D => { D with counter := n }).2 ∧ DFr w w' d g sb fb := by
  have hs0 : (w.alloc (.cells #[.pointer (some ⟨d, 0, none⟩)] 26)).heap.size = w.heap.size + 1 := by simp
  have q1 : Blk ((w.alloc (.cells #[.pointer (some ⟨d, 0, none⟩)] 26)).alloc (.cells #[.int .i64 n] 3)) w.heap.size 26 #[.pointer (some ⟨d, 0, none⟩)] := (Blk.new w _ _).alloc _
  have q2 : Blk ((w.alloc (.cells #[.pointer (some ⟨d, 0, none⟩)] 26)).alloc (.cells #[.int .i64 n] 3)) (w.heap.size + 1) 3 #[.int .i64 n] := by rw [← hs0]; exact Blk.new _ _ _
  have hB : Below w.heap.size w ((w.alloc (.cells #[.pointer (some ⟨d, 0, none⟩)] 26)).alloc (.cells #[.int .i64 n] 3)) := ((Below.refl _ w).alloc (Nat.le_refl _) _).alloc (by omega) _
  have H := Lib.hid h
  clear h hs0
  have d1 : decide (0 ≤ n) = true := decide_eq_true hi.1
  have d2 : decide (n ≤ 4611686018427387904) = true := decide_eq_true hi.2.1
  have d3 : decide (n < D.counter) = true := decide_eq_true hi.2.2
  clear hi
  go_enter Try.func33, Try.ntmps33
  go_wp2_with (first | (go_at_call 40; refine (valid_any _ true).mono ?_; rintro e w1 ⟨rfl, rfl⟩))
  generalize ((w.alloc (.cells #[.pointer (some ⟨d, 0, none⟩)] 26)).alloc (.cells #[.int .i64 n] 3)) = W at q1 q2 hB ⊢
  have hst : ∀ q, Hid (Calls Try.prog 39 #[.pointer (some ⟨d, 0, none⟩), .int .i64 20, .func (.func 57) #[] #[.pointer (some ⟨w.heap.size + 1, 0, none⟩), .pointer (some ⟨w.heap.size, 0, none⟩)]] (W.drewN q) fun e w' => e = .returned (.int .i64 (D.dstep 20 fun D => { D with counter := n }).1) ∧
      IsDev w' d b g sb sc fb fc (D.dstep 20 fun D => { D with counter := n }).2 ∧ DFr (W.drewN q) w' d g sb fb) := fun q => raise_step (H.out.below (below_drewN hB q)) hr 20 w.heap.size (w.heap.size + 1) n (blk_drewN q1 q) (blk_drewN q2 q)
  have hD := H.out.below hB
  have x1 := q1.cell 0
  have x2 := q2.cell 0
  have x3 := hD.blk.cell 2
  have HB := Lib.hid hB
  clear hD hB q1 q2 hr H
  go_quiet (fail)
  have HST := hst nq
  have HBQ := Lib.hid (below_drewN HB.out nq)
  have y1 : (W.drewN nq).cell? ⟨w.heap.size, 0, none⟩ = some (.pointer (some ⟨d, 0, none⟩)) := x1
  have y2 : (W.drewN nq).cell? ⟨w.heap.size + 1, 0, none⟩ = some (.int .i64 n) := x2
  clear hst x1 x2 x3 HB
  generalize W.drewN nq = W2 at HST HBQ y1 y2 ⊢
  go_wp2_with (first | (go_at_call 39; refine HST.out.mono ?_; rintro e w' ⟨rfl, hE, hF⟩))
  go_ret
  exact ⟨rfl, hE, (DFr.ofBelow HBQ.out).trans hF⟩
set_option maxRecDepth 100000 in
set_option maxHeartbeats 1600000 in
theorem dRaise_ok (h : IsDev w d b g sb sc fb fc D) (hr : -1 ≤ D.left ∧ D.left ≤ 9223372036854775807) (n : Int) (hi : 0 ≤ n ∧ n ≤ 4611686018427387904 ∧ ¬ n < D.counter) :
    Calls Try.prog 33 #[.pointer (some ⟨d, 0, none⟩), .int .i64 n] w fun e w' => e = .returned (.int .i64 (D.dstep 0 fun D => { D with counter := n }).1) ∧
      IsDev w' d b g sb sc fb fc (D.dstep 0 fun D => { D with counter := n }).2 ∧ DFr w w' d g sb fb := by
  have hs0 : (w.alloc (.cells #[.pointer (some ⟨d, 0, none⟩)] 26)).heap.size = w.heap.size + 1 := by simp
  have q1 : Blk ((w.alloc (.cells #[.pointer (some ⟨d, 0, none⟩)] 26)).alloc (.cells #[.int .i64 n] 3)) w.heap.size 26 #[.pointer (some ⟨d, 0, none⟩)] := (Blk.new w _ _).alloc _
  have q2 : Blk ((w.alloc (.cells #[.pointer (some ⟨d, 0, none⟩)] 26)).alloc (.cells #[.int .i64 n] 3)) (w.heap.size + 1) 3 #[.int .i64 n] := by rw [← hs0]; exact Blk.new _ _ _
  have hB : Below w.heap.size w ((w.alloc (.cells #[.pointer (some ⟨d, 0, none⟩)] 26)).alloc (.cells #[.int .i64 n] 3)) := ((Below.refl _ w).alloc (Nat.le_refl _) _).alloc (by omega) _
  have H := Lib.hid h
  clear h hs0
  have d1 : decide (0 ≤ n) = true := decide_eq_true hi.1
  have d2 : decide (n ≤ 4611686018427387904) = true := decide_eq_true hi.2.1
  have d3 : decide (n < D.counter) = false := decide_eq_false hi.2.2
  clear hi
  go_enter Try.func33, Try.ntmps33
  go_wp2_with (first | (go_at_call 40; refine (valid_any _ true).mono ?_; rintro e w1 ⟨rfl, rfl⟩))
  generalize ((w.alloc (.cells #[.pointer (some ⟨d, 0, none⟩)] 26)).alloc (.cells #[.int .i64 n] 3)) = W at q1 q2 hB ⊢
  have hst : ∀ q, Hid (Calls Try.prog 39 #[.pointer (some ⟨d, 0, none⟩), .int .i64 0, .func (.func 57) #[] #[.pointer (some ⟨w.heap.size + 1, 0, none⟩), .pointer (some ⟨w.heap.size, 0, none⟩)]] (W.drewN q) fun e w' => e = .returned (.int .i64 (D.dstep 0 fun D => { D with counter := n }).1) ∧
      IsDev w' d b g sb sc fb fc (D.dstep 0 fun D => { D with counter := n }).2 ∧ DFr (W.drewN q) w' d g sb fb) := fun q => raise_step (H.out.below (below_drewN hB q)) hr 0 w.heap.size (w.heap.size + 1) n (blk_drewN q1 q) (blk_drewN q2 q)
  have hD := H.out.below hB
  have x1 := q1.cell 0
  have x2 := q2.cell 0
  have x3 := hD.blk.cell 2
  have HB := Lib.hid hB
  clear hD hB q1 q2 hr H
  go_quiet (fail)
  have HST := hst nq
  have HBQ := Lib.hid (below_drewN HB.out nq)
  have y1 : (W.drewN nq).cell? ⟨w.heap.size, 0, none⟩ = some (.pointer (some ⟨d, 0, none⟩)) := x1
  have y2 : (W.drewN nq).cell? ⟨w.heap.size + 1, 0, none⟩ = some (.int .i64 n) := x2
  clear hst x1 x2 x3 HB
  generalize W.drewN nq = W2 at HST HBQ y1 y2 ⊢
  go_wp2_with (first | (go_at_call 39; refine HST.out.mono ?_; rintro e w' ⟨rfl, hE, hF⟩))
  go_ret
  exact ⟨rfl, hE, (DFr.ofBelow HBQ.out).trans hF⟩
theorem dRaise_any (h : IsDev w d b g sb sc fb fc D) (hr : -1 ≤ D.left ∧ D.left ≤ 9223372036854775807) (n : Int) :
    Calls Try.prog 33 #[.pointer (some ⟨d, 0, none⟩), .int .i64 n] w fun e w' => e = .returned (.int .i64 (D.dstep (if 0 ≤ n ∧ n ≤ 4611686018427387904 then (if n < D.counter then 20 else 0) else 1) fun D => { D with counter := n }).1) ∧
      IsDev w' d b g sb sc fb fc (D.dstep (if 0 ≤ n ∧ n ≤ 4611686018427387904 then (if n < D.counter then 20 else 0) else 1) fun D => { D with counter := n }).2 ∧ DFr w w' d g sb fb := by
  by_cases hn : 0 ≤ n ∧ n ≤ 4611686018427387904
  · rw [if_pos hn]
    by_cases ho : n < D.counter
    · rw [if_pos ho]
      exact dRaise_old h hr n ⟨hn.1, hn.2, ho⟩
    · rw [if_neg ho]
      exact dRaise_ok h hr n ⟨hn.1, hn.2, ho⟩
  · rw [if_neg hn]
    by_cases h0 : n < 0
    · exact dRaise_neg h hr n h0
    · exact dRaise_big h hr n ⟨by omega, by omega⟩
end
end Go.Proofs.Ytgenifcikfbfhaa
