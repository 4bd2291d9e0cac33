/-
  Layer 22 (memory): indices, Dirty, Worn.
-/
import Derived.Test.YtgieiehpnjhkoaaMemW5
import Derived.RangeFuncBox
import Derived.OwnWalkIn
namespace Go.Proofs.Ytgieiehpnjhkoaa
open Go.RowKit Go.Shelf
attribute [local go_sem] Oper.semAt_some

/-- Numbers as cells. -/
def intCells (l : List Nat) : List Value := l.map fun i : Nat => Value.int .i64 i
theorem intCells_snoc (l : List Nat) (x : Nat) : intCells (l ++ [x]) = intCells l ++ [.int .i64 x] := by simp [intCells]

theorem upto_len (P0 : Nat → Bool) : ∀ k, (upto P0 k).length ≤ k
  | 0 => Nat.le_refl _
  | k + 1 => by
    have := upto_len P0 k
    cases h : P0 k
    · rw [upto_no P0 k h]; omega
    · rw [upto_yes P0 k h]; simp; omega

theorem infoInt : (Try.prog.info? 3).map (fun i => (i.zero, i.size, i.bytes)) = some (some (.int .i64 0), 1, 8) := by kernel_rfl

/-- A fresh list of numbers. -/
def NewInts (w w' : World) (v : Value) (l : List Nat) : Prop := w'.ownsRow w.heap.size 3 1 v l.length (intCells l) ∧ (v = .slice none 0 0 ↔ l = []) ∧ Below w.heap.size w w'

/-- A box lies on behind an append into another one. -/
theorem boxed_past {W w1 : World} {B B' : Nat} {t e : TypeId} {u v : Value} {n₀ size k : Nat} {xs : List Value} {tmp : Obj} (h : Boxed W B' t u) (hte : t ≠ e) (hrow : W.ownsRow n₀ e size v k xs)
    (hgrow : (W.alloc tmp).grownBy w1 v.ownBlock) (hne : B' ≠ B) (v' : Value) : Boxed (w1.setCell ⟨B, 0, none⟩ v') B' t u :=
  ((h.alloc tmp).kept hgrow (h.not_row hte hrow)).kept (grownBy_setCell' w1 B v') (fun e => hne (by cases e; rfl))

section
variable {w : World} {b g : Nat} {M : List Sec}

/-- What the loop of indices keeps. -/
def Gather (w : World) (b g : Nat) (M : List Sec) (fi : Nat) (pre : List Nat) (W : World) : Prop :=
  (∃ v, Boxed W w.heap.size 35 v ∧ W.ownsRow w.heap.size 3 1 v pre.length (intCells pre) ∧ (v = .slice none 0 0 ↔ pre = [])) ∧
    Boxed W (w.heap.size + 1) 23 (.pointer (some ⟨b, 0, none⟩)) ∧ Boxed W (w.heap.size + 2) 99 (.func (.func fi) #[] #[]) ∧ PMem W b g M ∧ Below w.heap.size w W

theorem gather_own (fi : Nat) (hb : b < w.heap.size) (hg : g < w.heap.size) : OwnFrom (w.heap.size + 3) (Gather w b g M fi) := by
  rintro pre W W' row ⟨⟨v, h1, h2, h3⟩, h4, h5, h6, h7⟩ hgr hr
  refine ⟨⟨v, h1.kept hgr ?_, h2.kept hgr ?_, h3⟩, h4.kept hgr ?_, h5.kept hgr ?_, h6.grown hgr ?_ ?_, h7.grown hgr h7.size ?_⟩
  · intro e; have := (hr _ e.symm).1; omega
  · rcases h2.2 with ⟨rfl, _⟩ | ⟨g, cap, cur, rfl, _, hgb, _⟩
    · exact .inl rfl
    · refine .inr fun e' => ?_
      obtain ⟨o, ho, hc⟩ := (hr g (by simpa [Value.ownBlock] using e'.symm)).2
      rw [hgb] at ho; cases ho; cases hc
  · intro e; have := (hr _ e.symm).1; omega
  · intro e; have := (hr _ e.symm).1; omega
  · intro e; have := (hr _ e.symm).1; omega
  · intro e; have := (hr _ e.symm).1; omega
  · intro j e; have := (hr j e).1; omega

theorem gather_sees (fi : Nat) (p : Sec → Bool) (pre : List Nat) (W : World) (h : Gather w b g M fi pre W) : Sees b g (w.heap.size + 1) (w.heap.size + 2) fi M.length p (fun i => ((M[i]?).map p).getD false) pre W :=
  ⟨M, h.2.2.2.1, rfl, h.2.1.cell, h.2.2.1.cell, fun i s _ hs => by simp [hs]⟩

set_option maxRecDepth 100000 in
set_option maxHeartbeats 4000000 in
theorem indices_any (h : PMem w b g M) (hN : M.length ≤ 1048576) (fi : Nat) (p : Sec → Bool) (hfi : Fence.wide.fn fi) (eg : ∀ args w, (callFunc fi args).run Try.prog w = .ok (.enter fi args) w) (hp : ∀ n, Looks Fence.wide n fi p) :
    Calls Try.prog 56 #[.pointer (some ⟨b, 0, none⟩), .func (.func fi) #[] #[]] w fun e w' => ∃ v, e = .returned v ∧ NewInts w w' v (idxs p M) := by
  obtain ⟨i0, hi, hz0, hz1, hz2⟩ := info_parts infoInt
  refine (callsIn_wide (n := 4)).1 ?_
  refine callsIn_of_wp_marks Try.func56 rfl trivial ?_ rfl
  simp only [Try.ntmps56, List.size_toArray, List.length_cons, List.length_nil, Nat.reduceAdd, Nat.reduceSub, Array.replicate_succ, Array.replicate_zero, List.push_toArray, List.append_toArray, List.nil_append, List.cons_append]
  gi_wp2_with (refine ⟨trivial, ?_⟩; gi_at_call 53; refine (callsIn_wide.2 (such_any _ _ _)).mono ?_; rintro e w' ⟨rfl, rfl⟩)
  have hlt := h.lt
  have bO := Boxed.new w 35 (.slice none 0 0)
  have bM := Boxed.new (w.alloc (.cells #[.slice none 0 0] 35)) 23 (.pointer (some ⟨b, 0, none⟩))
  have bI := Boxed.new ((w.alloc (.cells #[.slice none 0 0] 35)).alloc (.cells #[.pointer (some ⟨b, 0, none⟩)] 23)) 99 (.func (.func fi) #[] #[])
  rw [World.size_alloc] at bM
  rw [World.size_alloc, World.size_alloc] at bI
  have bO3 := (bO.alloc (.cells #[.pointer (some ⟨b, 0, none⟩)] 23)).alloc (.cells #[.func (.func fi) #[] #[]] 99)
  have bM3 := bM.alloc (.cells #[.func (.func fi) #[] #[]] 99)
  obtain ⟨w0, hw0⟩ : ∃ w0, ((w.alloc (.cells #[.slice none 0 0] 35)).alloc (.cells #[.pointer (some ⟨b, 0, none⟩)] 23)).alloc (.cells #[.func (.func fi) #[] #[]] 99) = w0 := ⟨_, rfl⟩
  have hs0 : w0.heap.size = w.heap.size + 3 := by rw [← hw0]; simp
  have hB0 : Below w.heap.size w w0 := by rw [← hw0]; exact (((Below.refl _ w).alloc (Nat.le_refl _) _).alloc (by simp) _).alloc (by simp; omega) _
  have hM0 : PMem w0 b g M := h.below hB0 hlt.1 hlt.2
  rw [hw0] at bO3 bM3 bI
  rw [hw0]
  refine wpIn_rangeFunc_all rfl (by decide) (gf := 68) (lb := #[.pointer (some ⟨w.heap.size + 1, 0, none⟩), .pointer (some ⟨w.heap.size + 1 + 1, 0, none⟩)]) rfl trivial (enters_of Try.func68 (by kernel_rfl) rfl)
    (such_seq Fence.wide 3 trivial rfl (by decide) b g (w.heap.size + 1) (w.heap.size + 2) fi M.length p (fun i => ((M[i]?).map p).getD false) hfi hN eg (hp _)) (fun _ => rfl)
    (Gather w b g M fi) (hs0 ▸ gather_own fi hlt.1 hlt.2) (gather_sees fi p)
    ⟨⟨_, bO3, World.ownsRow_nil _ _ _ _, by simp⟩, bM3, bI, hM0, hB0⟩
    (fun i => { tmps := #[.pointer (some ⟨b, 0, none⟩), .func (.func fi) #[] #[], undef, undef, .slice none 0 0, .pointer (some ⟨w.heap.size, 0, none⟩), .int .i64 i, .pointer (some ⟨b, 0, none⟩), .func (.func fi) #[] #[], .func (.func 68) #[] #[.pointer (some ⟨w.heap.size + 1, 0, none⟩), .pointer (some ⟨w.heap.size + 1 + 1, 0, none⟩)], .int .i64 i, .pointer (some ⟨g, i * 5, none⟩), undef, undef, undef, undef, undef], defers := [] }) ?assign ?body ?done
  case assign =>
    intro l x W K hK
    gi_wp2
    exact hK
  case body =>
    rintro l pre x W ⟨⟨v, hv, hrow, hnil⟩, hm, hi', hM, hB⟩ ⟨hx, hP, hpre⟩
    have hpl : pre.length ≤ x := by rw [hpre]; exact upto_len _ _
    have hc := hv.cell
    clear hP hpre
    gi_wp2_with (gi_at_builtin; refine wpListIn_append_own _ rfl _ _ 35 rfl w.heap.size 3 i0 (.int .i64 0) 1 8 Try.underlying35 hi hz0 hz1 hz2 rfl (by decide) _ _ _ rfl (hrow.alloc _) ⟨W.heap.size, 0, none⟩ 1 1 [.int .i64 x] rfl rfl (cell_one_new _ _ _) (by simp [Value.oneCell']) (by unfold maxLen; omega) (by omega) (by have := hB.size; simp; omega) ?_; intro v' w1 hown' hgrow _; obtain ⟨g', cap', rfl⟩ := ownsRow_succ hown'; obtain ⟨hv1, hv2, hr2, hk2, hb2⟩ := hv.appended (by decide) hrow hB.size (Nat.le_refl _) hown' hgrow; have hm1 := boxed_past hm (by decide) hrow hgrow (by omega : w.heap.size + 1 ≠ w.heap.size) (.slice (some ⟨g', 0, none⟩) (pre.length + 1) cap'); have hi1 := boxed_past hi' (by decide) hrow hgrow (by omega : w.heap.size + 2 ≠ w.heap.size) (.slice (some ⟨g', 0, none⟩) (pre.length + 1) cap'); have hc1 := hv1.cell; have hf1 := hv1.frozen)
    exact ⟨hk2, ⟨_, hv2, by simpa [intCells_snoc] using hr2, by simp⟩, hm1, hi1, hM.below hb2 hlt.1 hlt.2, hB.trans hb2⟩
  case done =>
    rintro D xs W hD rfl ⟨⟨v, hv, hrow, hnil⟩, hm, hi', hM, hB⟩ hK
    have hc := hv.cell
    gi_wp2
    refine ⟨by simp, .inl ⟨_, _, rfl, run_takeDeferred hK, ?_⟩⟩
    exact ⟨_, results_tmp rfl _ _ _, v, rfl, ownsRow_putObj hrow _ hK rfl, hnil, hB.trans (belowK_b (w := w) (Nat.le_refl _) W D _ _ (by omega) hK rfl rfl)⟩

theorem Dirty_any (h : PMem w b g M) (hN : M.length ≤ 1048576) :
    Calls Try.prog 23 #[.pointer (some ⟨b, 0, none⟩)] w fun e w' => ∃ v, e = .returned v ∧ NewInts w w' v (idxs Sec.dirty M) := by
  go_enter Try.func23, Try.ntmps23
  go_wp2_with (go_at_call 56; refine (indices_any h hN 54 Sec.dirty trivial enters_dirty looks_dirty).mono ?_; rintro e w' ⟨v, rfl, H⟩)
  go_ret
  exact ⟨_, rfl, H⟩
theorem Worn_any (h : PMem w b g M) (hN : M.length ≤ 1048576) :
    Calls Try.prog 25 #[.pointer (some ⟨b, 0, none⟩)] w fun e w' => ∃ v, e = .returned v ∧ NewInts w w' v (idxs Sec.worn M) := by
  go_enter Try.func25, Try.ntmps25
  go_wp2_with (go_at_call 56; refine (indices_any h hN 57 Sec.worn trivial enters_worn looks_worn).mono ?_; rintro e w' ⟨v, rfl, H⟩)
  go_ret
  exact ⟨_, rfl, H⟩
end
end Go.Proofs.Ytgieiehpnjhkoaa
