/-
  Layer 22 (memory): Cut.
-/
import Derived.Test.YtgdpgiegiacepaaDoorG2
namespace Go.Proofs.YtgdpgiegiacepaaDoor
open Go.RowKit Go.Shelf
attribute [local go_sem] Oper.semAt_some

/-- How many bytes a pick lets be written. -/
def clampI (x : Int) : Nat := (max 0 (min x 64)).toNat
theorem clampI_le (x : Int) : clampI x ≤ 64 := by unfold clampI; omega
theorem clampI_cast (x : Int) : max 0 (min x 64) = (clampI x : Int) := by unfold clampI; omega
/-- The j-th pick, 0 where there is none. -/
def pick (P : List Int) (j : Nat) : Nat := match P[j]? with | some x => clampI x | none => 0
theorem pick_le (P : List Int) (j : Nat) : pick P j ≤ 64 := by
  unfold pick
  split
  · exact clampI_le _
  · omega

/-- A slice of ints that reads as a list. -/
def IntsAt (w : World) (v : Value) (P : List Int) : Prop :=
  ∃ A c, v = .slice A P.length c ∧ P.length ≤ c ∧ c ≤ maxLen ∧ (0 < P.length → ∃ b o, A = some ⟨b, o, none⟩ ∧ b < w.heap.size ∧ ∀ i x, P[i]? = some x → w.cell? ⟨b, o + i, none⟩ = some (.int .i64 x))

/-- The rest of the picks, behind j rounds. -/
def RestAt (v : Value) (n j pb po : Nat) : Prop := ∃ A c, v = .slice A (n - j) c ∧ n - j ≤ c ∧ c ≤ maxLen ∧ (j < n → A = some ⟨pb, po + j, none⟩)

section
variable {w : World} {b g : Nat} {M : List Sec}

/-- What a loop over the dirty sectors of Cut keeps. -/
def Cutting (P : List Int) (pb po : Nat) (w0 : World) (b g Bp : Nat) (M : List Sec) (pre : List Nat) (W : World) : Prop :=
  PMem W b g (doneM (pick P) M pre) ∧ (∃ v, Blk W Bp 28 #[v] ∧ RestAt v P.length (min pre.length P.length) pb po) ∧
    W.os = w0.os ∧ W.tape = w0.tape ∧ W.output = w0.output ∧ w0.heap.size ≤ W.heap.size ∧ ∀ k, k < w0.heap.size → k ≠ g → k ≠ Bp → W.heap[k]? = w0.heap[k]?

theorem cutting_own (P : List Int) (pb po : Nat) {w0 : World} {Bp : Nat} (hb : b < w0.heap.size) (hg : g < w0.heap.size) (hp : Bp < w0.heap.size) : OwnFrom w0.heap.size (Cutting P pb po w0 b g Bp M) := by
  rintro pre W W' row ⟨h1, ⟨v, h2, h3⟩, h4, h5, h6, h7, h8⟩ hg' hr
  refine ⟨h1.grown hg' ?_ ?_, ⟨v, h2.grown hg' ?_, h3⟩, hg'.os.trans h4, hg'.tape.trans h5, hg'.output.trans h6, Nat.le_trans h7 hg'.size, fun k hk n1 n2 => ?_⟩
  · intro e; have := (hr b e.symm).1; omega
  · intro e; have := (hr g e.symm).1; omega
  · intro e; have := (hr Bp e.symm).1; omega
  · exact (hg'.block k (Nat.lt_of_lt_of_le hk h7) (fun e => by have := (hr k e.symm).1; omega)).trans (h8 k hk n1 n2)

theorem cutting_sees (P : List Int) (pb po : Nat) {w0 : World} {Bp Bm Bi fi : Nat} (hm : w0.cell? ⟨Bm, 0, none⟩ = some (.pointer (some ⟨b, 0, none⟩))) (hi : w0.cell? ⟨Bi, 0, none⟩ = some (.func (.func fi) #[] #[]))
    (lm : Bm < w0.heap.size) (li : Bi < w0.heap.size) (nm : Bm ≠ g) (ni : Bi ≠ g) (nm' : Bm ≠ Bp) (ni' : Bi ≠ Bp) (p : Sec → Bool)
    (pre : List Nat) (W : World) (h : Cutting P pb po w0 b g Bp M pre W) : Sees b g Bm Bi fi M.length p (fun i => ((M[i]?).map p).getD false) pre W := by
  obtain ⟨h1, _, _, _, _, _, h8⟩ := h
  refine ⟨_, h1, doneM_len _ _ _, (World.cell?_of_block (h8 Bm lm nm nm')).trans hm, (World.cell?_of_block (h8 Bi li ni ni')).trans hi, fun i s hl hs => ?_⟩
  rw [doneM_at (pick P) M pre i (fun j hj e => by have := hl j hj; omega)] at hs
  simp [hs]

theorem clampX (X : Int) : (if 0 < if 64 < X then 64 else X then if 64 < X then 64 else X else 0) = (clampI X : Int) := by
  unfold clampI
  repeat' split
  all_goals omega

theorem restAt_end' {n j pb po : Nat} (A : Option Addr) (c : Nat) (hj : n ≤ j) (hc : c ≤ maxLen) : RestAt (.slice A 0 c) n (min j n) pb po :=
  ⟨A, c, by rw [Nat.min_eq_right hj, Nat.sub_self], by omega, hc, fun h => by omega⟩
theorem restAt_end {n j pb po : Nat} (A : Option Addr) (hj : n ≤ j) : RestAt (.slice A 0 0) n (min j n) pb po := restAt_end' A 0 hj (by unfold maxLen; omega)
theorem restAt_more {n j m c pb po : Nat} (hm : n - j = m) (h1 : m ≤ c) (h2 : c ≤ maxLen) (hj : j ≤ n) : RestAt (.slice (some ⟨pb, po + j, none⟩) m c) n (min j n) pb po :=
  ⟨_, c, by rw [Nat.min_eq_left hj, hm], by rw [Nat.min_eq_left hj]; omega, h2, fun _ => by rw [Nat.min_eq_left hj]⟩

theorem cutting_step {P : List Int} {pb po : Nat} {w0 W W1 w' : World} {Bp x : Nat} {pre : List Nat} {v' : Value} {M1 : List Sec} {act : Act} (hC : Cutting P pb po w0 b g Bp M pre W) (hng : Bp ≠ g)
    (h1 : W.grownBy W1 (some Bp)) (k1 : KeepsOthers W W1) (hb1 : Blk W1 Bp 28 #[v']) (hv' : RestAt v' P.length (min (pre.length + 1) P.length) pb po) (hM1 : PMem W1 b g M1)
    (h2 : PMem w' b g (doneM (pick P) M (pre ++ [x]))) (h3 : W1.grownBy w' (some g)) : goesOn (Cutting P pb po w0 b g Bp M) (pre ++ [x]) W .normal act w' := by
  obtain ⟨_, _, c4, c5, c6, c7, c8⟩ := hC
  refine ⟨k1.trans (keepsOthers_grown hM1 h3), h2, ⟨v', hb1.grown h3 (by simp; exact hng), by simpa using hv'⟩, h3.os.trans (h1.os.trans c4), h3.tape.trans (h1.tape.trans c5), h3.output.trans (h1.output.trans c6), ?_, fun k hk n1 n2 => ?_⟩
  · have := h1.size; have := h3.size; omega
  · have e1 := h1.size
    exact (h3.block k (by omega) (fun e => n1 (by cases e; rfl))).trans ((h1.block k (by omega) (fun e => n2 (by cases e; rfl))).trans (c8 k hk n1 n2))

set_option maxHeartbeats 4000000 in
theorem Cut_any (h : PMem w b g M) (hf : Fine M) (hN : M.length ≤ 1048576) (v : Value) (P : List Int) (pb po : Nat) (hv : RestAt v P.length 0 pb po) (hpg : pb ≠ g)
    (hc : ∀ i x, P[i]? = some x → w.cell? ⟨pb, po + i, none⟩ = some (.int .i64 x)) :
    Calls Tryd.prog 28 #[.pointer (some ⟨b, 0, none⟩), v] w fun e w' => e = .returned (.tuple #[]) ∧ PMem w' b g (doneM (pick P) M (idxs Sec.dirty M)) ∧ w.grownBy w' (some g) := by
  have Hc := Lib.hid hc
  clear hc
  have hv' := hv
  obtain ⟨A, c, rfl, hv1, hv2, hv3⟩ := hv
  have HV := Lib.hid hv'
  clear hv' hv1 hv2 hv3
  refine (callsIn_wide (n := 4)).1 ?_
  refine callsIn_of_wp_marks Tryd.func28 rfl trivial ?_ rfl
  simp only [Tryd.ntmps28, List.size_toArray, List.length_cons, List.length_nil, Nat.reduceAdd, Nat.reduceSub, Array.replicate_succ, Array.replicate_zero, List.push_toArray, List.append_toArray, List.nil_append, List.cons_append]
  gi_wp2_with (refine ⟨trivial, ?_⟩; gi_at_call 49; refine (callsIn_wide.2 (such_any _ _ _)).mono ?_; rintro e w' ⟨rfl, rfl⟩)
  have hlt := h.lt
  obtain ⟨w0, hw0⟩ : ∃ w0, ((w.alloc (.cells #[.slice A (P.length - 0) c] 28)).alloc (.cells #[.pointer (some ⟨b, 0, none⟩)] 66)).alloc (.cells #[.func (.func 50) #[] #[]] 105) = w0 := ⟨_, rfl⟩
  have hw0' := hw0
  rw [Nat.sub_zero] at hw0'
  have hs0 : w0.heap.size = w.heap.size + 3 := by rw [← hw0]; simp
  have hB0 : Below w.heap.size w w0 := by rw [← hw0]; exact (((Below.refl _ w).alloc (Nat.le_refl _) _).alloc (by simp) _).alloc (by simp; omega) _
  have hp0 : Blk w0 w.heap.size 28 #[.slice A (P.length - 0) c] := by
    rw [← hw0]; exact ((Blk.new w _ _).alloc _).alloc _
  have hm0 : w0.cell? ⟨w.heap.size + 1, 0, none⟩ = some (.pointer (some ⟨b, 0, none⟩)) := by
    rw [← hw0]
    have := ((Blk.new (w.alloc (.cells #[.slice A (P.length - 0) c] 28)) 66 #[.pointer (some ⟨b, 0, none⟩)]).alloc (.cells #[.func (.func 50) #[] #[]] 105)).cell 0
    rw [World.size_alloc] at this
    exact this
  have hi0 : w0.cell? ⟨w.heap.size + 2, 0, none⟩ = some (.func (.func 50) #[] #[]) := by
    rw [← hw0]
    have := (Blk.new ((w.alloc (.cells #[.slice A (P.length - 0) c] 28)).alloc (.cells #[.pointer (some ⟨b, 0, none⟩)] 66)) 105 #[.func (.func 50) #[] #[]]).cell 0
    rw [World.size_alloc, World.size_alloc] at this
    exact this
  have hM0 : PMem w0 b g M := h.below hB0 hlt.1 hlt.2
  rw [hw0']
  refine wpIn_rangeFunc_all rfl (by decide) (gf := 69) (lb := #[.pointer (some ⟨w.heap.size + 1, 0, none⟩), .pointer (some ⟨w.heap.size + 1 + 1, 0, none⟩)]) rfl trivial (enters_of Tryd.func69 (by kernel_rfl) rfl)
    (such_seq Fence.wide 3 trivial rfl (by decide) b g (w.heap.size + 1) (w.heap.size + 2) 50 M.length Sec.dirty (fun i => ((M[i]?).map Sec.dirty).getD false) trivial hN enters_dirty (looks_dirty _)) (fun _ => rfl)
    (Cutting P pb po w0 b g w.heap.size M) (cutting_own P pb po (by omega) (by omega) (by omega)) (cutting_sees P pb po hm0 hi0 (by omega) (by omega) (by omega) (by omega) (by omega) (by omega) Sec.dirty)
    ⟨hM0, ⟨_, hp0, by simpa using HV.out⟩, rfl, rfl, rfl, Nat.le_refl _, fun _ _ _ _ => rfl⟩
    (fun i => { tmps := #[.pointer (some ⟨b, 0, none⟩), .slice A (P.length - 0) c, undef, .pointer (some ⟨w.heap.size, 0, none⟩), undef, .pointer (some ⟨g, i * 5, none⟩), undef, .pointer (some ⟨b, 0, none⟩), .func (.func 69) #[] #[.pointer (some ⟨w.heap.size + 1, 0, none⟩), .pointer (some ⟨w.heap.size + 1 + 1, 0, none⟩)], .int .i64 i, .pointer (some ⟨g, i * 5, none⟩), undef, undef, undef, undef, undef, undef, undef, undef, undef, undef, undef, undef, undef], defers := [] }) ?assign ?body ?done
  case assign =>
    intro l x W K hK
    gi_wp2
    exact hK
  case body =>
    rintro l pre x W ⟨hM, ⟨v, hvb, hvr⟩, k4, k5, k6, k7, k8⟩ ⟨hx, hP, hpre⟩
    have hs := List.getElem?_eq_getElem hx
    have hd : M[x].dirty = true := by simpa [hs] using hP
    have hne : ∀ j ∈ pre, j ≠ x := fun j hj e => by have := upto_lt _ _ j (hpre ▸ hj); omega
    have hs2 : (doneM (pick P) M pre)[x]? = some M[x] := by rw [doneM_at _ _ _ _ hne, hs]
    have hfx := hf M[x] (List.getElem_mem hx)
    have hdn : Hid (doneM (pick P) M (pre ++ [x]) = (doneM (pick P) M pre).set x (M[x].settle (pick P pre.length))) := by
      unfold Hid; rw [doneM_snoc, List.getD, hs]; rfl
    have hlm := hM.lt
    have hc0 : W.cell? ⟨w.heap.size, 0, none⟩ = some v := (hvb.cell 0).trans rfl
    have hf0 := hvb.frozen 0
    have K8 := Lib.hid k8
    have hvr0 := hvr
    clear hP hpre hne hs k8
    by_cases hj : pre.length < P.length
    · rw [Nat.min_eq_left (by omega)] at hvr
      obtain ⟨A', c', rfl, hv1, hv2, hv3⟩ := hvr
      have hA' := hv3 hj
      subst hA'
      clear hv3
      have hpk : W.cell? ⟨pb, po + pre.length, none⟩ = some (.int .i64 P[pre.length]) := by
        have h1 := Hc.out pre.length _ (List.getElem?_eq_getElem hj)
        have hpl : pb < w.heap.size := by
          unfold World.cell? at h1
          split at h1
          · rename_i hh; exact (Array.getElem?_eq_some_iff.1 hh).1
          · cases h1
        exact (World.cell?_of_block (K8.out pb (by omega) hpg (by omega))).trans ((hB0.cell (p := ⟨pb, _, none⟩) hpl).trans h1)
      have hck : Hid (pick P pre.length = clampI P[pre.length]) := by unfold Hid pick; rw [List.getElem?_eq_getElem hj]
      generalize P[pre.length] = X at hpk hck
      unfold maxLen at hv2
      obtain ⟨m, hm⟩ : ∃ m, P.length - pre.length = m := ⟨_, rfl⟩
      have hm1 : 1 ≤ m := by omega
      rw [hm] at hc0 hv1
      have Hm := Lib.hid hm
      clear hm
      by_cases hc1 : c' = 1
      · subst hc1
        have hme : m = 1 := by omega
        subst hme
        have hg1 : W.grownBy (W.setCell ⟨w.heap.size, 0, none⟩ (.slice (some ⟨pb, po + pre.length, none⟩) 0 0)).drew (some w.heap.size) := grown_trans (grown_set _ _ _ _) (grown_drewN _ 1 _)
        have hC := Lib.hid (settle_any (hM.grown hg1 (by simp; omega) (by simp; omega)) x M[x] (clampI X) hs2 (clampI_le _) (hfx.2.2 hd) hfx.1)
        have hfin := Lib.hid (fun w' (act : Act) => cutting_step (x := x) (w' := w') (act := act) ⟨hM, ⟨_, hvb, hvr0⟩, k4, k5, k6, k7, K8.out⟩ (by omega : w.heap.size ≠ g) hg1 ((KeepsOthers.setCell _ _ _).trans (KeepsOthers.drew _)) (hvb.set_ 0 _) (restAt_end (j := pre.length + 1) _ (Nat.le_of_sub_eq_zero (by have := Hm.out; omega))) (hM.grown hg1 (by simp; omega) (by simp; omega)))
        rw [← clampX X] at hC
        gi_wp2_with (fail)
        gi_region_with (fail)
        all_goals (gi_wp2_with (refine ⟨trivial, ?_⟩; gi_at_call 51; refine (CallsIn.inRound l (callsIn_wide.2 hC.out)).mono ?_; rintro e w' ⟨rfl, h1, h2⟩))
        all_goals exact hfin.out _ _ (by rw [hdn.out, hck.out]; exact h1) h2
      · have hc2 : 2 ≤ c' := by omega
        have hsl : ∀ wx, (Instr.slice 28 (.slice (some ⟨pb, po + pre.length, none⟩) m c') (some (.int .i64 1)) none none).run Tryd.prog wx = .ok (.slice (some ⟨pb, po + pre.length + 1, none⟩) (m - 1) (c' - 1)) wx := by
          intro wx
          have e1 : ¬ c' = 1 := by omega
          simp [go_sem, e1]
          intro hh
          omega
        have hg1 : W.grownBy (W.setCell ⟨w.heap.size, 0, none⟩ (.slice (some ⟨pb, po + pre.length + 1, none⟩) (m - 1) (c' - 1))).drew (some w.heap.size) := grown_trans (grown_set _ _ _ _) (grown_drewN _ 1 _)
        have hC := Lib.hid (settle_any (hM.grown hg1 (by simp; omega) (by simp; omega)) x M[x] (clampI X) hs2 (clampI_le _) (hfx.2.2 hd) hfx.1)
        have hfin := Lib.hid (fun w' (act : Act) => cutting_step (x := x) (w' := w') (act := act) ⟨hM, ⟨_, hvb, hvr0⟩, k4, k5, k6, k7, K8.out⟩ (by omega : w.heap.size ≠ g) hg1 ((KeepsOthers.setCell _ _ _).trans (KeepsOthers.drew _)) (hvb.set_ 0 _)
          (restAt_more (j := pre.length + 1) (m := m - 1) (c := c' - 1) (by have := Hm.out; omega) (by omega) (by unfold maxLen; omega) (by omega)) (hM.grown hg1 (by simp; omega) (by simp; omega)))
        rw [← clampX X] at hC
        clear hs2 hd hvr0
        gi_wp2_with (fail)
        gi_region_with (fail)
        all_goals (gi_wp2_with (refine ⟨trivial, ?_⟩; gi_at_call 51; refine (CallsIn.inRound l (callsIn_wide.2 hC.out)).mono ?_; rintro e w' ⟨rfl, h1, h2⟩))
        all_goals exact hfin.out _ _ (by rw [hdn.out, hck.out]; exact h1) h2
    · rw [Nat.min_eq_right (by omega)] at hvr
      obtain ⟨A', c', rfl, hv1, hv2, hv3⟩ := hvr
      rw [Nat.sub_self] at hc0 hvb hvr0
      have hg1 : W.grownBy W (some w.heap.size) := grown_refl _ _
      have hck : pick P pre.length = 0 := by unfold pick; rw [List.getElem?_eq_none (by omega)]
      have hC := Lib.hid (settle_any hM x M[x] 0 hs2 (by omega) (hfx.2.2 hd) hfx.1)
      have hfin := Lib.hid (fun w' (act : Act) => cutting_step (x := x) (w' := w') (act := act) ⟨hM, ⟨_, hvb, hvr0⟩, k4, k5, k6, k7, K8.out⟩ (by omega : w.heap.size ≠ g) hg1 (KeepsOthers.refl _) hvb (restAt_end' (j := pre.length + 1) _ _ (by omega) hv2) hM)
      have Hck := Lib.hid hck
      clear hs2 hd hvr0 hck hv3 hj
      gi_wp2_with (refine ⟨trivial, ?_⟩; gi_at_call 51; refine (CallsIn.inRound l (callsIn_wide.2 hC.out)).mono ?_; rintro e w' ⟨rfl, h1, h2⟩)
      exact hfin.out _ _ (by rw [hdn.out, Hck.out]; exact h1) h2
  case done =>
    rintro D xs W hD rfl ⟨hM, ⟨v, hvb, hvr⟩, k4, k5, k6, k7, k8⟩ hK
    gi_wp2
    refine ⟨by simp, .inl ⟨_, _, rfl, run_takeDeferred hK, ?_⟩⟩
    refine ⟨_, results_none rfl _ _ _, rfl, hM.grown (grownBy_putObj' W D (.deferred none)) (fun e => by cases e; omega) (fun e => by cases e; omega), ?_⟩
    have hgr : w.grownBy W (some g) := ⟨k4.trans hB0.os, k5.trans hB0.tape, k6.trans hB0.output, by omega, fun k hk hne => (k8 k (by omega) (fun e => hne (by rw [e])) (by omega)).trans (hB0.block k hk)⟩
    exact grown_put hgr (by omega) _
end
end Go.Proofs.YtgdpgiegiacepaaDoor
