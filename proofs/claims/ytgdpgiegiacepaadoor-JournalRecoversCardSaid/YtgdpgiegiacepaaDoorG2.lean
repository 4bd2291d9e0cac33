/-
  Layer 22 (memory): the iterator over the sectors that satisfy a condition.
  Layer 22 (memory): Flush.
-/
import Derived.Test.YtgdpgiegiacepaaDoorG1
import Derived.Shelf.Abstract
import Derived.Shelf.RegionOpen
import Derived.OwnWalkIn
import Derived.TacticsInMore
import Derived.LoopNIn
import Derived.LoopIn
namespace Go.Proofs.YtgdpgiegiacepaaDoor
open Go.RowKit Go.Shelf
attribute [local go_sem] Oper.semAt_some

/-- The indices below k at which P0 holds. -/
def upto (P0 : Nat → Bool) (k : Nat) : List Nat := (List.range k).filter P0
theorem upto_zero (P0 : Nat → Bool) : upto P0 0 = [] := rfl
theorem upto_yes (P0 : Nat → Bool) (k : Nat) (h : P0 k = true) : upto P0 (k + 1) = upto P0 k ++ [k] := by
  simp [upto, List.range_succ, List.filter_append, h]
theorem upto_no (P0 : Nat → Bool) (k : Nat) (h : P0 k = false) : upto P0 (k + 1) = upto P0 k := by
  simp [upto, List.range_succ, List.filter_append, h]
theorem upto_lt (P0 : Nat → Bool) (k : Nat) : ∀ j ∈ upto P0 k, j < k := by
  intro j hj
  simp [upto] at hj
  exact hj.1

/-- What the iterator sees of memory: its two captured variables, and the sectors that lie ahead. -/
def Sees (b g Bm Bi fi : Nat) (N : Nat) (p : Sec → Bool) (P0 : Nat → Bool) (pre : List Nat) (W : World) : Prop :=
  ∃ M, PMem W b g M ∧ M.length = N ∧ W.cell? ⟨Bm, 0, none⟩ = some (.pointer (some ⟨b, 0, none⟩)) ∧ W.cell? ⟨Bi, 0, none⟩ = some (.func (.func fi) #[] #[]) ∧
    ∀ i s, (∀ j ∈ pre, j < i) → M[i]? = some s → p s = P0 i

/-- A condition that only looks at a sector. -/
def Looks (F : Fence) (n : Nat) (fi : Nat) (p : Sec → Bool) : Prop :=
  ∀ (w : World) (b g : Nat) (M : List Sec) (i : Nat) (s : Sec), PMem w b g M → M[i]? = some s → CallsIn F n Tryd.prog fi #[.pointer (some ⟨g, i * 5, none⟩)] w fun e w' => e = .returned (.bool (p s)) ∧ w = w'

set_option maxHeartbeats 4000000 in
theorem such_seq (F : Fence) (n : Nat) (hs1 : F.fn 69) (hro : F.round = none) (hn : 1 ≤ n) (b g Bm Bi fi N : Nat) (p : Sec → Bool) (P0 : Nat → Bool) (hfi : F.fn fi) (hN : N ≤ 1048576)
    (eg : ∀ args w, (callFunc fi args).run Tryd.prog w = .ok (.enter fi args) w) (hp : Looks F (n - 1) fi p) :
    SeqAll F n Tryd.prog 69 #[.pointer (some ⟨Bm, 0, none⟩), .pointer (some ⟨Bi, 0, none⟩)] (fun i : Nat => #[.int .i64 i, .pointer (some ⟨g, i * 5, none⟩)])
      (Sees b g Bm Bi fi N p P0) (fun pre i => i < N ∧ P0 i = true ∧ pre = upto P0 i) (fun xs => xs = upto P0 N) := by
  intro l J W hG hY h0
  have HG := Lib.hid hG
  have HY := Lib.hid hY
  have Hp := Lib.hid hp
  clear hG hY hp
  obtain ⟨M, hM, hMl, hcm, hci, _⟩ := HG.out [] W h0
  obtain ⟨cap, hc, hcap, hm⟩ := hM.head
  rw [hMl] at hc hcap
  unfold maxLen at hm
  refine callsIn_of_wp Tryd.func69 rfl hs1 ?_ hro
  simp only [Tryd.ntmps69, List.size_toArray, List.length_cons, List.length_nil, Nat.reduceAdd, Nat.reduceSub, Array.replicate_succ, Array.replicate_zero, List.push_toArray, List.append_toArray, List.nil_append, List.cons_append]
  gi_wp2
  gi_loopw [4, 5, 11] (fun _ _ i wr => ∃ k : Nat, k ≤ N ∧ i = .int .i64 k ∧ J (upto P0 k) wr) (fun _ _ i _ => N - (intOf i).toNat)
  case atStart => exact ⟨0, Nat.zero_le _, rfl, h0⟩
  case round =>
    obtain ⟨k, hk, rfl, hJ⟩ := hrel
    clear hc hcap hm hM hMl hcm hci
    obtain ⟨M', hM', hMl', hcm', hci', hP⟩ := HG.out _ wr hJ
    obtain ⟨cap', hc', hcap', hm'⟩ := hM'.head
    rw [hMl'] at hc' hcap'
    unfold maxLen at hm'
    by_cases hlt : k < N
    · have hks := List.getElem?_eq_getElem (show k < M'.length by omega)
      have hpk := hP k _ (upto_lt P0 k) hks
      have hL := Lib.hid (Hp.out wr b g M' k _ hM' hks)
      rw [hpk] at hL
      clear hP hpk
      cases hb : P0 k
      · rw [hb] at hL
        gi_wp2_with fail
        refine hL.out.mono ?_
        rintro e w' ⟨rfl, rfl⟩
        gi_wp2
        refine ⟨fun _ h => (by cases h), ?_⟩
        gi_wp2
        go_roundw
        case rel => exact ⟨k + 1, by omega, by go_num, by rw [upto_no P0 k hb]; exact hJ⟩
        case measure => simp [intOf]; omega
      · rw [hb] at hL
        obtain ⟨fn, tmps, assign, body, hy, hR⟩ := HY.out (upto P0 k) k wr hJ ⟨hlt, hb, rfl⟩
        have HR := Lib.hid hR
        clear hR
        gi_wp2_with fail
        refine hL.out.mono ?_
        rintro e w' ⟨rfl, rfl⟩
        gi_wp2
        refine HR.out.mono ?_
        rintro e W' ⟨rfl, hJ'⟩
        gi_wp2
        go_roundw
        case rel => exact ⟨k + 1, by omega, by go_num, by rw [upto_yes P0 k hb]; exact hJ'⟩
        case measure => simp [intOf]; omega
    · obtain rfl : k = N := by omega
      gi_wp2
      go_end0
      exact ⟨⟨_, rfl⟩, _, rfl, hJ⟩
end Go.Proofs.YtgdpgiegiacepaaDoor
namespace Go.Proofs.YtgdpgiegiacepaaDoor
open Go.RowKit Go.Shelf
attribute [local go_sem] Oper.semAt_some

theorem isDirty_any (w : World) (b g : Nat) (M : List Sec) (i : Nat) (s : Sec) (h : PMem w b g M) (hs : M[i]? = some s) :
    Calls Tryd.prog 50 #[.pointer (some ⟨g, i * 5, none⟩)] w fun e w' => e = .returned (.bool s.dirty) ∧ w = w' := by
  obtain ⟨c0, c1, c2, c3, c4⟩ := h.sec hs
  go_enter Tryd.func50, Tryd.ntmps50
  go_wp2_with fail
  go_ret
  exact ⟨rfl, rfl⟩
theorem looks_dirty (n : Nat) : Looks Fence.wide n 50 Sec.dirty := fun w b g M i s h hs => callsIn_wide.2 (isDirty_any w b g M i s h hs)
theorem enters_dirty (args : Array Value) (w : World) : (callFunc 50 args).run Tryd.prog w = .ok (.enter 50 args) w := by simp [go_sem]
theorem such_any (w : World) (b fi : Nat) :
    Calls Tryd.prog 49 #[.pointer (some ⟨b, 0, none⟩), .func (.func fi) #[] #[]] w fun e w' =>
      e = .returned (.func (.func 69) #[] #[.pointer (some ⟨w.heap.size, 0, none⟩), .pointer (some ⟨w.heap.size + 1, 0, none⟩)]) ∧
      (w.alloc (.cells #[.pointer (some ⟨b, 0, none⟩)] 66)).alloc (.cells #[.func (.func fi) #[] #[]] 105) = w' := by
  go_enter Tryd.func49, Tryd.ntmps49
  go_wp2_with fail
  go_ret
  exact ⟨rfl, rfl⟩

/-- The sectors when those with the indices pre have been settled, the j-th of them with cnt j bytes. -/
def doneM (cnt : Nat → Nat) (M : List Sec) (pre : List Nat) : List Sec :=
  (pre.foldl (fun (acc : List Sec × Nat) i => (acc.1.set i ((M.getD i default).settle (cnt acc.2)), acc.2 + 1)) (M, 0)).1
theorem doneM_aux (cnt : Nat → Nat) (M : List Sec) : ∀ (pre : List Nat) (acc : List Sec × Nat), (pre.foldl (fun (acc : List Sec × Nat) i => (acc.1.set i ((M.getD i default).settle (cnt acc.2)), acc.2 + 1)) acc).2 = acc.2 + pre.length
  | [], acc => by simp
  | i :: r, acc => by
    rw [List.foldl_cons, doneM_aux cnt M r]
    simp; omega
theorem doneM_nil (cnt : Nat → Nat) (M : List Sec) : doneM cnt M [] = M := rfl
theorem doneM_snoc (cnt : Nat → Nat) (M : List Sec) (pre : List Nat) (i : Nat) : doneM cnt M (pre ++ [i]) = (doneM cnt M pre).set i ((M.getD i default).settle (cnt pre.length)) := by
  unfold doneM
  rw [List.foldl_append, List.foldl_cons, List.foldl_nil]
  have := doneM_aux cnt M pre (M, 0)
  rw [this]
  simp
theorem foldM_len (cnt : Nat → Nat) (M : List Sec) : ∀ (pre : List Nat) (acc : List Sec × Nat), (pre.foldl (fun (acc : List Sec × Nat) i => (acc.1.set i ((M.getD i default).settle (cnt acc.2)), acc.2 + 1)) acc).1.length = acc.1.length
  | [], acc => rfl
  | i :: r, acc => by rw [List.foldl_cons, foldM_len cnt M r]; simp
theorem doneM_len (cnt : Nat → Nat) (M : List Sec) (pre : List Nat) : (doneM cnt M pre).length = M.length := foldM_len cnt M pre _
theorem foldM_at (cnt : Nat → Nat) (M : List Sec) (i : Nat) : ∀ (pre : List Nat) (acc : List Sec × Nat), (∀ j ∈ pre, j ≠ i) → (pre.foldl (fun (acc : List Sec × Nat) i => (acc.1.set i ((M.getD i default).settle (cnt acc.2)), acc.2 + 1)) acc).1[i]? = acc.1[i]?
  | [], acc, _ => rfl
  | k :: r, acc, h => by
    rw [List.foldl_cons, foldM_at cnt M i r _ (fun j hj => h j (by simp [hj]))]
    simp only
    rw [List.getElem?_set_ne (h k (by simp))]
theorem doneM_at (cnt : Nat → Nat) (M : List Sec) (pre : List Nat) (i : Nat) (h : ∀ j ∈ pre, j ≠ i) : (doneM cnt M pre)[i]? = M[i]? := foldM_at cnt M i pre _ h

/-- The indices of the sectors that satisfy a condition. -/
def idxs (p : Sec → Bool) (M : List Sec) : List Nat := upto (fun i => ((M[i]?).map p).getD false) M.length

/-- All sectors have contents of 64 bytes. -/
def Fine (M : List Sec) : Prop := ∀ s ∈ M, s.now.size = 64 ∧ s.before.size = 64 ∧ (s.dirty = true → s.fresh.size = 64)

section
variable {w : World} {b g : Nat} {M : List Sec}

/-- A call of settle, any number of bytes. -/
theorem settle_any (h : PMem w b g M) (i : Nat) (s : Sec) (n : Nat) (hs : M[i]? = some s) (hn : n ≤ 64) (h1 : s.fresh.size = 64) (h2 : s.now.size = 64) :
    Calls Tryd.prog 51 #[.pointer (some ⟨g, i * 5, none⟩), .int .i64 n] w fun e w' => e = .returned (.tuple #[]) ∧ PMem w' b g (M.set i (s.settle n)) ∧ w.grownBy w' (some g) := by
  rcases Nat.eq_zero_or_pos n with rfl | hp
  · exact settle_zero h i s hs
  · exact settle_pos h i s n hs hp (by omega) (by omega) (by omega) (by omega)

/-- What a loop over the dirty sectors keeps: the settled sectors, and all else as it was. -/
def Settling (cnt : Nat → Nat) (w0 : World) (b g : Nat) (M : List Sec) (pre : List Nat) (W : World) : Prop := PMem W b g (doneM cnt M pre) ∧ w0.grownBy W (some g)

theorem settling_own (cnt : Nat → Nat) {w0 : World} (hb : b < w0.heap.size) (hg : g < w0.heap.size) : OwnFrom w0.heap.size (Settling cnt w0 b g M) := by
  rintro pre W W' row ⟨h1, h2⟩ hg' hr
  refine ⟨h1.grown hg' ?_ ?_, ?_⟩
  · intro e; have := (hr b e.symm).1; omega
  · intro e; have := (hr g e.symm).1; omega
  · refine ⟨hg'.os.trans h2.os, hg'.tape.trans h2.tape, hg'.output.trans h2.output, Nat.le_trans h2.size hg'.size, fun k hk hne => ?_⟩
    exact (hg'.block k (Nat.lt_of_lt_of_le hk h2.size) (fun e => by have := (hr k e.symm).1; omega)).trans (h2.block k hk hne)

theorem settling_sees (cnt : Nat → Nat) {w0 : World} {Bm Bi fi : Nat} (hm : w0.cell? ⟨Bm, 0, none⟩ = some (.pointer (some ⟨b, 0, none⟩))) (hi : w0.cell? ⟨Bi, 0, none⟩ = some (.func (.func fi) #[] #[])) (nm : Bm ≠ g) (ni : Bi ≠ g) (p : Sec → Bool)
    (pre : List Nat) (W : World) (h : Settling cnt w0 b g M pre W) : Sees b g Bm Bi fi M.length p (fun i => ((M[i]?).map p).getD false) pre W := by
  obtain ⟨h1, h2⟩ := h
  refine ⟨_, h1, doneM_len _ _ _, h2.cell hm (by simp; exact nm), h2.cell hi (by simp; exact ni), fun i s hl hs => ?_⟩
  rw [doneM_at cnt M pre i (fun j hj e => by have := hl j hj; omega)] at hs
  simp [hs]

theorem keepsOthers_grown {W W' : World} {tM tS : TypeId} {M' : List Sec} (hM : IsMem tM tS W b g M') (hg : W.grownBy W' (some g)) : KeepsOthers W W' := by
  obtain ⟨cap, cur, _, h2, _⟩ := hM.body
  refine KeepsOthers.of_grownBy hg (fun j o e hj => ?_)
  cases e
  unfold Blk at h2
  rw [h2] at hj
  cases hj
  rfl

/-- A block that a loop has laid, turned at the function's return. -/
theorem grown_put {w0 W : World} {row : Option Nat} (h : w0.grownBy W row) {D : Nat} (hD : w0.heap.size ≤ D) (o : Obj) : w0.grownBy (W.putObj D o) row := by
  have hp := grownBy_putObj' W D o
  refine ⟨hp.os.trans h.os, hp.tape.trans h.tape, hp.output.trans h.output, Nat.le_trans h.size hp.size, fun k hk hne => ?_⟩
  exact (hp.block k (Nat.lt_of_lt_of_le hk h.size) (fun e => by cases e; omega)).trans (h.block k hk hne)

set_option maxHeartbeats 4000000 in
theorem Flush_any (h : PMem w b g M) (hf : Fine M) (hN : M.length ≤ 1048576) :
    Calls Tryd.prog 68 #[.pointer (some ⟨b, 0, none⟩)] w fun e w' => e = .returned (.tuple #[]) ∧ PMem w' b g (doneM (fun _ => 64) M (idxs Sec.dirty M)) ∧ w.grownBy w' (some g) := by
  refine (callsIn_wide (n := 4)).1 ?_
  refine callsIn_of_wp_marks Tryd.func68 rfl trivial ?_ rfl
  simp only [Tryd.ntmps68, List.size_toArray, List.length_cons, List.length_nil, Nat.reduceAdd, Nat.reduceSub, Array.replicate_succ, Array.replicate_zero, List.push_toArray, List.append_toArray, List.nil_append, List.cons_append]
  gi_wp2_with (refine ⟨trivial, ?_⟩; gi_at_call 49; refine (callsIn_wide.2 (such_any _ _ _)).mono ?_; rintro e w' ⟨rfl, rfl⟩)
  have hlt := h.lt
  obtain ⟨w0, hw0⟩ : ∃ w0, (w.alloc (.cells #[.pointer (some ⟨b, 0, none⟩)] 66)).alloc (.cells #[.func (.func 50) #[] #[]] 105) = w0 := ⟨_, rfl⟩
  have hs0 : w0.heap.size = w.heap.size + 2 := by rw [← hw0]; simp
  have hB0 : Below w.heap.size w w0 := by rw [← hw0]; exact ((Below.refl _ w).alloc (Nat.le_refl _) _).alloc (by simp) _
  have hm0 : w0.cell? ⟨w.heap.size, 0, none⟩ = some (.pointer (some ⟨b, 0, none⟩)) := by
    rw [← hw0]; exact (((Blk.new w 66 #[.pointer (some ⟨b, 0, none⟩)]).alloc _).cell 0).trans rfl
  have hi0 : w0.cell? ⟨w.heap.size + 1, 0, none⟩ = some (.func (.func 50) #[] #[]) := by
    rw [← hw0]
    have := (Blk.new (w.alloc (.cells #[.pointer (some ⟨b, 0, none⟩)] 66)) 105 #[.func (.func 50) #[] #[]]).cell 0
    rw [World.size_alloc] at this
    exact this
  have hM0 : PMem w0 b g M := h.below hB0 hlt.1 hlt.2
  rw [hw0]
  refine wpIn_rangeFunc_all rfl (by decide) (gf := 69) (lb := #[.pointer (some ⟨w.heap.size, 0, none⟩), .pointer (some ⟨w.heap.size + 1, 0, none⟩)]) rfl trivial (enters_of Tryd.func69 (by kernel_rfl) rfl)
    (such_seq Fence.wide 3 trivial rfl (by decide) b g w.heap.size (w.heap.size + 1) 50 M.length Sec.dirty (fun i => ((M[i]?).map Sec.dirty).getD false) trivial hN enters_dirty (looks_dirty _)) (fun _ => rfl)
    (Settling (fun _ => 64) w0 b g M) (settling_own _ (by omega) (by omega)) (settling_sees _ hm0 hi0 (by omega) (by omega) Sec.dirty) ⟨hM0, grown_refl _ _⟩
    (fun i => { tmps := #[.pointer (some ⟨b, 0, none⟩), undef, undef, .pointer (some ⟨g, i * 5, none⟩), .pointer (some ⟨b, 0, none⟩), .func (.func 69) #[] #[.pointer (some ⟨w.heap.size, 0, none⟩), .pointer (some ⟨w.heap.size + 1, 0, none⟩)], .int .i64 i, .pointer (some ⟨g, i * 5, none⟩), undef, undef], defers := [] }) ?assign ?body ?done
  case assign =>
    intro l x W K hK
    gi_wp2
    exact hK
  case body =>
    rintro l pre x W ⟨hM, hgr⟩ ⟨hx, hP, hpre⟩
    have hs := List.getElem?_eq_getElem hx
    have hd : M[x].dirty = true := by simpa [hs] using hP
    have hne : ∀ j ∈ pre, j ≠ x := fun j hj e => by have := upto_lt _ _ j (hpre ▸ hj); omega
    have hs2 : (doneM (fun _ => 64) M pre)[x]? = some M[x] := by rw [doneM_at _ _ _ _ hne, hs]
    have hfx := hf M[x] (List.getElem_mem hx)
    have hc := Lib.hid (settle_any hM x M[x] 64 hs2 (Nat.le_refl _) (hfx.2.2 hd) hfx.1)
    have hdn : Hid (doneM (fun _ => 64) M (pre ++ [x]) = (doneM (fun _ => 64) M pre).set x (M[x].settle 64)) := by
      unfold Hid; rw [doneM_snoc, List.getD, hs]; rfl
    clear hP hpre hne hs hs2 hd
    gi_wp2_with (refine ⟨trivial, ?_⟩; gi_at_call 51; refine (CallsIn.inRound l (callsIn_wide.2 hc.out)).mono ?_; rintro e w' ⟨rfl, h1, h2⟩)
    exact ⟨keepsOthers_grown hM h2, by rw [Settling, hdn.out]; exact ⟨h1, grown_trans hgr h2⟩⟩
  case done =>
    rintro D xs W hD rfl ⟨hM, hgr⟩ hK
    gi_wp2
    refine ⟨by simp, .inl ⟨_, _, rfl, run_takeDeferred hK, ?_⟩⟩
    refine ⟨_, results_none rfl _ _ _, rfl, hM.grown (grownBy_putObj' W D (.deferred none)) (fun e => by cases e; omega) (fun e => by cases e; omega), ?_⟩
    exact grown_put (grown_trans (grown_below hB0 (Nat.le_refl _) _) hgr) (by omega) _
end
end Go.Proofs.YtgdpgiegiacepaaDoor
