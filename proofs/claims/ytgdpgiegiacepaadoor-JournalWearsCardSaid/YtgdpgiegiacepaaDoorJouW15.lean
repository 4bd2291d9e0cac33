/-
  Layer 25 (journal): take.
-/
import Derived.Test.YtgdpgiegiacepaaDoorG16
import Derived.Test.YtgdpgiegiacepaaDoorG13
import Derived.RangeFuncBox
import Derived.Deep.RegionHeld3
import Derived.Deep.AppendLies
namespace Go.Proofs.YtgdpgiegiacepaaDoor
open Go.RowKit Go.Shelf
attribute [local go_sem] Oper.semAt_some

def entOf (x : Nat × Nat × List UInt8) : Nat × ByteArray := (x.2.1, ⟨x.2.2.toArray⟩)
def usedOf (xs : List (Nat × Nat × List UInt8)) : Nat := (xs.getLast?.map fun x => x.1).getD 0
theorem recsF_len (B : Rows8) : ∀ (f u last : Nat), (recsF f B u last).length ≤ f
  | 0, _, _ => Nat.le_refl _
  | f + 1, u, last => by
    show (match recAt B u last with | none => [] | some x => x :: recsF f B x.1 x.2.1).length ≤ f + 1
    cases recAt B u last with
    | none => exact Nat.zero_le _
    | some x => exact Nat.succ_le_succ (recsF_len B f _ _)
theorem recs_len (B : Rows8) : (recs B).length ≤ B.length + 1 := recsF_len B _ _ _
theorem usedOf_snoc (pre : List (Nat × Nat × List UInt8)) (x : Nat × Nat × List UInt8) : usedOf (pre ++ [x]) = x.1 := by simp [usedOf]
theorem entCells_snoc2 (pre : List (Nat × Nat × List UInt8)) (x : Nat × Nat × List UInt8) : entCells ((pre ++ [x]).map entOf) = entCells (pre.map entOf) ++ [.int .i64 (x.2.1 : Int), .string ⟨x.2.2.toArray⟩] := by
  rw [List.map_append]
  unfold entCells
  rw [List.flatMap_append]
  rfl
theorem blk_row {W : World} {row : Option Nat} {k : Nat} {t : TypeId} {cs : Array Value} (hk : Blk W k t cs) (hr : ∀ r, row = some r → ∃ o : Obj, W.heap[r]? = some o ∧ o.isCells = false) : some k ≠ row := by
  intro e
  obtain ⟨o, ho, hc⟩ := hr k e.symm
  unfold Blk at hk
  rw [hk] at ho
  cases ho
  cases hc
theorem ownsRow_grown {W W' : World} {row : Option Nat} {base sz n : Nat} {e : TypeId} {v : Value} {cs : List Value} (h : W.ownsRow base e sz v n cs) (hg : W.grownBy W' row) (hr : ∀ r, row = some r → ∃ o : Obj, W.heap[r]? = some o ∧ o.isCells = false) : W'.ownsRow base e sz v n cs := by
  obtain ⟨hl, ⟨rfl, h0⟩ | ⟨g, cap, cur, rfl, h1, h2, h3⟩⟩ := h
  · exact ⟨hl, .inl ⟨rfl, h0⟩⟩
  · have hk : Blk W g e cur := h2
    exact ⟨hl, .inr ⟨g, cap, cur, rfl, h1, hk.grown hg (blk_row hk hr), h3⟩⟩
/-- The journal's block while its records are taken. -/
def Taking (w : World) (bx bb jb g o c : Nat) (l : List ByteArray) (f0 f1 f4 f6 f7 : Value) (bank : Nat) (pre : List (Nat × Nat × List UInt8)) (W : World) : Prop :=
  Blk W bx 25 #[.pointer (some ⟨jb, 0, none⟩)] ∧ Blk W bb 38 #[.slice (some ⟨g, o, none⟩) l.length c] ∧ RowAt W g o c l ∧
    (∃ u, Blk W jb 57 #[f0, f1, .int .i64 bank, .int .i64 (usedOf pre : Int), f4, u, f6, f7] ∧ W.ownsRow w.heap.size 62 2 u pre.length (entCells (pre.map entOf))) ∧ w.grownBy W (some jb)
section
variable {w : World} {bx bb jb g o c bank : Nat} {l : List ByteArray} {f0 f1 f4 f6 f7 : Value}
theorem rowAt_grown {W W' : World} {row : Option Nat} (h : RowAt W g o c l) (hg : W.grownBy W' row) (hr : some g ≠ row) : RowAt W' g o c l :=
  ⟨Nat.lt_of_lt_of_le h.1 hg.size, h.2.1, h.2.2.1, fun i t ht => hg.cell (h.2.2.2 i t ht) hr⟩
theorem rowAt_row {W : World} {row : Option Nat} (h : RowAt W g o c l) (h0 : 0 < l.length) (hr : ∀ r, row = some r → ∃ o : Obj, W.heap[r]? = some o ∧ o.isCells = false) : some g ≠ row := by
  intro e
  obtain ⟨ob, h1, h2⟩ := hr g e.symm
  have h3 := h.2.2.2 0 l[0] (List.getElem?_eq_getElem h0)
  unfold World.cell? at h3
  rw [h1] at h3
  cases ob <;> first | (simp [Obj.isCells] at h2; done) | (simp at h3; done)

/-- A record more, and the slice stored. -/
theorem taking_app {V w4 : World} {u : Value} {k g2 cap z N n : Nat} {T : ByteArray} {cs : List Value} (hg : g < w.heap.size) (_hjb : jb < w.heap.size) (hbx : bx ≠ jb) (hbb : bb ≠ jb) (hgj : g ≠ jb) (hkj : k ≠ jb) (hok : u.ownBlock ≠ some k)
    (k1 : Blk V bx 25 #[.pointer (some ⟨jb, 0, none⟩)]) (k2 : Blk V bb 38 #[.slice (some ⟨g, o, none⟩) l.length c]) (k3 : RowAt V g o c l) (k4 : Blk V jb 57 #[f0, f1, .int .i64 bank, .int .i64 z, f4, u, f6, f7]) (k5 : V.ownsRow w.heap.size 62 2 u n cs)
    (k6 : w.grownBy V (some jb)) (kk : Blk V k 62 #[.int .i64 N, .string T])
    (hown : w4.ownsRow w.heap.size 62 2 (.slice (some ⟨g2, 0, none⟩) (n + 1) cap) (n + 1) (cs ++ [.int .i64 N, .string T])) (hgrow : (V.drew.alloc (.cells #[.int .i64 N, .string T] 62)).grownBy w4 u.ownBlock) :
    Blk w4 jb 57 #[f0, f1, .int .i64 bank, .int .i64 z, f4, u, f6, f7] ∧ Blk w4 bx 25 #[.pointer (some ⟨jb, 0, none⟩)] ∧ Blk w4 k 62 #[.int .i64 N, .string T] ∧
    Blk (w4.setCell ⟨jb, 5, none⟩ (.slice (some ⟨g2, 0, none⟩) (n + 1) cap)) bx 25 #[.pointer (some ⟨jb, 0, none⟩)] ∧ Blk (w4.setCell ⟨jb, 5, none⟩ (.slice (some ⟨g2, 0, none⟩) (n + 1) cap)) k 62 #[.int .i64 N, .string T] ∧
    Blk (w4.setCell ⟨jb, 5, none⟩ (.slice (some ⟨g2, 0, none⟩) (n + 1) cap)) bb 38 #[.slice (some ⟨g, o, none⟩) l.length c] ∧ RowAt (w4.setCell ⟨jb, 5, none⟩ (.slice (some ⟨g2, 0, none⟩) (n + 1) cap)) g o c l ∧
    Blk (w4.setCell ⟨jb, 5, none⟩ (.slice (some ⟨g2, 0, none⟩) (n + 1) cap)) jb 57 #[f0, f1, .int .i64 bank, .int .i64 z, f4, .slice (some ⟨g2, 0, none⟩) (n + 1) cap, f6, f7] ∧
    (w4.setCell ⟨jb, 5, none⟩ (.slice (some ⟨g2, 0, none⟩) (n + 1) cap)).ownsRow w.heap.size 62 2 (.slice (some ⟨g2, 0, none⟩) (n + 1) cap) (n + 1) (cs ++ [.int .i64 N, .string T]) ∧
    w.grownBy (w4.setCell ⟨jb, 5, none⟩ (.slice (some ⟨g2, 0, none⟩) (n + 1) cap)) (some jb) ∧ KeepsOthers V (w4.setCell ⟨jb, 5, none⟩ (.slice (some ⟨g2, 0, none⟩) (n + 1) cap)) := by
  have gV : V.grownBy (V.drew.alloc (.cells #[.int .i64 N, .string T] 62)) u.ownBlock := by
    have h := World.grownBy_alloc V.drew (.cells #[.int .i64 N, .string T] 62) u.ownBlock
    exact ⟨h.os, h.tape, h.output, h.size, h.block⟩
  have gA := gV.trans hgrow
  have q1 := k1.grown gA (own_blk_ne k5 k1 (by decide)).symm
  have q2 := k2.grown gA (own_blk_ne k5 k2 (by decide)).symm
  have q3 := rowAt_grown k3 gA (fun e => by have := (k5.lt _ e.symm).1; omega)
  have q4 := k4.grown gA (own_blk_ne k5 k4 (by decide)).symm
  have qk := kk.grown gA hok.symm
  have gs := grown_set w4 jb 5 (.slice (some ⟨g2, 0, none⟩) (n + 1) cap)
  refine ⟨q4, q1, qk, q1.grown gs (by simp; exact hbx), qk.grown gs (by simp; exact hkj), q2.grown gs (by simp; exact hbb), rowAt_grown q3 gs (by simp; exact hgj), q4.set_ 5 _, hown.kept gs (.inr (own_blk_ne hown q4 (by decide))), ?_, ?_⟩
  · exact (k6.andThen gA (fun j e => .inl (k5.lt j e).1)).trans gs
  · refine (KeepsOthers.of_grownBy gA (fun j ob e ho => ?_)).trans (KeepsOthers.setCell _ _ _)
    obtain ⟨hl, ⟨rfl, h0⟩ | ⟨g3, cap3, cur, rfl, h1, h2, h3⟩⟩ := k5
    · cases e
    · cases e
      rw [h2] at ho
      cases ho
      rfl
theorem taking_own (B : Nat) (hB : w.heap.size ≤ B) (h0 : 0 < l.length) : OwnFrom B (Taking w bx bb jb g o c l f0 f1 f4 f6 f7 bank) := by
  rintro pre W W' row ⟨h1, h2, h3, ⟨u, h4, h5⟩, h6⟩ hg hr
  have hr2 := fun r e => (hr r e).2
  refine ⟨h1.grown hg (blk_row h1 hr2), h2.grown hg (blk_row h2 hr2), rowAt_grown h3 hg (rowAt_row h3 h0 hr2), ⟨u, h4.grown hg (blk_row h4 hr2), ownsRow_grown h5 hg hr2⟩, h6.andThen hg (fun j e => .inl (by have := (hr j e).1; omega))⟩
set_option maxRecDepth 100000 in
set_option maxHeartbeats 4000000 in
theorem jtake_any {n0 : Value} {u0 : Value} {n1 : Value} (hj : Blk w jb 57 #[f0, f1, n0, n1, f4, u0, f6, f7]) (hrow : RowAt w g o c l) (h0 : 0 < l.length) (hl : l.length ≤ 4096) (hgj : g ≠ jb) :
    Calls Tryd.prog 34 #[.pointer (some ⟨jb, 0, none⟩), .int .i64 bank, .slice (some ⟨g, o, none⟩) l.length c] w fun e w' =>
      (∃ v, e = .returned v) ∧ ∃ u, Blk w' jb 57 #[f0, f1, .int .i64 bank, .int .i64 (usedOf (recs (rowsOf l)) : Int), f4, u, f6, f7] ∧ w'.ownsRow w.heap.size 62 2 u (recs (rowsOf l)).length (entCells ((recs (rowsOf l)).map entOf)) ∧ w.grownBy w' (some jb) := by
  obtain ⟨i0, hi, hz0, hz1, hz2⟩ := info_parts infoEnt
  have hB1 : Below w.heap.size w (w.alloc (.cells #[.pointer (some ⟨jb, 0, none⟩)] 25)) := (Below.refl _ w).alloc (Nat.le_refl _) _
  have hx1 := Blk.new w 25 #[.pointer (some ⟨jb, 0, none⟩)]
  obtain ⟨w1, hw1⟩ : ∃ w1, w.alloc (.cells #[.pointer (some ⟨jb, 0, none⟩)] 25) = w1 := ⟨_, rfl⟩
  have hs1 : w1.heap.size = w.heap.size + 1 := by rw [← hw1]; simp
  rw [hw1] at hB1 hx1
  have hj1 := hj.below hB1 hj.lt
  have hrow1 := hrow.below hB1
  have hjlt := hj.lt
  have hg1 : w.grownBy w1 (some jb) := by rw [← hw1]; exact World.grownBy_alloc _ _ _
  refine (callsIn_wide (n := 4)).1 ?_
  refine callsIn_of_wp_marks Tryd.func34 rfl trivial ?_ rfl
  simp only [Tryd.ntmps34, List.size_toArray, List.length_cons, List.length_nil, Nat.reduceAdd, Nat.reduceSub, Array.replicate_succ, Array.replicate_zero, List.push_toArray, List.append_toArray, List.nil_append, List.cons_append]
  have y0 : w1.cell? ⟨w.heap.size, 0, none⟩ = some (.pointer (some ⟨jb, 0, none⟩)) := hx1.cell 0
  have y2 : w1.cell? ⟨jb, 2, none⟩ = some n0 := hj1.cell 2
  have y3 : w1.cell? ⟨jb, 3, none⟩ = some n1 := hj1.cell 3
  have y5 : w1.cell? ⟨jb, 5, none⟩ = some u0 := hj1.cell 5
  have z2 := hj1.frozen 2
  have z3 := hj1.frozen 3
  have z5 := hj1.frozen 5
  have hne : jb ≠ w.heap.size := by omega
  gi_wp2_with fail
  refine wpIn_wide.2 ?_
  go_region_held3 (fun w' => w'.cell? ⟨w.heap.size, 0, none⟩ = some (.pointer (some ⟨jb, 0, none⟩))) (go_keep) (fail)
  have hj2 := (((hj1.set_ 2 (.int .i64 (bank : Int))).set_ 3 (.int .i64 0)).set_ 5 (.slice none 0 0)).drew
  have g2 := ((grown_set w1 jb 2 (.int .i64 (bank : Int))).trans (grown_set _ jb 3 (.int .i64 0))).trans (grown_set _ jb 5 (.slice none 0 0))
  have g3 : w1.grownBy (((w1.setCell ⟨jb, 2, none⟩ (.int .i64 (bank : Int))).setCell ⟨jb, 3, none⟩ (.int .i64 0)).setCell ⟨jb, 5, none⟩ (.slice none 0 0)).drew (some jb) := ⟨g2.os, g2.tape, g2.output, g2.size, g2.block⟩
  clear g2 y0 y2 y3 y5 z2 z3 z5
  generalize (((w1.setCell ⟨jb, 2, none⟩ (.int .i64 (bank : Int))).setCell ⟨jb, 3, none⟩ (.int .i64 0)).setCell ⟨jb, 5, none⟩ (.slice none 0 0)).drew = w2 at *
  have hx2 : Blk w2 w.heap.size 25 #[.pointer (some ⟨jb, 0, none⟩)] := hx1.grown g3 (by simp; omega)
  have hrow2 := rowAt_grown hrow1 g3 (by simp; exact hgj)
  have hg2 : w.grownBy w2 (some jb) := hg1.trans g3
  have hs2 : w.heap.size + 1 ≤ w2.heap.size := by rw [← hs1]; exact g3.size
  gi_wp2_with (refine ⟨trivial, ?_⟩; gi_at_call 33; refine (callsIn_wide.2 (jrecords_any w2 (some ⟨g, o, none⟩) l.length c)).mono ?_; rintro e w3 ⟨rfl, hb3, hB3⟩)
  have hle : w.heap.size ≤ w3.heap.size := by have := hB3.size; omega
  refine wpIn_rangeFunc_steps2 rfl (by decide) (gf := 54) (lb := #[.pointer (some ⟨w2.heap.size, 0, none⟩)]) rfl trivial (enters_of Tryd.func54 (by kernel_rfl) rfl)
    (jrecords1_seq 3 (by decide) w2.heap.size g o c l hl) (fun _ => rfl)
    (Taking w w.heap.size w2.heap.size jb g o c l f0 f1 f4 f6 f7 bank) (fun _ _ _ => False) (taking_own _ hle h0) (fun _ _ _ _ _ h _ _ => h)
    (fun pre W1 hI => ⟨hI.2.1, hI.2.2.1⟩) (fun pre x _ W W' row h hg hr => h)
    ⟨hx2.below hB3 hx2.lt, hb3, hrow2.below hB3, ⟨_, hj2.below hB3 hj2.lt, World.ownsRow_nil _ _ _ _⟩, hg2.andThen (row' := none) ⟨hB3.os, hB3.tape, hB3.output, hB3.size, fun k hk _ => hB3.block k hk⟩ (fun j e => by cases e)⟩
    (fun _ x a₁ W => ∃ (k : Nat) (cs : Array Value) (u : Value), Blk W jb 57 cs ∧ cs[5]? = some u ∧ u.ownBlock ≠ some k ∧ a₁ = { tmps := #[.pointer (some ⟨jb, 0, none⟩), .int .i64 bank, .slice (some ⟨g, o, none⟩) l.length c, .pointer (some ⟨w.heap.size, 0, none⟩), undef, undef, .int .i64 (x.1 : Int), .pointer (some ⟨k, 0, none⟩), .pointer (some ⟨jb, 0, none⟩), .pointer (some ⟨jb, 0, none⟩), .pointer (some ⟨jb, 0, none⟩), .int .i64 bank, .pointer (some ⟨jb, 0, none⟩), .pointer (some ⟨jb, 2, none⟩), .pointer (some ⟨jb, 0, none⟩), .pointer (some ⟨jb, 3, none⟩), .pointer (some ⟨jb, 0, none⟩), .pointer (some ⟨jb, 5, none⟩), .slice (some ⟨g, o, none⟩) l.length c, .func (.func 54) #[] #[.pointer (some ⟨w2.heap.size, 0, none⟩)], .int .i64 (x.1 : Int), .agg #[.int .i64 (x.2.1 : Int), .string ⟨x.2.2.toArray⟩], undef, undef, undef, undef, undef, undef, undef, undef, undef, undef, undef, undef, undef, undef], defers := [] } ∧ Blk W k 62 #[.int .i64 (x.2.1 : Int), .string ⟨x.2.2.toArray⟩]) ?has ?assign ?body ?done ?stop
  case has =>
    rintro pre x a₁ _ W W' row ⟨k, cs, u, hb, hu, hne, e, hk⟩ hg hr
    exact ⟨k, cs, u, hb.grown hg (blk_row hb (fun r e => (hr r e).2)), hu, hne, e, hk.grown hg (blk_row hk (fun r e => (hr r e).2))⟩
  case assign =>
    rintro lv pre ⟨z, N, T⟩ W K hW ⟨j1, j2, j3, ⟨u, j4, j5⟩, j6⟩ hK
    have HK := Lib.hid hK
    have hok : Hid (u.ownBlock ≠ some W.heap.size) := fun e => by have := (j5.lt _ e).2; omega
    have H4 := Lib.hid (j4.alloc (.cells #[.int .i64 (N : Int), .string ⟨T.toArray⟩] 62))
    clear hK j1 j2 j3 j4 j5 j6
    dsimp only [recV]
    gi_wp2
    exact HK.out _ _ ⟨W.heap.size, _, u, H4.out, rfl, hok.out, rfl, Blk.new _ _ _⟩ ((Below.refl _ _).alloc (Nat.le_refl _) _)
  case body =>
    rintro lv pre ⟨z, N, T⟩ _ W hW ⟨j1, j2, j3, ⟨u, j4, j5⟩, j6⟩ hnx ⟨k, cs, u', hcs, hu', hok, rfl, hk⟩
    obtain rfl : u' = u := by
      have e : Obj.cells cs 57 = Obj.cells _ 57 := Option.some.inj (hcs.symm.trans j4)
      cases e
      exact (Option.some.inj hu').symm
    have hlen : pre.length < (recs (rowsOf l)).length := (List.getElem?_eq_some_iff.1 hnx).1
    have hrl := recs_len (rowsOf l)
    have hlr : (rowsOf l).length = l.length := List.length_map ..
    have hmx : Hid (pre.length + 1 ≤ maxLen ∧ pre.length ≤ 4096) := by
      unfold Hid maxLen
      omega
    have c0 : W.cell? ⟨w.heap.size, 0, none⟩ = some (.pointer (some ⟨jb, 0, none⟩)) := j1.cell 0
    have c3 : W.cell? ⟨jb, 3, none⟩ = some (.int .i64 (usedOf pre : Int)) := j4.cell 3
    have f3 := j4.frozen 3
    have hnk : jb ≠ k := fun e => j4.ne_ hk (by decide) e
    have k4 := j4.set_ 3 (.int .i64 (z : Int))
    have k1 := j1.grown (grown_set W jb 3 (.int .i64 (z : Int))) (by simp; omega)
    have k2 := j2.grown (grown_set W jb 3 (.int .i64 (z : Int))) (by simp; omega)
    have k3 := rowAt_grown j3 (grown_set W jb 3 (.int .i64 (z : Int))) (by simp; exact hgj)
    have k5 := j5.kept (grown_set W jb 3 (.int .i64 (z : Int))) (.inr (own_blk_ne j5 j4 (by decide)))
    have k6 := j6.trans (grown_set W jb 3 (.int .i64 (z : Int)))
    have kk := hk.grown (grown_set W jb 3 (.int .i64 (z : Int))) (by simp; exact fun e => hnk e.symm)
    have kK := KeepsOthers.setCell W ⟨jb, 3, none⟩ (.int .i64 (z : Int))
    dsimp only
    gi_wp2_with fail
    clear c0 c3 f3 j1 j2 j3 j4 j5 j6 hk hcs
    generalize hV : W.setCell ⟨jb, 3, none⟩ (.int .i64 (z : Int)) = V at *
    have x1 : V.drew.cell? ⟨w.heap.size, 0, none⟩ = some (.pointer (some ⟨jb, 0, none⟩)) := k1.drew.cell 0
    have x2 : V.drew.cell? ⟨k, 0, none⟩ = some (.int .i64 (N : Int)) := kk.drew.cell 0
    have x3 : V.drew.cell? ⟨k, 1, none⟩ = some (.string ⟨T.toArray⟩) := kk.drew.cell 1
    have x5 : V.drew.cell? ⟨jb, 5, none⟩ = some u' := k4.drew.cell 5
    have kA := k1.drew.alloc (.cells #[.int .i64 (N : Int), .string ⟨T.toArray⟩] 62)
    have kB := kk.drew.alloc (.cells #[.int .i64 (N : Int), .string ⟨T.toArray⟩] 62)
    have hSA : (V.drew.alloc (.cells #[.int .i64 (N : Int), .string ⟨T.toArray⟩] 62)).cell? ⟨w.heap.size, 0, none⟩ = some (.pointer (some ⟨jb, 0, none⟩)) ∧ (V.drew.alloc (.cells #[.int .i64 (N : Int), .string ⟨T.toArray⟩] 62)).cell? ⟨k, 0, none⟩ = some (.int .i64 (N : Int)) ∧ (V.drew.alloc (.cells #[.int .i64 (N : Int), .string ⟨T.toArray⟩] 62)).cell? ⟨k, 1, none⟩ = some (.string ⟨T.toArray⟩) := ⟨kA.cell 0, kB.cell 0, kB.cell 1⟩
    have x6 : (V.alloc (.cells #[.int .i64 (N : Int), .string ⟨T.toArray⟩] 62)).drew.cell? ⟨jb, 5, none⟩ = some u' := (k4.drew.alloc (.cells #[.int .i64 (N : Int), .string ⟨T.toArray⟩] 62)).cell 5
    have hkA : Hid ((V.drew.alloc (.cells #[.int .i64 (N : Int), .string ⟨T.toArray⟩] 62)).ownsRow w.heap.size 62 2 u' pre.length (entCells (pre.map entOf))) := (k5.drew).alloc _
    have hsA : Hid (w.heap.size ≤ (V.drew.alloc (.cells #[.int .i64 (N : Int), .string ⟨T.toArray⟩] 62)).heap.size) := by
      have := k6.size
      unfold Hid
      rw [World.size_alloc]
      exact Nat.le_succ_of_le this
    have hnb : w2.heap.size ≠ jb := by omega
    refine region_round (S := fun w' => w'.cell? ⟨w.heap.size, 0, none⟩ = some (.pointer (some ⟨jb, 0, none⟩)) ∧ w'.cell? ⟨k, 0, none⟩ = some (.int .i64 (N : Int)) ∧ w'.cell? ⟨k, 1, none⟩ = some (.string ⟨T.toArray⟩)) (by kernel_rfl) (by kernel_rfl) (by rintro ⟨a, w, h⟩; exact h) ⟨x1, x2, x3⟩ (fun hHeld => ?_)
    refine' wpAnyH_take (i := 0) (v := ?v0) rfl (by kernel_rfl) (by kernel_rfl) (by kernel_rfl) (fun _ _ _ h => h) (Or.inl ⟨by rfl, ?hy0⟩) hHeld ?rest0
    case hy0 =>
      intro w hSw
      try dsimp only at hSw
      go_simp
      all_goals with_reducible rfl
    try simp only [Act.put, List.setIfInBounds_toArray]
    refine' wpAnyH_take (i := 1) (v := ?v1) rfl (by kernel_rfl) (by kernel_rfl) (by kernel_rfl) (fun _ _ _ h => h) (Or.inl ⟨by rfl, ?hy1⟩) hHeld ?rest1
    case hy1 =>
      intro w hSw
      try dsimp only at hSw
      go_simp
      all_goals with_reducible rfl
    try simp only [Act.put]
    refine' wpAnyH_take (i := 2) (v := ?v2) rfl (by kernel_rfl) (by kernel_rfl) (by kernel_rfl) (fun _ _ _ h => h) (Or.inl ⟨by rfl, ?hy2⟩) hHeld ?rest2
    case hy2 =>
      intro w hSw
      try dsimp only at hSw
      go_simp
      all_goals with_reducible rfl
    try simp only [Act.put]
    refine' wpAnyH_take (i := 3) (v := ?v3) rfl (by kernel_rfl) (by kernel_rfl) (by kernel_rfl) (fun _ _ _ h => h) (Or.inl ⟨by rfl, ?hy3⟩) hHeld ?rest3
    case hy3 =>
      intro w hSw
      try dsimp only at hSw
      go_simp
      all_goals with_reducible rfl
    try simp only [Act.put]
    refine' wpAnyH_take (i := 5) (v := ?v5) rfl (by kernel_rfl) (by kernel_rfl) (by kernel_rfl) (fun _ _ _ h => h) (Or.inl ⟨by rfl, ?hy5⟩) hHeld ?rest5
    case hy5 =>
      intro w hSw
      try dsimp only at hSw
      go_simp
      all_goals with_reducible rfl
    try simp only [Act.put]
    refine wpAnyH_ready (rs := [4, 6]) (by kernel_rfl) (by simp) ?_
    refine AllReadyH.cons rfl (fun K hK => ?_) (AllReadyH.cons rfl (fun K hK => ?_) AllReadyH.nil)
    · go_simp
      refine hK.out _ _ hHeld (fun hHeld => ?_)
      clear hK K
      try simp only [Act.put, List.setIfInBounds_toArray, List.set_cons_zero, List.set_cons_succ]
      refine wpAnyH_ready (rs := [6]) (by kernel_rfl) (by simp) ?_
      refine AllReadyH.cons rfl (fun K hK => ?_) AllReadyH.nil
      go_simp
      refine hK.out _ _ hSA (fun hHeld => ?_)
      clear hK K
      try simp only [Act.put, List.setIfInBounds_toArray, List.set_cons_zero, List.set_cons_succ]
      refine wpAnyH_ready (rs := [7]) (by kernel_rfl) (by simp) ?_
      refine AllReadyH.cons rfl (fun K hK => ?_) AllReadyH.nil
      refine step_append_lies _ (by rfl) _ _ _ (by rfl) w.heap.size 62 i0 _ 2 24 Tryd.underlying55 hi hz0 hz1 hz2 rfl (by omega) u' pre.length (entCells (pre.map entOf)) (by rfl) (hkA.out) ⟨V.heap.size, 0, none⟩ 1 1 [.int .i64 (N : Int), .string ⟨T.toArray⟩] (by rfl) (by rfl) (fun j u hu => World.news_of_block (heap_alloc_new V.drew _) j u hu) (by simp [Value.oneCell']) (by omega) hmx.out.1 (by have := hmx.out.2; omega) hsA.out (V.heap.size + 1) (by simp) ?_
      intro g2 cap w4 hown4 hgrow4 _ _
      obtain ⟨p4, p1, pk, r1, rk, r2, r3, r4, r5, r6, r7⟩ := taking_app hrow.1 hjlt hne.symm hnb hgj hnk.symm hok k1 k2 k3 k4 k5 k6 kk hown4 hgrow4
      have y5 : w4.cell? ⟨jb, 5, none⟩ = some u' := p4.cell 5
      have g5 := p4.frozen 5
      refine hK.out _ _ ⟨p1.cell 0, pk.cell 0, pk.cell 1⟩ (fun hHeld => ?_)
      clear hK K hown4 hgrow4
      try simp only [Act.put, List.setIfInBounds_toArray]
      refine' wpAnyH_take (i := 8) (v := ?v8a) rfl (by kernel_rfl) (by kernel_rfl) (by kernel_rfl) (fun _ _ _ h => h) (Or.inl ⟨by rfl, ?hy8a⟩) hHeld ?rest8a
      case hy8a =>
        intro w hSw
        try dsimp only at hSw
        go_simp
        all_goals with_reducible rfl
      try simp only [Act.put]
      refine' wpAnyH_take (i := 9) (v := ?v9a) rfl (by kernel_rfl) (by kernel_rfl) (by kernel_rfl) (fun _ _ _ h => h) (Or.inl ⟨by rfl, ?hy9a⟩) hHeld ?rest9a
      case hy9a =>
        intro w hSw
        try dsimp only at hSw
        go_simp
        all_goals with_reducible rfl
      try simp only [Act.put]
      refine wpAnyH_ready (rs := [10]) (by kernel_rfl) (by simp) ?_
      refine AllReadyH.cons rfl (fun K hK => ?_) AllReadyH.nil
      go_simp
      refine hK.out _ _ ⟨r1.cell 0, rk.cell 0, rk.cell 1⟩ (fun hHeld => ?_)
      clear hK K
      refine wpAnyH_done (by kernel_rfl) ?_ _
      refine ⟨kK.trans r7, r1, r2, r3, ⟨.slice (some ⟨g2, 0, none⟩) (pre.length + 1) cap, ?_, ?_⟩, r6⟩
      · rw [usedOf_snoc]; exact r4
      · rw [entCells_snoc2, List.length_append]; exact r5
    · go_simp
      refine hK.out _ _ hSA (fun hHeld => ?_)
      clear hK K
      try simp only [Act.put, List.setIfInBounds_toArray, List.set_cons_zero, List.set_cons_succ]
      refine wpAnyH_ready (rs := [4]) (by kernel_rfl) (by simp) ?_
      refine AllReadyH.cons rfl (fun K hK => ?_) AllReadyH.nil
      go_simp
      refine hK.out _ _ hHeld (fun hHeld => ?_)
      clear hK K
      try simp only [Act.put, List.setIfInBounds_toArray, List.set_cons_zero, List.set_cons_succ]
      refine wpAnyH_ready (rs := [7]) (by kernel_rfl) (by simp) ?_
      refine AllReadyH.cons rfl (fun K hK => ?_) AllReadyH.nil
      refine step_append_lies _ (by rfl) _ _ _ (by rfl) w.heap.size 62 i0 _ 2 24 Tryd.underlying55 hi hz0 hz1 hz2 rfl (by omega) u' pre.length (entCells (pre.map entOf)) (by rfl) (hkA.out) ⟨V.heap.size, 0, none⟩ 1 1 [.int .i64 (N : Int), .string ⟨T.toArray⟩] (by rfl) (by rfl) (fun j u hu => World.news_of_block (heap_alloc_new V.drew _) j u hu) (by simp [Value.oneCell']) (by omega) hmx.out.1 (by have := hmx.out.2; omega) hsA.out (V.heap.size + 1) (by simp) ?_
      intro g2 cap w4 hown4 hgrow4 _ _
      obtain ⟨p4, p1, pk, r1, rk, r2, r3, r4, r5, r6, r7⟩ := taking_app hrow.1 hjlt hne.symm hnb hgj hnk.symm hok k1 k2 k3 k4 k5 k6 kk hown4 hgrow4
      have y5 : w4.cell? ⟨jb, 5, none⟩ = some u' := p4.cell 5
      have g5 := p4.frozen 5
      refine hK.out _ _ ⟨p1.cell 0, pk.cell 0, pk.cell 1⟩ (fun hHeld => ?_)
      clear hK K hown4 hgrow4
      try simp only [Act.put, List.setIfInBounds_toArray]
      refine' wpAnyH_take (i := 8) (v := ?v8b) rfl (by kernel_rfl) (by kernel_rfl) (by kernel_rfl) (fun _ _ _ h => h) (Or.inl ⟨by rfl, ?hy8b⟩) hHeld ?rest8b
      case hy8b =>
        intro w hSw
        try dsimp only at hSw
        go_simp
        all_goals with_reducible rfl
      try simp only [Act.put]
      refine' wpAnyH_take (i := 9) (v := ?v9b) rfl (by kernel_rfl) (by kernel_rfl) (by kernel_rfl) (fun _ _ _ h => h) (Or.inl ⟨by rfl, ?hy9b⟩) hHeld ?rest9b
      case hy9b =>
        intro w hSw
        try dsimp only at hSw
        go_simp
        all_goals with_reducible rfl
      try simp only [Act.put]
      refine wpAnyH_ready (rs := [10]) (by kernel_rfl) (by simp) ?_
      refine AllReadyH.cons rfl (fun K hK => ?_) AllReadyH.nil
      go_simp
      refine hK.out _ _ ⟨r1.cell 0, rk.cell 0, rk.cell 1⟩ (fun hHeld => ?_)
      clear hK K
      refine wpAnyH_done (by kernel_rfl) ?_ _
      refine ⟨kK.trans r7, r1, r2, r3, ⟨.slice (some ⟨g2, 0, none⟩) (pre.length + 1) cap, ?_, ?_⟩, r6⟩
      · rw [usedOf_snoc]; exact r4
      · rw [entCells_snoc2, List.length_append]; exact r5
  case done =>
    rintro E xs W hE hxs ⟨j1, j2, j3, ⟨u, j4, j5⟩, j6⟩ hK
    gi_wp2
    refine ⟨by simp, .inl ⟨_, _, rfl, run_takeDeferred hK, ?_⟩⟩
    have hgp := grownBy_putObj' W E (.deferred none)
    have hrr : ∀ r, some E = some r → ∃ o : Obj, W.heap[r]? = some o ∧ o.isCells = false := fun r e => by cases e; exact ⟨_, hK, rfl⟩
    subst hxs
    exact ⟨_, results_none rfl _ _ _, ⟨_, rfl⟩, _, j4.grown hgp (blk_row j4 hrr), ownsRow_grown j5 hgp hrr, j6.andThen hgp (fun j e => by cases e; exact .inl (by omega))⟩
  case stop => 
    rintro E c pre W hE hx
    exact hx.elim
end
end Go.Proofs.YtgdpgiegiacepaaDoor
