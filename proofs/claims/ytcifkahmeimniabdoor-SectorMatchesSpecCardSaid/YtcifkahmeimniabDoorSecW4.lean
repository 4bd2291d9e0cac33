/-
  The walks of layer 24 (sector): Pack.
-/
import Derived.Test.YtcifkahmeimniabDoorSecW2
import Derived.Test.YtcifkahmeimniabDoorSecW3
import Derived.RangeFuncBox
namespace Go.Proofs.YtcifkahmeimniabDoor
open Go.RowKit Go.Shelf
attribute [local go_sem] Oper.semAt_some

/-- Texts as cells. -/
def strCells (l : List ByteArray) : List Value := l.map Value.string
theorem strCells_snoc (l : List ByteArray) (x : ByteArray) : strCells (l ++ [x]) = strCells l ++ [.string x] := by simp [strCells]
theorem strCells_len (l : List ByteArray) : (strCells l).length = l.length := by simp [strCells]
theorem infoString : (Tryd.prog.info? 9).map (fun i => (i.zero, i.size, i.bytes)) = some (some (.string ⟨#[]⟩), 1, 16) := by kernel_rfl
/-- A fresh list of texts. -/
def NewTexts (w w' : World) (v : Value) (l : List ByteArray) : Prop := w'.ownsRow w.heap.size 9 1 v l.length (strCells l) ∧ (v = .slice none 0 0 ↔ l = []) ∧ Below w.heap.size w w'

theorem sectors_any (w : World) (number : Int) (rec : ByteArray) : Calls Tryd.prog 20 #[.int .i64 number, .string rec] w fun e w' =>
    e = .returned (.func (.func 28) #[] #[.pointer (some ⟨w.heap.size + 1, 0, none⟩), .pointer (some ⟨w.heap.size, 0, none⟩)]) ∧ w' = (w.alloc (.cells #[.int .i64 number] 3)).alloc (.cells #[.string rec] 9) := by
  go_enter Tryd.func20, Tryd.ntmps20
  go_wp2_with fail
  go_ret
  exact ⟨rfl, rfl⟩

theorem ownsRow_mono {w : World} {base base' : Nat} {e : TypeId} {size : Nat} {v : Value} {n : Nat} {xs : List Value} (h : w.ownsRow base e size v n xs) (hb : base' ≤ base) : w.ownsRow base' e size v n xs := by
  refine ⟨h.1, ?_⟩
  rcases h.2 with h2 | ⟨g, cap, cur, hv, hg, r⟩
  · exact .inl h2
  · exact .inr ⟨g, cap, cur, hv, Nat.le_trans hb hg, r⟩
/-- A box lies on behind an append into another one. -/
theorem boxed_past {W w1 : World} {B B' : Nat} {t : TypeId} {u v : Value} {tmp : Obj} (h : Boxed W B' t u) (hnv : some B' ≠ v.ownBlock)
    (hgrow : (W.alloc tmp).grownBy w1 v.ownBlock) (hne : B' ≠ B) (v' : Value) : Boxed (w1.setCell ⟨B, 0, none⟩ v') B' t u :=
  ((h.alloc tmp).kept hgrow hnv).kept (grownBy_setCell' w1 B v') (fun e => hne (by cases e; rfl))
/-- What Pack's loop keeps. -/
def Packing (w : World) (number : Nat) (rec : ByteArray) (pre : List Nat) (W : World) : Prop :=
  (∃ v, Boxed W w.heap.size 23 v ∧ W.ownsRow (w.heap.size + 3) 9 1 v pre.length (strCells (pre.map (secText number rec))) ∧ (v = .slice none 0 0 ↔ pre = [])) ∧
    Boxed W (w.heap.size + 1) 3 (.int .i64 number) ∧ Boxed W (w.heap.size + 1 + 1) 9 (.string rec) ∧ Below w.heap.size w W
theorem packing_own (w : World) (number : Nat) (rec : ByteArray) : OwnFrom (w.heap.size + 3) (Packing w number rec) := by
  rintro pre W W' row ⟨⟨v, h1, h2, h3⟩, h4, h5, h7⟩ hgr hr
  refine ⟨⟨v, h1.kept hgr ?_, h2.kept hgr ?_, h3⟩, h4.kept hgr ?_, h5.kept hgr ?_, h7.grown hgr h7.size ?_⟩
  · intro e; have := (hr _ e.symm).1; omega
  · rcases h2.2 with ⟨rfl, _⟩ | ⟨g, cap, cur, rfl, _, hgb, _⟩
    · exact .inl rfl
    · refine .inr fun e' => ?_
      obtain ⟨o, ho, hc⟩ := (hr g (by simpa [Value.ownBlock] using e'.symm)).2
      rw [hgb] at ho; cases ho; cases hc
  · intro e; have := (hr _ e.symm).1; omega
  · intro e; have := (hr _ e.symm).1; omega
  · intro j e; have := (hr j e).1; omega
theorem packing_sees (w : World) (number : Nat) (rec : ByteArray) (pre : List Nat) (W : World) (h : Packing w number rec pre W) : SeesRec (w.heap.size + 1 + 1) (w.heap.size + 1) number rec W := ⟨h.2.2.1.cell, h.2.1.cell⟩

/-- A list in a cell and a number, as results. -/
theorem results_list {fn : Func} {p q : Tmp} (h : fn.results = #[.cell p 23, .tmp q]) (tmps : Array Value) (w : World) (g : Nat) (v : Value) (hp : tmps.getD p undef = .pointer (some ⟨g, 0, none⟩)) (hc : w.cell? ⟨g, 0, none⟩ = some v) :
    (results fn tmps).run Tryd.prog w = .ok (.tuple #[v, tmps.getD q undef]) w := by
  rw [results_cell_tmp h, hp]
  simp [loadVar, asAddr, go_sem, hc]
set_option maxRecDepth 100000 in
set_option maxHeartbeats 4000000 in
theorem pack_in (w : World) (number : Nat) (rec : ByteArray) (h1 : 1 ≤ number) (h2 : number ≤ mostN) (hr : rec.size ≤ 8000) :
    Calls Tryd.prog 10 #[.int .i64 number, .string rec] w fun e w' => ∃ v, e = .returned (.tuple #[v, .int .i64 0]) ∧ NewTexts w w' v ((List.range (countN rec.size)).map (secText number rec)) := by
  obtain ⟨i0, hi, hz0, hz1, hz2⟩ := info_parts infoString
  have d1 : decide ((number : Int) < 1) = false := decide_eq_false (by omega)
  have d2 : decide (4611686018427387904 < (number : Int)) = false := decide_eq_false (by unfold mostN at h2; omega)
  have d3 : decide (8000 < (rec.size : Int)) = false := decide_eq_false (by omega)
  refine (callsIn_wide (n := 4)).1 ?_
  refine callsIn_of_wp_marks Tryd.func10 rfl trivial ?_ rfl
  simp only [Tryd.ntmps10, List.size_toArray, List.length_cons, List.length_nil, Nat.reduceAdd, Nat.reduceSub, Array.replicate_succ, Array.replicate_zero, List.push_toArray, List.append_toArray, List.nil_append, List.cons_append]
  gi_wp2_with (refine ⟨trivial, ?_⟩; gi_at_call 20; refine (callsIn_wide.2 (sectors_any _ _ _)).mono ?_; rintro e w' ⟨rfl, rfl⟩)
  have bO := Boxed.new w 23 (.slice none 0 0)
  have bM := Boxed.new (w.alloc (.cells #[.slice none 0 0] 23)) 3 (.int .i64 number)
  have bI := Boxed.new ((w.alloc (.cells #[.slice none 0 0] 23)).alloc (.cells #[.int .i64 number] 3)) 9 (.string rec)
  rw [World.size_alloc] at bM
  rw [World.size_alloc, World.size_alloc] at bI
  have bO3 := (bO.alloc (.cells #[.int .i64 number] 3)).alloc (.cells #[.string rec] 9)
  have bM3 := bM.alloc (.cells #[.string rec] 9)
  obtain ⟨w0, hw0⟩ : ∃ w0, ((w.alloc (.cells #[.slice none 0 0] 23)).alloc (.cells #[.int .i64 number] 3)).alloc (.cells #[.string rec] 9) = w0 := ⟨_, rfl⟩
  have hs0 : w0.heap.size = w.heap.size + 3 := by rw [← hw0]; simp
  have hB0 : Below w.heap.size w w0 := by rw [← hw0]; exact (((Below.refl _ w).alloc (Nat.le_refl _) _).alloc (by simp) _).alloc (by simp; omega) _
  rw [hw0] at bO3 bM3 bI
  rw [hw0]
  have hN182 : countN rec.size ≤ 182 := by unfold countN; omega
  refine wpIn_rangeFunc_makes rfl (by decide) (gf := 28) (lb := #[.pointer (some ⟨w.heap.size + 1 + 1, 0, none⟩), .pointer (some ⟨w.heap.size + 1, 0, none⟩)]) rfl trivial (enters_of Tryd.func28 (by kernel_rfl) rfl)
    (sectors_seq 3 (by decide) (w.heap.size + 1 + 1) (w.heap.size + 1) number rec h1 h2 hr) (fun _ => rfl)
    (Packing w number rec) (hs0 ▸ packing_own w number rec) (packing_sees w number rec)
    ⟨⟨_, bO3, World.ownsRow_nil _ _ _ _, by simp⟩, bM3, bI, hB0⟩
    (fun i => { tmps := #[.int .i64 number, .string rec, undef, undef, .pointer (some ⟨w.heap.size, 0, none⟩), .int .i64 0, .string (secText number rec i), .bool false, .int .i64 number, .bool false, .bool false, .int .i64 number, .bool false, .bool false, .bool false, .string rec, .int .i64 rec.size, .bool false, .int .i64 number, .string rec,
      .func (.func 28) #[] #[.pointer (some ⟨w.heap.size + 1 + 1, 0, none⟩), .pointer (some ⟨w.heap.size + 1, 0, none⟩)], .string (secText number rec i), undef, undef, undef, undef, undef], defers := [] }) ?assign ?body ?done
  case assign =>
    intro l x W K hK
    gi_wp2
    exact hK
  case body =>
    rintro l pre x W ⟨⟨v, hv, hrow, hnil⟩, hm, hi', hB⟩ ⟨hx, hpre⟩
    have hpl : pre.length = x := by rw [hpre, List.length_range]
    have hc := hv.cell
    clear hpre
    obtain ⟨tx, htx⟩ : ∃ tx, secText number rec x = tx := ⟨_, rfl⟩
    have HTX := Lib.hid htx
    rw [htx]
    clear htx
    have hWs := hi'.lt
    have hn2 : some (w.heap.size + 1 + 1) ≠ v.ownBlock := fun e => by have := (hrow.lt _ e.symm).1; omega
    have hn1 : some (w.heap.size + 1) ≠ v.ownBlock := fun e => by have := (hrow.lt _ e.symm).1; omega
    have hlen : pre.length + 1 ≤ 1000 := by omega
    have HPL := Lib.hid hpl
    clear hpl
    gi_wp2_with (gi_at_builtin; refine wpListIn_append_own _ rfl _ _ 23 rfl (w.heap.size + 3) 9 i0 (.string ⟨#[]⟩) 1 16 Tryd.underlying23 hi hz0 hz1 hz2 rfl (by decide) _ _ _ rfl (hrow.alloc _) ⟨W.heap.size, 0, none⟩ 1 1 [.string tx] rfl rfl (cell_one_new _ _ _) (by simp [Value.oneCell']) (by unfold maxLen; omega) (by omega) (by simp; omega) ?_; intro v' w1 hown' hgrow _; obtain ⟨g', cap', rfl⟩ := ownsRow_succ hown'; obtain ⟨hv1, hv2, _, hk2, hb2⟩ := hv.appended (by decide) (ownsRow_mono hrow (Nat.le_add_right _ 3)) hB.size (Nat.le_refl _) (ownsRow_mono hown' (Nat.le_add_right _ 3)) hgrow; have hr2 := hown'.kept (grownBy_setCell' w1 w.heap.size (.slice (some ⟨g', 0, none⟩) (pre.length + 1) cap')) (.inr (hv1.not_row (by decide) hown').symm); have hm1 := boxed_past hm hn1 hgrow (by omega : w.heap.size + 1 ≠ w.heap.size) (.slice (some ⟨g', 0, none⟩) (pre.length + 1) cap'); have hi1 := boxed_past hi' hn2 hgrow (by omega : w.heap.size + 1 + 1 ≠ w.heap.size) (.slice (some ⟨g', 0, none⟩) (pre.length + 1) cap'); have hc1 := hv1.cell; have hf1 := hv1.frozen)
    refine ⟨hk2, ⟨_, hv2, ?_, by simp⟩, hm1, hi1, hB.trans hb2⟩
    rw [List.length_append, List.map_append, List.map_cons, List.map_nil, HTX.out, strCells_snoc]
    exact hr2
  case done =>
    rintro D xs W hD rfl ⟨⟨v, hv, hrow, hnil⟩, hm, hi', hB⟩ hK
    obtain ⟨A, c, rfl⟩ := ownsRow_slice hrow
    have hc := hv.cell
    have hf := hv.frozen
    gi_wp2
    have hlen : (List.range (countN rec.size)).length = countN rec.size := List.length_range
    have hK2 : (W.setCell ⟨w.heap.size, 0, none⟩ (.slice A (List.range (countN rec.size)).length c)).heap[D]? = some (.deferred (some [])) := (KeepsOthers.setCell _ _ _).same D _ hK rfl
    have hB2 := hB.setCell (p := ⟨w.heap.size, 0, none⟩) (Nat.le_refl _) (.slice A (List.range (countN rec.size)).length c)
    have hr2 := hrow.kept (grownBy_setCell' W w.heap.size (.slice A (List.range (countN rec.size)).length c)) (.inr (hv.not_row (by decide) hrow).symm)
    have hv2 := hv.set (.slice A (List.range (countN rec.size)).length c)
    rw [hlen] at hK2 hB2 hr2 hv2 hnil
    refine ⟨by simp, .inl ⟨_, _, rfl, run_takeDeferred hK2, ?_⟩⟩
    refine ⟨_, results_list (p := 4) (q := 5) rfl _ _ w.heap.size _ rfl (cell_kept hv2.cell (grownBy_putObj' _ D (.deferred none)) (fun r e => by cases e; exact ⟨_, hK2, rfl⟩)), _, rfl, ?_, ?_, ?_⟩
    · rw [List.length_map, hlen]
      exact ownsRow_putObj (ownsRow_mono hr2 (Nat.le_add_right _ 3)) _ hK2 rfl
    · rw [hnil]; simp
    · exact hB2.trans (belowK_b (w := w) (Nat.le_refl _) _ D _ _ (by omega) hK2 rfl rfl)
end Go.Proofs.YtcifkahmeimniabDoor
