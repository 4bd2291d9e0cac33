import Derived.Test.YtpghocekofdpbaaGreatDoorQb15
import Derived.Test.YtpghocekofdpbaaGreatDoorQb07
import Derived.Lib.Builder
import Derived.Lib.AppendStr
import Derived.Lib.UnsafeStr
import Derived.Lib.MakeNoZero
import Derived.Lib.Strings
import Derived.Laws.Externs
import Derived.Laws.BitsLemmas
import Derived.RangeFuncBox
import Derived.Deep.QuietTactic
import Derived.BigQuiet
import Derived.Deep.RegionHeld3
import Derived.Deep.RegionWith
namespace Go.Proofs.YtpghocekofdpbaaGreatDoor.Sec
open Go.Shelf Go.RowKit
theorem sizeBuilder : (Tryz.prog.info? 188).map (·.size) = some 2 := by kernel_rfl
theorem liesBuilder : liesAt Tryz.prog Tryz.prog.depth 188 (2 / Tryz.prog.cellsOf 188) 0 188 1 = true := by kernel_rfl
set_option maxHeartbeats 1000000 in
set_option maxRecDepth 100000 in
theorem copyCheck_used (b : Nat) (w : World) (h0 : w.cell? ⟨b, 0, none⟩ = some (.pointer (some ⟨b, 0, none⟩))) :
  Calls Tryz.prog 161 #[.pointer (some ⟨b, 0, none⟩)] w fun e w' => e = .returned (.tuple #[]) /\ w' = w := by
 obtain ⟨j, hj, _⟩ := Option.map_eq_some_iff.1 sizeBuilder
 go_enter Tryz.func161, Tryz.ntmps161
 go_wp2
 rw [Lib.run_neq_ptr_same w _ Tryz.underlying186 hj]
 go_wp2
 go_end0
 exact ⟨rfl, rfl⟩
set_option maxHeartbeats 1000000 in
set_option maxRecDepth 100000 in
theorem copyCheck_fresh (b : Nat) (w : World) (h0 : w.cell? ⟨b, 0, none⟩ = some (.pointer none)) (hsh : w.shape? b = some (188, 2)) (hfz : w.frozen? ⟨b, 0, none⟩ = false) :
  Calls Tryz.prog 161 #[.pointer (some ⟨b, 0, none⟩)] w fun e w' => e = .returned (.tuple #[]) /\ w' = w.setCell ⟨b, 0, none⟩ (.pointer (some ⟨b, 0, none⟩)) := by
 obtain ⟨j, hj, hjs⟩ := Option.map_eq_some_iff.1 sizeBuilder
 go_enter Tryz.func161, Tryz.ntmps161
 go_wp2
 rw [Lib.run_to_unsafe w ⟨b, 0, none⟩ Tryz.underlying186 Tryz.underlying244 hj (by rw [hjs]; decide) hsh (Nat.zero_lt_succ 1)]
 simp only [Result.andThen]
 rw [Oper.upon_value]
 go_wp2
 rw [run_callFunc_extern Tryz.func178 (by kernel_rfl) (by kernel_rfl) (by kernel_rfl) (e := Extern.AbiNoEscape.same) (by kernel_rfl)]
 rw [Lib.run_noEscape]
 simp only [Result.andThen]
 rw [Oper.upon_value]
 go_wp2
 rw [Lib.run_from_unsafe w ⟨b, 0, none⟩ Tryz.underlying244 Tryz.underlying186 hj hsh liesBuilder]
 simp only [Result.andThen]
 rw [Oper.upon_value]
 go_wp2
 go_end0
 exact ⟨rfl, rfl⟩
theorem copyCheck_any (B b : Nat) (bs : List Value) (w : World) (h : Lib.IsBuilder 188 5 B b bs w) :
  Calls Tryz.prog 161 #[.pointer (some ⟨b, 0, none⟩)] w fun e w' => e = .returned (.tuple #[]) /\ (Lib.BuilderAt 188 5 B b (.pointer (some ⟨b, 0, none⟩)) bs w' /\ Below B w w') := by
 rcases h with h | h
 ·refine (copyCheck_fresh b w h.cell0 h.shape h.frozen0).mono ?_
  rintro e w' ⟨rfl, rfl⟩
  exact ⟨rfl, h.used _, (Below.refl B w).setCell (p := ⟨b, 0, none⟩) h.1 _⟩
 ·refine (copyCheck_used b w h.cell0).mono ?_
  rintro e w' ⟨rfl, rfl⟩
  exact ⟨rfl, h, Below.refl B _⟩
set_option maxHeartbeats 1000000 in
set_option maxRecDepth 100000 in
theorem writeS_any (B b : Nat) (bs : List Value) (s : ByteArray) (w : World) (h : Lib.IsBuilder 188 5 B b bs w) (hlen : bs.length + s.size <= 140737488355328) (hBw : B <= w.heap.size) :
  Calls Tryz.prog 132 #[.pointer (some ⟨b, 0, none⟩), .string s] w fun e w' => e = .returned (.tuple #[.int .i64 s.size, .nilIface]) /\ (Lib.BuilderAt 188 5 B b (.pointer (some ⟨b, 0, none⟩)) (bs ++ Lib.strCells s) w' /\ Below B w w') := by
 obtain ⟨i0, hi, hz0, hz1, hz2⟩ := info_parts infoU8
 go_enter Tryz.func132, Tryz.ntmps132
 go_wp2_with (first | (go_at_call 161; refine (copyCheck_any B b bs _ h).mono ?_; rintro e w1 ⟨rfl, h1, hb1⟩; obtain ⟨hB, v, hbk, hown, hne⟩ := h1; have c0 : w1.cell? ⟨b, 0, none⟩ = some (.pointer (some ⟨b, 0, none⟩)) := (by rw [Lib.cell_of_heap hbk]; rfl); have c1 : w1.cell? ⟨b, 1, none⟩ = some v := (by rw [Lib.cell_of_heap hbk]; rfl)) | (at_builtin; refine Lib.wpList_append_own_string _ rfl _ _ 66 9 rfl B 5 i0 Tryz.underlying66 Tryz.underlying9 hi hz0 hz1 hz2 _ _ _ rfl hown s rfl ?c3 ?c4 ?c5 ?_))
 case c3 => unfold maxLen; omega
 case c4 => omega
 case c5 => have := hb1.size; omega
 intro v' w2 hown' hgrow _
 have hlt : b < w1.heap.size := by
  rcases Nat.lt_or_ge b w1.heap.size with h' | h'
  ·exact h'
  ·simp [Array.getElem?_eq_none h'] at hbk
 have hb2 : w2.heap[b]? = some (.cells #[.pointer (some ⟨b, 0, none⟩), v] 188 (0, 0)) := by
  rw [hgrow.block b hlt (fun e => hne e.symm)]
  exact hbk
 have d0 : w2.cell? ⟨b, 0, none⟩ = some (.pointer (some ⟨b, 0, none⟩)) := by rw [Lib.cell_of_heap hb2]; rfl
 have d1 : w2.cell? ⟨b, 1, none⟩ = some v := by rw [Lib.cell_of_heap hb2]; rfl
 have f1 : w2.frozen? ⟨b, 1, none⟩ = false := Lib.frozen_of_heap hb2 1
 obtain ⟨ao, n', cap, rfl⟩ : ∃ ao n' cap, v' = .slice ao n' cap := by
  rcases hown'.2 with ⟨hv, _⟩ | ⟨g, cap, cur, hv, _⟩
  ·exact ⟨_, _, _, hv⟩
  ·exact ⟨_, _, _, hv⟩
 go_wp2
 go_ret2
 refine ⟨rfl, ?_, ?_⟩
 ·exact Lib.BuilderAt.put (T := 188) (e := 5) hB hb2 (bs' := bs ++ Lib.strCells s) (by simpa [Lib.strCells_length] using hown') (by decide)
 ·exact (hb1.grown hgrow (by have := hb1.size; omega) (fun k hk => (hown.lt k hk).1)).setCell (p := ⟨b, 1, none⟩) hB _
end Go.Proofs.YtpghocekofdpbaaGreatDoor.Sec
namespace Go.Proofs.YtpghocekofdpbaaGreatDoor.Sec
open Go.RowKit Go.Shelf
attribute [local go_sem] Oper.semAt_some
def strCells (l : List ByteArray) : List Value := l.map Value.string
theorem strCells_snoc (l : List ByteArray) (x : ByteArray) : strCells (l ++ [x]) = strCells l ++ [.string x] := by simp [strCells]
theorem strCells_len (l : List ByteArray) : (strCells l).length = l.length := by simp [strCells]
theorem infoString : (Tryz.prog.info? 9).map (fun i => (i.zero, i.size, i.bytes)) = some (some (.string ⟨#[]⟩), 1, 16) := by kernel_rfl
def NewTexts (w w' : World) (v : Value) (l : List ByteArray) : Prop := w'.ownsRow w.heap.size 9 1 v l.length (strCells l) /\ (v = .slice none 0 0 ↔ l = []) /\ Below w.heap.size w w'
theorem sectors_any (w : World) (number : Int) (rec : ByteArray) : Calls Tryz.prog 154 #[.int .i64 number, .string rec] w fun e w' =>
  e = .returned (.func (.func 175) #[] #[.pointer (some ⟨w.heap.size + 1, 0, none⟩), .pointer (some ⟨w.heap.size, 0, none⟩)]) /\ w' = (w.alloc (.cells #[.int .i64 number] 3)).alloc (.cells #[.string rec] 9) := by
 go_enter Tryz.func154, Tryz.ntmps154
 go_wp2_with fail
 go_ret
 exact ⟨rfl, rfl⟩
theorem ownsRow_mono {w : World} {base base' : Nat} {e : TypeId} {size : Nat} {v : Value} {n : Nat} {xs : List Value} (h : w.ownsRow base e size v n xs) (hb : base' <= base) : w.ownsRow base' e size v n xs := by
 refine ⟨h.1, ?_⟩
 rcases h.2 with h2 | ⟨g, cap, cur, hv, hg, r⟩
 ·exact .inl h2
 ·exact .inr ⟨g, cap, cur, hv, Nat.le_trans hb hg, r⟩
theorem boxed_past {W w1 : World} {B B' : Nat} {t : TypeId} {u v : Value} {tmp : Obj} (h : Boxed W B' t u) (hnv : some B' ≠ v.ownBlock)
  (hgrow : (W.alloc tmp).grownBy w1 v.ownBlock) (hne : B' ≠ B) (v' : Value) : Boxed (w1.setCell ⟨B, 0, none⟩ v') B' t u :=
 ((h.alloc tmp).kept hgrow hnv).kept (grownBy_setCell' w1 B v') (fun e => hne (by cases e; rfl))
def Packing (w : World) (number : Nat) (rec : ByteArray) (pre : List Nat) (W : World) : Prop :=
 (∃ v, Boxed W w.heap.size 35 v /\ W.ownsRow (w.heap.size + 3) 9 1 v pre.length (strCells (pre.map (secText number rec))) /\ (v = .slice none 0 0 ↔ pre = [])) /\
  Boxed W (w.heap.size + 1) 3 (.int .i64 number) /\ Boxed W (w.heap.size + 1 + 1) 9 (.string rec) /\ Below w.heap.size w W
theorem packing_own (w : World) (number : Nat) (rec : ByteArray) : OwnFrom (w.heap.size + 3) (Packing w number rec) := by
 rintro pre W W' row ⟨⟨v, h1, h2, h3⟩, h4, h5, h7⟩ hgr hr
 refine ⟨⟨v, h1.kept hgr ?_, h2.kept hgr ?_, h3⟩, h4.kept hgr ?_, h5.kept hgr ?_, h7.grown hgr h7.size ?_⟩
 ·intro e; have := (hr _ e.symm).1; omega
 ·rcases h2.2 with ⟨rfl, _⟩ | ⟨g, cap, cur, rfl, _, hgb, _⟩
  ·exact .inl rfl
  ·refine .inr fun e' => ?_
   obtain ⟨o, ho, hc⟩ := (hr g (by simpa [Value.ownBlock] using e'.symm)).2
   rw [hgb] at ho; cases ho; cases hc
 ·intro e; have := (hr _ e.symm).1; omega
 ·intro e; have := (hr _ e.symm).1; omega
 ·intro j e; have := (hr j e).1; omega
theorem packing_sees (w : World) (number : Nat) (rec : ByteArray) (pre : List Nat) (W : World) (h : Packing w number rec pre W) : SeesRec (w.heap.size + 1 + 1) (w.heap.size + 1) number rec W := ⟨h.2.2.1.cell, h.2.1.cell⟩
theorem results_list {fn : Func} {p q : Tmp} (h : fn.results = #[.cell p 35, .tmp q]) (tmps : Array Value) (w : World) (g : Nat) (v : Value) (hp : tmps.getD p undef = .pointer (some ⟨g, 0, none⟩)) (hc : w.cell? ⟨g, 0, none⟩ = some v) :
  (results fn tmps).run Tryz.prog w = .ok (.tuple #[v, tmps.getD q undef]) w := by
 rw [results_cell_tmp h, hp]
 simp [loadVar, asAddr, go_sem, hc]
set_option maxRecDepth 100000 in
set_option maxHeartbeats 4000000 in
theorem pack_in (w : World) (number : Nat) (rec : ByteArray) (h1 : 1 <= number) (h2 : number <= mostN) (hr : rec.size <= 8000) :
  Calls Tryz.prog 123 #[.int .i64 number, .string rec] w fun e w' => ∃ v, e = .returned (.tuple #[v, .int .i64 0]) /\ NewTexts w w' v ((List.range (countN rec.size)).map (secText number rec)) := by
 obtain ⟨i0, hi, hz0, hz1, hz2⟩ := info_parts infoString
 have d1 : decide ((number : Int) < 1) = false := decide_eq_false (by omega)
 have d2 : decide (4611686018427387904 < (number : Int)) = false := decide_eq_false (by unfold mostN at h2; omega)
 have d3 : decide (8000 < (rec.size : Int)) = false := decide_eq_false (by omega)
 refine (callsIn_wide (n := 4)).1 ?_
 refine callsIn_of_wp_marks Tryz.func123 rfl trivial ?_ rfl
 simp only [Tryz.ntmps123, List.size_toArray, List.length_cons, List.length_nil, Nat.reduceAdd, Nat.reduceSub, Array.replicate_succ, Array.replicate_zero, List.push_toArray, List.append_toArray, List.nil_append, List.cons_append]
 gi_wp2_with (refine ⟨trivial, ?_⟩; gi_at_call 154; refine (callsIn_wide.2 (sectors_any _ _ _)).mono ?_; rintro e w' ⟨rfl, rfl⟩)
 have bO := Boxed.new w 35 (.slice none 0 0)
 have bM := Boxed.new (w.alloc (.cells #[.slice none 0 0] 35)) 3 (.int .i64 number)
 have bI := Boxed.new ((w.alloc (.cells #[.slice none 0 0] 35)).alloc (.cells #[.int .i64 number] 3)) 9 (.string rec)
 rw [World.size_alloc] at bM
 rw [World.size_alloc, World.size_alloc] at bI
 have bO3 := (bO.alloc (.cells #[.int .i64 number] 3)).alloc (.cells #[.string rec] 9)
 have bM3 := bM.alloc (.cells #[.string rec] 9)
 obtain ⟨w0, hw0⟩ : ∃ w0, ((w.alloc (.cells #[.slice none 0 0] 35)).alloc (.cells #[.int .i64 number] 3)).alloc (.cells #[.string rec] 9) = w0 := ⟨_, rfl⟩
 have hs0 : w0.heap.size = w.heap.size + 3 := by rw [<- hw0]; simp
 have hB0 : Below w.heap.size w w0 := by rw [<- hw0]; exact (((Below.refl _ w).alloc (Nat.le_refl _) _).alloc (by simp) _).alloc (by simp; omega) _
 rw [hw0] at bO3 bM3 bI
 rw [hw0]
 have hN182 : countN rec.size <= 182 := by unfold countN; omega
 refine wpIn_rangeFunc_makes rfl (by decide) (gf := 175) (lb := #[.pointer (some ⟨w.heap.size + 1 + 1, 0, none⟩), .pointer (some ⟨w.heap.size + 1, 0, none⟩)]) rfl trivial (enters_of Tryz.func175 (by kernel_rfl) rfl)
  (sectors_seq 3 (by decide) (w.heap.size + 1 + 1) (w.heap.size + 1) number rec h1 h2 hr) (fun _ => rfl)
  (Packing w number rec) (hs0 ▸ packing_own w number rec) (packing_sees w number rec)
  ⟨⟨_, bO3, World.ownsRow_nil _ _ _ _, by simp⟩, bM3, bI, hB0⟩
  (fun i => { tmps := #[.int .i64 number, .string rec, undef, undef, .pointer (some ⟨w.heap.size, 0, none⟩), .int .i64 0, .string (secText number rec i), .bool false, .int .i64 number, .bool false, .bool false, .int .i64 number, .bool false, .bool false, .bool false, .string rec, .int .i64 rec.size, .bool false, .int .i64 number, .string rec,
   .func (.func 175) #[] #[.pointer (some ⟨w.heap.size + 1 + 1, 0, none⟩), .pointer (some ⟨w.heap.size + 1, 0, none⟩)], .string (secText number rec i), undef, undef, undef, undef, undef], defers := [] }) ?assign ?body ?done
 case assign =>
  intro l x W K hK
  gi_wp2
  exact hK
 case body =>
  rintro l pre x W ⟨⟨v, hv, hrow, hnil⟩, hm, hi', hB⟩ ⟨hx, hpre⟩
  have hpl : pre.length = x := by rw [hpre, List.length_range]
  have hc := hv.cell
  clear hpre
  obtain ⟨tx, htx⟩ : ∃ tx, secText number rec x = tx := ⟨_, rfl⟩
  have HTX := Lib.hid htx
  rw [htx]
  clear htx
  have hWs := hi'.lt
  have hn2 : some (w.heap.size + 1 + 1) ≠ v.ownBlock := fun e => by have := (hrow.lt _ e.symm).1; omega
  have hn1 : some (w.heap.size + 1) ≠ v.ownBlock := fun e => by have := (hrow.lt _ e.symm).1; omega
  have hlen : pre.length + 1 <= 1000 := by omega
  have HPL := Lib.hid hpl
  clear hpl
  gi_wp2_with (gi_at_builtin; refine wpListIn_append_own _ rfl _ _ 35 rfl (w.heap.size + 3) 9 i0 (.string ⟨#[]⟩) 1 16 Tryz.underlying35 hi hz0 hz1 hz2 rfl (by decide) _ _ _ rfl (hrow.alloc _) ⟨W.heap.size, 0, none⟩ 1 1 [.string tx] rfl rfl (cell_one_new _ _ _) (by simp [Value.oneCell']) (by unfold maxLen; omega) (by omega) (by simp; omega) ?_; intro v' w1 hown' hgrow _; obtain ⟨g', cap', rfl⟩ := ownsRow_succ hown'; obtain ⟨hv1, hv2, _, hk2, hb2⟩ := hv.appended (by decide) (ownsRow_mono hrow (Nat.le_add_right _ 3)) hB.size (Nat.le_refl _) (ownsRow_mono hown' (Nat.le_add_right _ 3)) hgrow; have hr2 := hown'.kept (grownBy_setCell' w1 w.heap.size (.slice (some ⟨g', 0, none⟩) (pre.length + 1) cap')) (.inr (hv1.not_row (by decide) hown').symm); have hm1 := boxed_past hm hn1 hgrow (by omega : w.heap.size + 1 ≠ w.heap.size) (.slice (some ⟨g', 0, none⟩) (pre.length + 1) cap'); have hi1 := boxed_past hi' hn2 hgrow (by omega : w.heap.size + 1 + 1 ≠ w.heap.size) (.slice (some ⟨g', 0, none⟩) (pre.length + 1) cap'); have hc1 := hv1.cell; have hf1 := hv1.frozen)
  refine ⟨hk2, ⟨_, hv2, ?_, by simp⟩, hm1, hi1, hB.trans hb2⟩
  rw [List.length_append, List.map_append, List.map_cons, List.map_nil, HTX.out, strCells_snoc]
  exact hr2
 case done =>
  rintro D xs W hD rfl ⟨⟨v, hv, hrow, hnil⟩, hm, hi', hB⟩ hK
  obtain ⟨A, c, rfl⟩ := ownsRow_slice hrow
  have hc := hv.cell
  have hf := hv.frozen
  gi_wp2
  have hlen : (List.range (countN rec.size)).length = countN rec.size := List.length_range
  have hK2 : (W.setCell ⟨w.heap.size, 0, none⟩ (.slice A (List.range (countN rec.size)).length c)).heap[D]? = some (.deferred (some [])) := (KeepsOthers.setCell _ _ _).same D _ hK rfl
  have hB2 := hB.setCell (p := ⟨w.heap.size, 0, none⟩) (Nat.le_refl _) (.slice A (List.range (countN rec.size)).length c)
  have hr2 := hrow.kept (grownBy_setCell' W w.heap.size (.slice A (List.range (countN rec.size)).length c)) (.inr (hv.not_row (by decide) hrow).symm)
  have hv2 := hv.set (.slice A (List.range (countN rec.size)).length c)
  rw [hlen] at hK2 hB2 hr2 hv2 hnil
  refine ⟨by simp, .inl ⟨_, _, rfl, run_takeDeferred hK2, ?_⟩⟩
  refine ⟨_, results_list (p := 4) (q := 5) rfl _ _ w.heap.size _ rfl (cell_kept hv2.cell (grownBy_putObj' _ D (.deferred none)) (fun r e => by cases e; exact ⟨_, hK2, rfl⟩)), _, rfl, ?_, ?_, ?_⟩
  ·rw [List.length_map, hlen]
   exact ownsRow_putObj (ownsRow_mono hr2 (Nat.le_add_right _ 3)) _ hK2 rfl
  ·rw [hnil]; simp
  ·exact hB2.trans (belowK_b (w := w) (Nat.le_refl _) _ D _ _ (by omega) hK2 rfl rfl)
end Go.Proofs.YtpghocekofdpbaaGreatDoor.Sec
namespace Go.Proofs.YtpghocekofdpbaaGreatDoor.Sec
open Go.RowKit Go.Shelf
attribute [local go_sem] Oper.semAt_some
def partVal (a b c : Int) (t : ByteArray) : Value := .agg #[.int .i64 a, .int .i64 b, .int .i64 c, .string t]
theorem trim_nil (l : List UInt8) (h : l.all (· == 0) = true) : Lib.trimB l 0 = [] := by
 unfold Lib.trimB Lib.trimRightB Lib.trimLeftB
 have h2 : ∀ m : List UInt8, m.all (· == 0) = true -> m.dropWhile (· == 0) = [] := by
  intro m
  induction m with
  | nil => intro _; rfl
  | cons a r ih => intro hm; rw [List.all_cons, Bool.and_eq_true] at hm; rw [List.dropWhile_cons, if_pos hm.1]; exact ih hm.2
 rw [h2 l.reverse (by rw [List.all_reverse]; exact h)]
 rfl
theorem trim_some (l : List UInt8) (h : l.all (· == 0) = false) : Lib.trimB l 0 ≠ [] := by
 have h2 : ∀ m : List UInt8, m.all (· == 0) = false -> m.dropWhile (· == 0) ≠ [] /\ (m.dropWhile (· == 0)).all (· == 0) = false := by
  intro m
  induction m with
  | nil => intro e; cases e
  | cons a r ih =>
   intro hm
   rw [List.dropWhile_cons]
   by_cases ha : (a == 0) = true
   ·rw [if_pos ha]
    rw [List.all_cons, ha, Bool.true_and] at hm
    exact ih hm
   ·rw [if_neg ha]
    exact ⟨by simp, hm⟩
 unfold Lib.trimB Lib.trimRightB Lib.trimLeftB
 have h3 := (h2 l.reverse (by rw [List.all_reverse]; exact h)).2
 exact (h2 _ (by rw [List.all_reverse]; exact h3)).1
theorem trim_zero (s : ByteArray) (w : World) (hs : s.size <= 1000) (h : s.data.toList.all (· == 0) = true) :
  Calls Tryz.prog 186 #[.string s, .string ⟨#[0]⟩] w fun e w' => e = .returned (.string ⟨#[]⟩) /\ ∃ q, w' = w.drewN q := by
 refine (Tryz.strings_Trim_one s 0 (by decide) w (by omega)).mono ?_
 rintro e w' ⟨rfl, hw⟩
 refine ⟨by rw [trim_nil _ h], ?_⟩
 rcases hw with rfl | rfl
 ·exact ⟨0, rfl⟩
 ·exact ⟨1, rfl⟩
theorem trim_rest (s : ByteArray) (w : World) (hs : s.size <= 1000) (h : s.data.toList.all (· == 0) = false) :
  Calls Tryz.prog 186 #[.string s, .string ⟨#[0]⟩] w fun e w' => ∃ y : ByteArray, e = .returned (.string y) /\ y.toList.isEmpty = false /\ ∃ q, w' = w.drewN q := by
 refine (Tryz.strings_Trim_one s 0 (by decide) w (by omega)).mono ?_
 rintro e w' ⟨rfl, hw⟩
 refine ⟨_, rfl, ?_, ?_⟩
 ·have := trim_some _ h
  cases hl : Lib.trimB s.data.toList 0 with
  | nil => exact absurd hl this
  | cons a r => simp
 rcases hw with rfl | rfl
 ·exact ⟨0, rfl⟩
 ·exact ⟨1, rfl⟩
theorem clone_any (s : ByteArray) (w : World) (hs : s.size <= 1000) : Calls Tryz.prog 187 #[.string s] w fun e w' => e = .returned (.string s) /\ Below w.heap.size w w' := by
 go_enter Tryz.func187, Tryz.ntmps187
 go_wp2_with (go_at_call 199; refine (Tryz.stringslite_Clone s _ (by omega)).mono ?_; rintro e w' ⟨rfl, hB⟩)
 go_ret
 exact ⟨rfl, hB⟩
set_option maxRecDepth 100000 in
set_option maxHeartbeats 4000000 in
theorem open_size (s : ByteArray) (w : World) (hs : s.size ≠ 64) :
  Calls Tryz.prog 170 #[.string s] w fun e w' => e = .returned (.tuple #[partVal 0 0 0 ⟨#[]⟩, .int .i64 1]) /\ Below w.heap.size w w' := by
 have h1 : ((s.size : Int) != 64) = true := bne_t (by omega)
 clear hs
 go_enter Tryz.func170, Tryz.ntmps170
 go_wp2_with fail
 exact bodyPost_ret (v := .tuple #[partVal 0 0 0 ⟨#[]⟩, .int .i64 1]) (results_ct (p := 2) (q := 3) rfl _ _ w.heap.size 235 #[.int .i64 0, .int .i64 0, .int .i64 0, .string ⟨#[]⟩] _ rfl (Blk.new _ _ _) Tryz.underlying235 rfl (by kernel_rfl)) rfl ⟨rfl, (Below.refl _ _).alloc (Nat.le_refl _) _⟩
theorem meet_up {G R : Prop} (h : G -> R) (g : G) : R := h g
structure Cut (s : ByteArray) (N P L : Nat) : Prop where
 size : s.size = 64
 num : getL (s.extract 0 8).data.toList = N
 part : getL (s.extract 8 10).data.toList = P
 left : getL (s.extract 10 12).data.toList = L
theorem Cut.lt2 {s : ByteArray} {N P L : Nat} (h : Cut s N P L) : P < 65536 := by
 have := get_lt (s.extract 8 10).data.toList
 rw [h.part] at this
 have h2 : (s.extract 8 10).data.toList.length = 2 := by rw [Array.length_toList]; show (s.extract 8 10).size = 2; rw [ByteArray.size_extract, h.size]; rfl
 rw [h2] at this
 omega
theorem Cut.lt3 {s : ByteArray} {N P L : Nat} (h : Cut s N P L) : L < 65536 := by
 have := get_lt (s.extract 10 12).data.toList
 rw [h.left] at this
 have h2 : (s.extract 10 12).data.toList.length = 2 := by rw [Array.length_toList]; show (s.extract 10 12).size = 2; rw [ByteArray.size_extract, h.size]; rfl
 rw [h2] at this
 omega
def okB (s : ByteArray) (N P L : Nat) : Bool :=
 ((s.extract 0 8).toList == (s.extract 56 64).toList) && (decide (1 <= N) && (decide (N <= mostN) && (decide (P * 44 + L <= 8000) && ((decide (P = 0) || decide (0 < L)) && ((s.extract 12 56).extract (min L 44) 44).data.toList.all (· == 0)))))
def openA (s : ByteArray) (N P L : Nat) : Value := if okB s N P L = true then partVal N P L ((s.extract 12 56).extract 0 (min L 44)) else partVal 0 0 0 ⟨#[]⟩
def openB (s : ByteArray) (N P L : Nat) : Int := if okB s N P L = true then 0 else 7
theorem open_corrupt {s : ByteArray} {N P L : Nat} (h : okB s N P L = false) : openA s N P L = partVal 0 0 0 ⟨#[]⟩ /\ openB s N P L = 7 := by
 unfold openA openB
 rw [h]
 exact ⟨rfl, rfl⟩
theorem open_fine {s : ByteArray} {N P L n : Nat} (hn : n = min L 44) (h : okB s N P L = true) : openA s N P L = partVal N P L ((s.extract 12 56).extract 0 n) /\ openB s N P L = 0 := by
 unfold openA openB
 rw [h, hn]
 exact ⟨rfl, rfl⟩
theorem tuple_pair {a b : Value} {x y : Int} (h : a = b /\ x = y) : Ending.returned (.tuple #[b, .int .i64 y]) = .returned (.tuple #[a, .int .i64 x]) := by rw [h.1, h.2]
set_option maxRecDepth 100000 in
set_option maxHeartbeats 4000000 in
theorem open_x (s : ByteArray) (N P L : Nat) (h : Cut s N P L) (w : World) :
  Calls Tryz.prog 170 #[.string s] w fun e w' => e = .returned (.tuple #[openA s N P L, .int .i64 (openB s N P L)]) /\ Below w.heap.size w w' := by
 have h64 := h.size
 have HG1 : ∀ w, Hid (Calls Tryz.prog 185 #[.string (s.extract 0 8)] w fun e w' => e = .returned (.int .u64 N) /\ w = w') := fun w => by
  have := get_any w (s.extract 0 8) (by rw [ByteArray.size_extract]; omega)
  rw [h.num] at this
  exact this
 have HG2 : ∀ w, Hid (Calls Tryz.prog 185 #[.string (s.extract 8 10)] w fun e w' => e = .returned (.int .u64 P) /\ w = w') := fun w => by
  have := get_any w (s.extract 8 10) (by rw [ByteArray.size_extract]; omega)
  rw [h.part] at this
  exact this
 have HG3 : ∀ w, Hid (Calls Tryz.prog 185 #[.string (s.extract 10 12)] w fun e w' => e = .returned (.int .u64 L) /\ w = w') := fun w => by
  have := get_any w (s.extract 10 12) (by rw [ByteArray.size_extract]; omega)
  rw [h.left] at this
  exact this
 have H := Lib.hid h
 clear h
 go_enter Tryz.func170, Tryz.ntmps170
 go_wp2_with fail
 go_quiet ((go_at_call 185; exact Calls.quiet_of_same (((HG1 _).out).mono fun e w' h => ⟨h.1, h.2.symm⟩)))
 have hwP : IntKind.i64.wrap (P : Int) = P := by have := H.out.lt2; simp [IntKind.wrap, IntKind.bits, IntKind.signed]; omega
 have hwL : IntKind.i64.wrap (L : Int) = L := by have := H.out.lt3; simp [IntKind.wrap, IntKind.bits, IntKind.signed]; omega
 have b0 := (Blk.new w 235 #[.int .i64 0, .int .i64 0, .int .i64 0, .string ⟨#[]⟩]).drewN nq
 have hBW : Below w.heap.size w ((w.alloc (.cells #[.int .i64 0, .int .i64 0, .int .i64 0, .string ⟨#[]⟩] 235)).drewN nq) := below_drewN ((Below.refl _ _).alloc (Nat.le_refl _) _) nq
 have hsz : ((w.alloc (.cells #[.int .i64 0, .int .i64 0, .int .i64 0, .string ⟨#[]⟩] 235)).drewN nq).heap.size = w.heap.size + 1 := by simp [World.drewN]
 generalize (w.alloc (.cells #[.int .i64 0, .int .i64 0, .int .i64 0, .string ⟨#[]⟩] 235)).drewN nq = W at b0 hBW hsz ⊢
 have Hsz := Lib.hid hsz
 clear hsz
 go_wp2_with fail
 refine' meet_up (fun hgo => ?body) ?rest
 case body =>
  go_region_held3 (fun _ => True) (trivial) (first
   | (go_at_call_of 185 (ByteArray.extract s 8 10); refine (HG2 _).out.mono ?_; rintro e w1 ⟨rfl, rfl⟩)
   | (go_at_call_of 185 (ByteArray.extract s 10 12); refine (HG3 _).out.mono ?_; rintro e w1 ⟨rfl, rfl⟩))
  all_goals exact hgo
 have b1 := (Blk.new W 235 #[.int .i64 0, .int .i64 P, .int .i64 L, .string ⟨#[]⟩]).drew
 have b2 := (b0.alloc (.cells #[.int .i64 0, .int .i64 P, .int .i64 L, .string ⟨#[]⟩] 235)).drew
 have hB2 : Below w.heap.size w ((W.alloc (.cells #[.int .i64 0, .int .i64 P, .int .i64 L, .string ⟨#[]⟩] 235)).drew) := (hBW.alloc hBW.size _).drew
 rw [Hsz.out] at b1 ⊢
 generalize (W.alloc (.cells #[.int .i64 0, .int .i64 P, .int .i64 L, .string ⟨#[]⟩] 235)).drew = W2 at b1 b2 hB2 ⊢
 clear b0 hBW Hsz HG1 HG2 HG3 hwP hwL
 obtain ⟨n, hn⟩ : ∃ n : Nat, min (L : Int) 44 = n := ⟨min L 44, by omega⟩
 have hnL : n = min L 44 := by omega
 have hn44 : n <= 44 := by omega
 have HnL := Lib.hid hnL
 clear hnL
 obtain ⟨eb, heb⟩ : ∃ eb, ((s.extract 0 8).toList == (s.extract 56 64).toList) = eb := ⟨_, rfl⟩
 have Heb := Lib.hid heb
 have c2 := b1.cell 2
 go_wp2_with fail
 go_quiet (fail)
 have b3 := b1.drewN nq
 have b4 := b2.drewN nq
 have hB3 := below_drewN hB2 nq
 generalize W2.drewN nq = W3 at b3 b4 hB3 ⊢
 clear b1 b2 hB2 c2
 have c1 := b3.cell 1
 have c2 := b3.cell 2
 have z0 := b4.cell 0
 have z1 := b4.cell 1
 have z2 := b4.cell 2
 have z3 := b4.cell 3
 have zf0 := b4.frozen 0
 have zf1 := b4.frozen 1
 have zf2 := b4.frozen 2
 have zf3 := b4.frozen 3
 have hP16 := H.out.lt2
 have hL16 := H.out.lt3
 have hTs : (s.extract 12 56).size = 44 := by rw [ByteArray.size_extract, h64]; rfl
 cases eb with
 | false =>
  have hok := open_corrupt (s := s) (N := N) (P := P) (L := L) (by unfold okB; rw [Heb.out]; rfl)
  have Hok := Lib.hid hok
  clear hok
  go_wp2_with fail
  exact bodyPost_ret (v := .tuple #[partVal 0 0 0 ⟨#[]⟩, .int .i64 7]) (results_ct (p := 2) (q := 3) rfl _ _ w.heap.size 235 #[.int .i64 0, .int .i64 0, .int .i64 0, .string ⟨#[]⟩] _ rfl ((((b4.set_ 0 (.int .i64 0)).set_ 1 (.int .i64 0)).set_ 2 (.int .i64 0)).set_ 3 (.string ⟨#[]⟩)) Tryz.underlying235 rfl (by kernel_rfl)) rfl ⟨tuple_pair Hok.out, (((hB3.setCell (p := ⟨w.heap.size, 0, none⟩) (Nat.le_refl _) _).setCell (p := ⟨w.heap.size, 1, none⟩) (Nat.le_refl _) _).setCell (p := ⟨w.heap.size, 2, none⟩) (Nat.le_refl _) _).setCell (p := ⟨w.heap.size, 3, none⟩) (Nat.le_refl _) _⟩
 | true =>
  by_cases h1 : N < 1
  ·have d1 : decide ((N : Int) < 1) = true := decide_eq_true (by omega)
   have hok := open_corrupt (s := s) (N := N) (P := P) (L := L) (by unfold okB; rw [decide_eq_false (show ¬ 1 <= N by omega)]; simp)
   have Hok := Lib.hid hok
   clear hok
   go_wp2_with fail
   exact bodyPost_ret (v := .tuple #[partVal 0 0 0 ⟨#[]⟩, .int .i64 7]) (results_ct (p := 2) (q := 3) rfl _ _ w.heap.size 235 #[.int .i64 0, .int .i64 0, .int .i64 0, .string ⟨#[]⟩] _ rfl ((((b4.set_ 0 (.int .i64 0)).set_ 1 (.int .i64 0)).set_ 2 (.int .i64 0)).set_ 3 (.string ⟨#[]⟩)) Tryz.underlying235 rfl (by kernel_rfl)) rfl ⟨tuple_pair Hok.out, (((hB3.setCell (p := ⟨w.heap.size, 0, none⟩) (Nat.le_refl _) _).setCell (p := ⟨w.heap.size, 1, none⟩) (Nat.le_refl _) _).setCell (p := ⟨w.heap.size, 2, none⟩) (Nat.le_refl _) _).setCell (p := ⟨w.heap.size, 3, none⟩) (Nat.le_refl _) _⟩
  have d1 : decide ((N : Int) < 1) = false := decide_eq_false (by omega)
  by_cases h2 : mostN < N
  ·have d2 : decide (4611686018427387904 < (N : Int)) = true := decide_eq_true (by unfold mostN at h2; omega)
   have hok := open_corrupt (s := s) (N := N) (P := P) (L := L) (by unfold okB; rw [decide_eq_false (show ¬ N <= mostN by omega)]; simp)
   have Hok := Lib.hid hok
   clear hok
   go_wp2_with fail
   exact bodyPost_ret (v := .tuple #[partVal 0 0 0 ⟨#[]⟩, .int .i64 7]) (results_ct (p := 2) (q := 3) rfl _ _ w.heap.size 235 #[.int .i64 0, .int .i64 0, .int .i64 0, .string ⟨#[]⟩] _ rfl ((((b4.set_ 0 (.int .i64 0)).set_ 1 (.int .i64 0)).set_ 2 (.int .i64 0)).set_ 3 (.string ⟨#[]⟩)) Tryz.underlying235 rfl (by kernel_rfl)) rfl ⟨tuple_pair Hok.out, (((hB3.setCell (p := ⟨w.heap.size, 0, none⟩) (Nat.le_refl _) _).setCell (p := ⟨w.heap.size, 1, none⟩) (Nat.le_refl _) _).setCell (p := ⟨w.heap.size, 2, none⟩) (Nat.le_refl _) _).setCell (p := ⟨w.heap.size, 3, none⟩) (Nat.le_refl _) _⟩
  have d2 : decide (4611686018427387904 < (N : Int)) = false := decide_eq_false (by unfold mostN at h2; omega)
  by_cases h3 : 8000 < P * 44 + L
  ·have d3 : decide (8000 < (P : Int) * 44 + L) = true := decide_eq_true (by omega)
   have hok := open_corrupt (s := s) (N := N) (P := P) (L := L) (by unfold okB; rw [decide_eq_false (show ¬ P * 44 + L <= 8000 by omega)]; simp)
   have Hok := Lib.hid hok
   clear hok
   go_wp2_with fail
   exact bodyPost_ret (v := .tuple #[partVal 0 0 0 ⟨#[]⟩, .int .i64 7]) (results_ct (p := 2) (q := 3) rfl _ _ w.heap.size 235 #[.int .i64 0, .int .i64 0, .int .i64 0, .string ⟨#[]⟩] _ rfl ((((b4.set_ 0 (.int .i64 0)).set_ 1 (.int .i64 0)).set_ 2 (.int .i64 0)).set_ 3 (.string ⟨#[]⟩)) Tryz.underlying235 rfl (by kernel_rfl)) rfl ⟨tuple_pair Hok.out, (((hB3.setCell (p := ⟨w.heap.size, 0, none⟩) (Nat.le_refl _) _).setCell (p := ⟨w.heap.size, 1, none⟩) (Nat.le_refl _) _).setCell (p := ⟨w.heap.size, 2, none⟩) (Nat.le_refl _) _).setCell (p := ⟨w.heap.size, 3, none⟩) (Nat.le_refl _) _⟩
  have d3 : decide (8000 < (P : Int) * 44 + L) = false := decide_eq_false (by omega)
  by_cases h4 : 0 < P /\ L = 0
  ·have d4 : 0 < P := h4.1
   have d5 : ((L : Int) == 0) = true := beq_t (by omega)
   have HH4 := Lib.hid h4
   clear h4
   have hok := open_corrupt (s := s) (N := N) (P := P) (L := L) (by unfold okB; rw [decide_eq_false (show ¬ P = 0 by have := HH4.out; omega), decide_eq_false (show ¬ 0 < L by have := HH4.out; omega)]; simp)
   have Hok := Lib.hid hok
   clear hok
   go_wp2_with fail
   exact bodyPost_ret (v := .tuple #[partVal 0 0 0 ⟨#[]⟩, .int .i64 7]) (results_ct (p := 2) (q := 3) rfl _ _ w.heap.size 235 #[.int .i64 0, .int .i64 0, .int .i64 0, .string ⟨#[]⟩] _ rfl ((((b4.set_ 0 (.int .i64 0)).set_ 1 (.int .i64 0)).set_ 2 (.int .i64 0)).set_ 3 (.string ⟨#[]⟩)) Tryz.underlying235 rfl (by kernel_rfl)) rfl ⟨tuple_pair Hok.out, (((hB3.setCell (p := ⟨w.heap.size, 0, none⟩) (Nat.le_refl _) _).setCell (p := ⟨w.heap.size, 1, none⟩) (Nat.le_refl _) _).setCell (p := ⟨w.heap.size, 2, none⟩) (Nat.le_refl _) _).setCell (p := ⟨w.heap.size, 3, none⟩) (Nat.le_refl _) _⟩
  have HH4 := Lib.hid h4
  have hTn : ((s.extract 12 56).extract n 44).size <= 1000 := by rw [ByteArray.size_extract]; omega
  have hTc : ((s.extract 12 56).extract 0 n).size <= 1000 := by rw [ByteArray.size_extract]; omega
  cases hz : ((s.extract 12 56).extract n 44).data.toList.all (· == 0) with
  | false =>
   have HT := fun w => Lib.hid (trim_rest _ w hTn hz)
   have Hz := Lib.hid hz
   clear hz hTn hTc
   by_cases h5 : 0 < P
   ·have d5 : ((L : Int) == 0) = false := beq_f (by omega)
    have hok := open_corrupt (s := s) (N := N) (P := P) (L := L) (by unfold okB; rw [<- HnL.out, Hz.out]; simp)
    have Hok := Lib.hid hok
    clear hok
    go_wp2_with (go_at_call 186; refine (HT _).out.mono ?_; rintro e w4 ⟨y, rfl, hy, q, rfl⟩)
    exact bodyPost_ret (v := .tuple #[partVal 0 0 0 ⟨#[]⟩, .int .i64 7]) (results_ct (p := 2) (q := 3) rfl _ _ w.heap.size 235 #[.int .i64 0, .int .i64 0, .int .i64 0, .string ⟨#[]⟩] _ rfl (((((b4.drewN q).set_ 0 (.int .i64 0)).set_ 1 (.int .i64 0)).set_ 2 (.int .i64 0)).set_ 3 (.string ⟨#[]⟩)) Tryz.underlying235 rfl (by kernel_rfl)) rfl ⟨tuple_pair Hok.out, ((((below_drewN hB3 q).setCell (p := ⟨w.heap.size, 0, none⟩) (Nat.le_refl _) _).setCell (p := ⟨w.heap.size, 1, none⟩) (Nat.le_refl _) _).setCell (p := ⟨w.heap.size, 2, none⟩) (Nat.le_refl _) _).setCell (p := ⟨w.heap.size, 3, none⟩) (Nat.le_refl _) _⟩
   ·have d5 := h5
    have hok := open_corrupt (s := s) (N := N) (P := P) (L := L) (by unfold okB; rw [<- HnL.out, Hz.out]; simp)
    have Hok := Lib.hid hok
    clear hok
    go_wp2_with (go_at_call 186; refine (HT _).out.mono ?_; rintro e w4 ⟨y, rfl, hy, q, rfl⟩)
    exact bodyPost_ret (v := .tuple #[partVal 0 0 0 ⟨#[]⟩, .int .i64 7]) (results_ct (p := 2) (q := 3) rfl _ _ w.heap.size 235 #[.int .i64 0, .int .i64 0, .int .i64 0, .string ⟨#[]⟩] _ rfl (((((b4.drewN q).set_ 0 (.int .i64 0)).set_ 1 (.int .i64 0)).set_ 2 (.int .i64 0)).set_ 3 (.string ⟨#[]⟩)) Tryz.underlying235 rfl (by kernel_rfl)) rfl ⟨tuple_pair Hok.out, ((((below_drewN hB3 q).setCell (p := ⟨w.heap.size, 0, none⟩) (Nat.le_refl _) _).setCell (p := ⟨w.heap.size, 1, none⟩) (Nat.le_refl _) _).setCell (p := ⟨w.heap.size, 2, none⟩) (Nat.le_refl _) _).setCell (p := ⟨w.heap.size, 3, none⟩) (Nat.le_refl _) _⟩
  | true =>
   have HT := fun w => Lib.hid (trim_zero _ w hTn hz)
   have Hz := Lib.hid hz
   clear hz hTn
   by_cases h5 : 0 < P
   ·have d5 : ((L : Int) == 0) = false := beq_f (by omega)
    have hne : w.heap.size ≠ w.heap.size + 1 := by omega
    have hok := open_fine (s := s) (N := N) (P := P) (L := L) HnL.out (by
     unfold okB
     rw [<- HnL.out, Hz.out, Heb.out, decide_eq_true (show 1 <= N by omega), decide_eq_true (show N <= mostN by omega), decide_eq_true (show P * 44 + L <= 8000 by omega)]
     have := HH4.out
     rcases Nat.eq_zero_or_pos P with h0 | h0
     ·rw [decide_eq_true h0]; rfl
     ·rw [decide_eq_true (show 0 < L by omega)]; simp)
    have Hok := Lib.hid hok
    clear hok
    have hwN : IntKind.i64.wrap (N : Int) = N := by unfold mostN at h2; simp [IntKind.wrap, IntKind.bits, IntKind.signed]; omega
    go_wp2_with (first | (go_at_call 186; refine (HT _).out.mono ?_; rintro e w4 ⟨rfl, q, rfl⟩) | (go_at_call 187; refine (clone_any _ _ (by omega)).mono ?_; rintro e w5 ⟨rfl, hB5⟩; have b5 := (b3.drewN q).below hB5 (b3.drewN q).lt; have b6 := (b4.drewN q).below hB5 (b4.drewN q).lt; have hB6 := (below_drewN hB3 q).trans (hB5.mono (below_drewN hB3 q).size); have y0 := b5.cell 0; have y1 := b5.cell 1; have y2 := b5.cell 2; have y3 := b5.cell 3; have yf0 := b5.frozen 0; have yf1 := b5.frozen 1; have yf2 := b5.frozen 2; have yf3 := b5.frozen 3; have x0 := b6.cell 0; have x1 := b6.cell 1; have x2 := b6.cell 2; have x3 := b6.cell 3; have xf0 := b6.frozen 0; have xf1 := b6.frozen 1; have xf2 := b6.frozen 2; have xf3 := b6.frozen 3))
    exact bodyPost_ret (v := .tuple #[partVal N P L ((s.extract 12 56).extract 0 n), .int .i64 0]) (results_ct (p := 2) (q := 3) rfl _ _ w.heap.size 235 #[.int .i64 N, .int .i64 P, .int .i64 L, .string ((s.extract 12 56).extract 0 n)] _ rfl ((((((b6.other (a := ⟨w.heap.size + 1, 0, none⟩) hne (.int .i64 N)).other (a := ⟨w.heap.size + 1, 3, none⟩) hne (.string ((s.extract 12 56).extract 0 n))).set_ 0 (.int .i64 N)).set_ 1 (.int .i64 P)).set_ 2 (.int .i64 L)).set_ 3 (.string ((s.extract 12 56).extract 0 n))) Tryz.underlying235 rfl (by kernel_rfl)) rfl ⟨tuple_pair Hok.out, (((((hB6.setCell (p := ⟨w.heap.size + 1, 0, none⟩) (Nat.le_succ _) _).setCell (p := ⟨w.heap.size + 1, 3, none⟩) (Nat.le_succ _) _).setCell (p := ⟨w.heap.size, 0, none⟩) (Nat.le_refl _) _).setCell (p := ⟨w.heap.size, 1, none⟩) (Nat.le_refl _) _).setCell (p := ⟨w.heap.size, 2, none⟩) (Nat.le_refl _) _).setCell (p := ⟨w.heap.size, 3, none⟩) (Nat.le_refl _) _⟩
   ·have d5 := h5
    have hne : w.heap.size ≠ w.heap.size + 1 := by omega
    have hok := open_fine (s := s) (N := N) (P := P) (L := L) HnL.out (by
     unfold okB
     rw [<- HnL.out, Hz.out, Heb.out, decide_eq_true (show 1 <= N by omega), decide_eq_true (show N <= mostN by omega), decide_eq_true (show P * 44 + L <= 8000 by omega)]
     have := HH4.out
     rcases Nat.eq_zero_or_pos P with h0 | h0
     ·rw [decide_eq_true h0]; rfl
     ·rw [decide_eq_true (show 0 < L by omega)]; simp)
    have Hok := Lib.hid hok
    clear hok
    have hwN : IntKind.i64.wrap (N : Int) = N := by unfold mostN at h2; simp [IntKind.wrap, IntKind.bits, IntKind.signed]; omega
    go_wp2_with (first | (go_at_call 186; refine (HT _).out.mono ?_; rintro e w4 ⟨rfl, q, rfl⟩) | (go_at_call 187; refine (clone_any _ _ (by omega)).mono ?_; rintro e w5 ⟨rfl, hB5⟩; have b5 := (b3.drewN q).below hB5 (b3.drewN q).lt; have b6 := (b4.drewN q).below hB5 (b4.drewN q).lt; have hB6 := (below_drewN hB3 q).trans (hB5.mono (below_drewN hB3 q).size); have y0 := b5.cell 0; have y1 := b5.cell 1; have y2 := b5.cell 2; have y3 := b5.cell 3; have yf0 := b5.frozen 0; have yf1 := b5.frozen 1; have yf2 := b5.frozen 2; have yf3 := b5.frozen 3; have x0 := b6.cell 0; have x1 := b6.cell 1; have x2 := b6.cell 2; have x3 := b6.cell 3; have xf0 := b6.frozen 0; have xf1 := b6.frozen 1; have xf2 := b6.frozen 2; have xf3 := b6.frozen 3))
    exact bodyPost_ret (v := .tuple #[partVal N P L ((s.extract 12 56).extract 0 n), .int .i64 0]) (results_ct (p := 2) (q := 3) rfl _ _ w.heap.size 235 #[.int .i64 N, .int .i64 P, .int .i64 L, .string ((s.extract 12 56).extract 0 n)] _ rfl ((((((b6.other (a := ⟨w.heap.size + 1, 0, none⟩) hne (.int .i64 N)).other (a := ⟨w.heap.size + 1, 3, none⟩) hne (.string ((s.extract 12 56).extract 0 n))).set_ 0 (.int .i64 N)).set_ 1 (.int .i64 P)).set_ 2 (.int .i64 L)).set_ 3 (.string ((s.extract 12 56).extract 0 n))) Tryz.underlying235 rfl (by kernel_rfl)) rfl ⟨tuple_pair Hok.out, (((((hB6.setCell (p := ⟨w.heap.size + 1, 0, none⟩) (Nat.le_succ _) _).setCell (p := ⟨w.heap.size + 1, 3, none⟩) (Nat.le_succ _) _).setCell (p := ⟨w.heap.size, 0, none⟩) (Nat.le_refl _) _).setCell (p := ⟨w.heap.size, 1, none⟩) (Nat.le_refl _) _).setCell (p := ⟨w.heap.size, 2, none⟩) (Nat.le_refl _) _).setCell (p := ⟨w.heap.size, 3, none⟩) (Nat.le_refl _) _⟩
end Go.Proofs.YtpghocekofdpbaaGreatDoor.Sec
namespace Go.Proofs.YtpghocekofdpbaaGreatDoor.Sec
open Go.RowKit Go.Shelf
attribute [local go_sem] Oper.semAt_some
def openE (s : ByteArray) : Value × Int :=
 if s.size = 64 then
  match openL s.data.toList with
  | some p => (partVal p.number p.part p.left ⟨p.text.toArray⟩, 0)
  | none => (partVal 0 0 0 ⟨#[]⟩, 7)
 else (partVal 0 0 0 ⟨#[]⟩, 1)
theorem ext_list (s : ByteArray) (a b : Nat) : (s.extract a b).data.toList = (s.data.toList.drop a).take (b - a) := by
 rw [ByteArray.data_extract, Array.toList_extract, List.extract_eq_take_drop]
theorem toList_data (s : ByteArray) : s.toList = s.data.toList := ByteArray.toList_eq s
theorem openL_ok {s : ByteArray} {N P L : Nat} (h : Cut s N P L) : openL s.data.toList = if okB s N P L = true then some ⟨N, P, L, ((s.extract 12 56).extract 0 (min L 44)).data.toList⟩ else none := by
 have hsz : s.data.toList.length = 64 := by rw [Array.length_toList]; exact h.size
 have e1 : s.data.toList.take 8 = (s.extract 0 8).data.toList := by rw [ext_list]; rfl
 have e2 : s.data.toList.drop 56 = (s.extract 56 64).data.toList := by rw [ext_list, List.take_of_length_le (by rw [List.length_drop]; omega)]
 have e3 : (s.data.toList.drop 8).take 2 = (s.extract 8 10).data.toList := by rw [ext_list]
 have e4 : (s.data.toList.drop 10).take 2 = (s.extract 10 12).data.toList := by rw [ext_list]
 have e5 : (s.data.toList.drop (12 + min L 44)).take (44 - min L 44) = ((s.extract 12 56).extract (min L 44) 44).data.toList := by
  rw [ext_list, ext_list, List.drop_take, List.drop_drop, List.take_take]
  congr 1
  omega
 have e6 : (s.data.toList.drop 12).take (min L 44) = ((s.extract 12 56).extract 0 (min L 44)).data.toList := by
  rw [ext_list, ext_list, List.drop_zero, List.take_take]
  congr 1
  omega
 unfold openL
 rw [e1, e2, e3, e4, h.num, h.part, h.left, e5, e6]
 unfold okB
 rw [toList_data, toList_data]
 have hiff : ((s.extract 0 8).data.toList = (s.extract 56 64).data.toList /\ 1 <= N /\ N <= mostN /\ 44 * P + L <= 8000 /\ (0 < P -> 0 < L) /\ (((s.extract 12 56).extract (min L 44) 44).data.toList.all fun x => x == 0) = true) ↔
   (((s.extract 0 8).data.toList == (s.extract 56 64).data.toList) && (decide (1 <= N) && (decide (N <= mostN) && (decide (P * 44 + L <= 8000) && ((decide (P = 0) || decide (0 < L)) && ((s.extract 12 56).extract (min L 44) 44).data.toList.all (· == 0)))))) = true := by
  simp only [Bool.and_eq_true, Bool.or_eq_true, decide_eq_true_eq, beq_iff_eq]
  constructor
  ·rintro ⟨a, b, c, d, e, f⟩
   exact ⟨a, b, c, by omega, by omega, f⟩
  ·rintro ⟨a, b, c, d, e, f⟩
   exact ⟨a, b, c, by omega, by omega, f⟩
 by_cases hc : (s.extract 0 8).data.toList = (s.extract 56 64).data.toList /\ 1 <= N /\ N <= mostN /\ 44 * P + L <= 8000 /\ (0 < P -> 0 < L) /\ (((s.extract 12 56).extract (min L 44) 44).data.toList.all fun x => x == 0) = true
 ·rw [if_pos hc, if_pos (hiff.1 hc)]
 ·rw [if_neg hc, if_neg (fun h => hc (hiff.2 h))]
theorem cut_of {s : ByteArray} (hs : s.size = 64) : ∃ N P L, Cut s N P L := ⟨getL (s.extract 0 8).data.toList, getL (s.extract 8 10).data.toList, getL (s.extract 10 12).data.toList, hs, rfl, rfl, rfl⟩
theorem open_any (s : ByteArray) (w : World) : Calls Tryz.prog 170 #[.string s] w fun e w' => e = .returned (.tuple #[(openE s).1, .int .i64 (openE s).2]) /\ Below w.heap.size w w' := by
 unfold openE
 by_cases hs : s.size = 64
 ·rw [if_pos hs]
  obtain ⟨N, P, L, hc⟩ := cut_of hs
  rw [openL_ok hc]
  refine (open_x s N P L hc w).mono ?_
  rintro e w' ⟨rfl, hB⟩
  refine ⟨?_, hB⟩
  unfold openA openB
  split <;> rfl
 ·rw [if_neg hs]
  exact open_size s w hs
def packE (number : Int) (rec : ByteArray) : List ByteArray × Int :=
 if number < 1 \/ 4611686018427387904 < number then ([], 1) else if 8000 < rec.size then ([], 2) else ((List.range (countN rec.size)).map (secText number.toNat rec), 0)
theorem newTexts_nil {w w' : World} (h : Below w.heap.size w w') : NewTexts w w' (.slice none 0 0) [] := ⟨World.ownsRow_nil _ _ _ _, by simp, h⟩
set_option maxRecDepth 100000 in
set_option maxHeartbeats 4000000 in
theorem pack_any (w : World) (number : Int) (rec : ByteArray) :
  Calls Tryz.prog 123 #[.int .i64 number, .string rec] w fun e w' => ∃ v, e = .returned (.tuple #[v, .int .i64 (packE number rec).2]) /\ NewTexts w w' v (packE number rec).1 := by
 unfold packE
 by_cases h1 : number < 1
 ·rw [if_pos (.inl h1)]
  have d1 : decide (number < 1) = true := decide_eq_true h1
  go_enter Tryz.func123, Tryz.ntmps123
  go_wp2_with fail
  exact bodyPost_ret (v := .tuple #[.slice none 0 0, .int .i64 1]) (results_list (p := 4) (q := 5) rfl _ _ w.heap.size (.slice none 0 0) rfl ((Blk.new w 35 #[.slice none 0 0]).cell 0)) rfl ⟨_, rfl, newTexts_nil ((Below.refl _ _).alloc (Nat.le_refl _) _)⟩
 have d1 : decide (number < 1) = false := decide_eq_false h1
 by_cases h2 : 4611686018427387904 < number
 ·rw [if_pos (.inr h2)]
  have d2 : decide (4611686018427387904 < number) = true := decide_eq_true h2
  go_enter Tryz.func123, Tryz.ntmps123
  go_wp2_with fail
  exact bodyPost_ret (v := .tuple #[.slice none 0 0, .int .i64 1]) (results_list (p := 4) (q := 5) rfl _ _ w.heap.size (.slice none 0 0) rfl ((Blk.new w 35 #[.slice none 0 0]).cell 0)) rfl ⟨_, rfl, newTexts_nil ((Below.refl _ _).alloc (Nat.le_refl _) _)⟩
 have d2 : decide (4611686018427387904 < number) = false := decide_eq_false h2
 rw [if_neg (by omega)]
 by_cases h3 : 8000 < rec.size
 ·rw [if_pos h3]
  have d3 : decide (8000 < (rec.size : Int)) = true := decide_eq_true (by omega)
  go_enter Tryz.func123, Tryz.ntmps123
  go_wp2_with fail
  exact bodyPost_ret (v := .tuple #[.slice none 0 0, .int .i64 2]) (results_list (p := 4) (q := 5) rfl _ _ w.heap.size (.slice none 0 0) rfl ((Blk.new w 35 #[.slice none 0 0]).cell 0)) rfl ⟨_, rfl, newTexts_nil ((Below.refl _ _).alloc (Nat.le_refl _) _)⟩
 ·rw [if_neg h3]
  obtain ⟨n, rfl⟩ := Int.eq_ofNat_of_zero_le (show 0 <= number by omega)
  have := pack_in w n rec (by omega) (by unfold mostN; omega) (by omega)
  simpa using this
end Go.Proofs.YtpghocekofdpbaaGreatDoor.Sec
