/-
  Layer 12 (parse): what the parser has read, in memory; a rule.
-/
import Derived.Test.YtemhiiignamkjaaDoorParW2
import Derived.Test.YtemhiiignamkjaaDoorRowH
import Derived.Test.YtemhiiignamkjaaDoorRegionLate
import Derived.Deep.RegionHeld3
import Derived.Deep.CutRange
import Derived.Deep.CutBlock
namespace Go.Proofs.YtemhiiignamkjaaDoor
open Go.RowKit LexP ParP
attribute [local go_sem] Oper.semAt_some

def typsC (l : List PTyp) : List Value := l.flatMap fun t => [.string t.name.text, .int .i64 t.flags, .int .i64 t.life]
def rulsC (l : List PRul) : List Value := l.flatMap fun r => [.int .i64 r.kind, .int .i64 0, .int .i64 0]
def quosC (l : List PQuo) : List Value := l.flatMap fun q => [.int .i64 q.cmd, .int .i64 q.count, .int .i64 q.delay, .int .i64 q.valid, .int .i64 q.uses]
def namesC (l : List PTyp) : List Value := l.flatMap fun t => tokCells t.name
def endsC (l : List PRul) : List Value := l.flatMap fun r => tokCells r.a ++ tokCells r.b
theorem typsC_snoc (l : List PTyp) (t : PTyp) : typsC (l ++ [t]) = typsC l ++ [.string t.name.text, .int .i64 t.flags, .int .i64 t.life] := by simp [typsC]
theorem rulsC_snoc (l : List PRul) (r : PRul) : rulsC (l ++ [r]) = rulsC l ++ [.int .i64 r.kind, .int .i64 0, .int .i64 0] := by simp [rulsC]
theorem quosC_snoc (l : List PQuo) (q : PQuo) : quosC (l ++ [q]) = quosC l ++ [.int .i64 q.cmd, .int .i64 q.count, .int .i64 q.delay, .int .i64 q.valid, .int .i64 q.uses] := by simp [quosC]
theorem namesC_snoc (l : List PTyp) (t : PTyp) : namesC (l ++ [t]) = namesC l ++ tokCells t.name := by simp [namesC]
theorem endsC_snoc (l : List PRul) (r : PRul) : endsC (l ++ [r]) = endsC l ++ (tokCells r.a ++ tokCells r.b) := by simp [endsC]
def zEnd2 : Value := .agg #[.int .i64 0, .string ⟨#[]⟩, .int .i64 0, .int .i64 0, .int .i64 0, .string ⟨#[]⟩, .int .i64 0, .int .i64 0]
/-- The parser and what it has read. -/
structure PIs (w : World) (B g n : Nat) (tv nm vt vr vq vn ve : Value) (st : St) : Prop where
  blk : Blk w g 61 #[tv, .int .i64 n, nm, vt, vr, vq, vn, ve]
  rt : w.ownsRow B 51 3 vt st.typs.length (typsC st.typs)
  rr : w.ownsRow B 53 3 vr st.ruls.length (rulsC st.ruls)
  rq : w.ownsRow B 55 5 vq st.quos.length (quosC st.quos)
  rn : w.ownsRow B 47 4 vn st.typs.length (namesC st.typs)
  re : w.ownsRow B 101 8 ve st.ruls.length (endsC st.ruls)
theorem own_slice {w : World} {B : Nat} {e : TypeId} {k n : Nat} {v : Value} {xs : List Value} (h : w.ownsRow B e k v n xs) : ∃ A c, v = .slice A n c := by
  rcases h.2 with ⟨rfl, rfl⟩ | ⟨g, cap, cur, rfl, _⟩
  · exact ⟨none, 0, rfl⟩
  · exact ⟨_, _, rfl⟩
theorem own_cast {w : World} {B : Nat} {e : TypeId} {k n m : Nat} {v : Value} {xs ys : List Value} (h : w.ownsRow B e k v n xs) (hn : m = n) (hx : ys = xs) : w.ownsRow B e k v m ys := by subst hn hx; exact h
/-- A block that is none of the parser's rows. -/
def Apart (a : Nat) (vt vr vq vn ve : Value) : Prop := vt.ownBlock ≠ some a ∧ vr.ownBlock ≠ some a ∧ vq.ownBlock ≠ some a ∧ vn.ownBlock ≠ some a ∧ ve.ownBlock ≠ some a
section
variable {w w' : World} {B g n m a : Nat} {tv nm vt vr vq vn ve : Value} {st : St} {l : List Tok}
theorem PIs.step (h : PIs w B g n tv nm vt vr vq vn ve st) (hG : w.grownBy w' (some g)) (hb : Blk w' g 61 #[tv, .int .i64 m, nm, vt, vr, vq, vn, ve]) : PIs w' B g m tv nm vt vr vq vn ve st :=
  ⟨hb, h.rt.kept hG (.inr (own_blk_ne h.rt h.blk (by decide))), h.rr.kept hG (.inr (own_blk_ne h.rr h.blk (by decide))), h.rq.kept hG (.inr (own_blk_ne h.rq h.blk (by decide))),
    h.rn.kept hG (.inr (own_blk_ne h.rn h.blk (by decide))), h.re.kept hG (.inr (own_blk_ne h.re h.blk (by decide)))⟩
theorem PIs.below (h : PIs w B g n tv nm vt vr vq vn ve st) (hb : Below w.heap.size w w') : PIs w' B g n tv nm vt vr vq vn ve st := h.step (grown_ofBelow hb _) (h.blk.below hb h.blk.lt)
theorem PIs.apart (h : PIs w B g n tv nm vt vr vq vn ve st) (ha : w.heap.size ≤ a) : Apart a vt vr vq vn ve :=
  ⟨fun e => Nat.lt_irrefl _ (Nat.lt_of_lt_of_le (h.rt.lt a e).2 ha), fun e => Nat.lt_irrefl _ (Nat.lt_of_lt_of_le (h.rr.lt a e).2 ha), fun e => Nat.lt_irrefl _ (Nat.lt_of_lt_of_le (h.rq.lt a e).2 ha),
    fun e => Nat.lt_irrefl _ (Nat.lt_of_lt_of_le (h.rn.lt a e).2 ha), fun e => Nat.lt_irrefl _ (Nat.lt_of_lt_of_le (h.re.lt a e).2 ha)⟩
theorem PIs.other (h : PIs w B g n tv nm vt vr vq vn ve st) (hG : w.grownBy w' (some a)) (hga : g ≠ a) (hA : Apart a vt vr vq vn ve) : PIs w' B g n tv nm vt vr vq vn ve st :=
  ⟨h.blk.grown hG (fun e => hga (by cases e; rfl)), h.rt.kept hG (.inr hA.1), h.rr.kept hG (.inr hA.2.1), h.rq.kept hG (.inr hA.2.2.1), h.rn.kept hG (.inr hA.2.2.2.1), h.re.kept hG (.inr hA.2.2.2.2)⟩
/-- What a call on the parser leaves of the world: all but its own block and its rows. -/
structure Frm (B g : Nat) (vt vr vq vn ve : Value) (w w' : World) : Prop where
  bel : Below B w w'
  kept : ∀ k, k < w.heap.size → k ≠ g → Apart k vt vr vq vn ve → w'.heap[k]? = w.heap[k]?
theorem Frm.refl : Frm B g vt vr vq vn ve w w := ⟨Below.refl _ _, fun _ _ _ _ => rfl⟩
theorem Frm.trans {w2 : World} (h : Frm B g vt vr vq vn ve w w') (k : Frm B g vt vr vq vn ve w' w2) : Frm B g vt vr vq vn ve w w2 :=
  ⟨h.bel.trans k.bel, fun j hj hg ha => (k.kept j (Nat.lt_of_lt_of_le hj h.bel.size) hg ha).trans (h.kept j hj hg ha)⟩
theorem frm_grown (h : w.grownBy w' (some g)) (hg : B ≤ g) (hgl : g < w.heap.size) : Frm B g vt vr vq vn ve w w' :=
  ⟨grown_below h hg hgl, fun k hk hkg _ => h.block k hk (fun e => hkg (by cases e; rfl))⟩
theorem frm_below (h : Below w.heap.size w w') (hB : B ≤ w.heap.size) : Frm B g vt vr vq vn ve w w' := ⟨h.mono hB, fun k hk _ _ => h.block k hk⟩
theorem Frm.alloc (h : Frm B g vt vr vq vn ve w w') (hB : B ≤ w'.heap.size) (o : Obj) : Frm B g vt vr vq vn ve w (w'.alloc o) :=
  h.trans (frm_below ((Below.refl _ _).alloc (Nat.le_refl _) _) hB)
theorem Frm.drew (h : Frm B g vt vr vq vn ve w w') : Frm B g vt vr vq vn ve w w'.drew := ⟨h.bel.drew, h.kept⟩
theorem Frm.setG (h : Frm B g vt vr vq vn ve w w') (hg : B ≤ g) (i : Nat) (u : Value) : Frm B g vt vr vq vn ve w (w'.setCell ⟨g, i, none⟩ u) :=
  ⟨h.bel.setCell (p := ⟨g, i, none⟩) hg _, fun k hk hkg ha => (Below.heap_setCell _ _ _ _ hkg).trans (h.kept k hk hkg ha)⟩
theorem Frm.setN (h : Frm B g vt vr vq vn ve w w') (hB : B ≤ a) (ha : w.heap.size ≤ a) (i : Nat) (u : Value) : Frm B g vt vr vq vn ve w (w'.setCell ⟨a, i, none⟩ u) :=
  ⟨h.bel.setCell (p := ⟨a, i, none⟩) hB _, fun k hk hkg hA => (Below.heap_setCell _ _ _ _ (Nat.ne_of_lt (Nat.lt_of_lt_of_le hk ha))).trans (h.kept k hk hkg hA)⟩
theorem frm_push {w2 : World} {base : Nat} {el : TypeId} {k cnt : Nat} {v v' : Value} {xs : List Value} (hP : HPushed w' w2 base el k v v' cnt xs) (hB : B ≤ base) (hb : base ≤ w'.heap.size) (hv : ∀ j, Apart j vt vr vq vn ve → v.ownBlock ≠ some j) (h : Frm B g vt vr vq vn ve w w') : Frm B g vt vr vq vn ve w w2 :=
  ⟨hP.bel _ _ hB hb h.bel, fun j hj hg ha => (hP.grown.block j (Nat.lt_of_lt_of_le hj h.bel.size) (fun e => hv j ha e.symm)).trans (h.kept j hj hg ha)⟩
theorem Frm.blk {c : Nat} {t : TypeId} {cs : Array Value} (h : Frm B g vt vr vq vn ve w w') (hb : Blk w c t cs) (hg : c ≠ g) (ha : Apart c vt vr vq vn ve) : Blk w' c t cs := (h.kept c hb.lt hg ha).trans hb
/-- What the reading of an item leaves. -/
def ItemPost (w : World) (B g : Nat) (tv nm vt vr vq vn ve : Value) (l : List Tok) (r : Rd St) (e : Ending) (w' : World) : Prop :=
  Frm B g vt vr vq vn ve w w' ∧ match r with
  | .ok rest st => e = .returned (.tuple #[]) ∧ ∃ n ut ur uq un ue, n ≤ l.length ∧ rest = l.drop n ∧ PIs w' B g n tv nm ut ur uq un ue st
  | .bad rest => ∃ n, n ≤ l.length ∧ rest = l.drop n ∧ e = .panicked [wrongP n]
theorem item_bad {r : Rd St} (hB : Frm B g vt vr vq vn ve w w') (hn : n ≤ l.length) (hr : r = .bad (l.drop n)) : ItemPost w B g tv nm vt vr vq vn ve l r (.panicked [wrongP n]) w' := by
  subst hr
  exact ⟨hB, n, hn, rfl, rfl⟩
theorem item_ok {r : Rd St} {e : Ending} (x : St) (hr : r = .ok (l.drop m) x) (h : ItemPost w B g tv nm vt vr vq vn ve l (.ok (l.drop m) x) e w') : ItemPost w B g tv nm vt vr vq vn ve l r e w' := by
  subst hr
  exact h
theorem drop_at_ {t : Tok} (h : l[n]? = some t) : l.drop n = t :: l.drop (n + 1) := by
  obtain ⟨h1, h2⟩ := List.getElem?_eq_some_iff.1 h
  rw [List.drop_eq_getElem_cons h1, h2]
theorem take_drop_yes {p : Tok → Bool} {t : Tok} (h : l[n]? = some t) (hp : p t = true) : take p (l.drop n) = .ok (l.drop (n + 1)) t := by rw [drop_at_ h, take_yes _ hp]
theorem take_drop_no {p : Tok → Bool} (h : ∀ t, l[n]? = some t → p t = false) : take p (l.drop n) = .bad (l.drop n) := by
  by_cases hn : n < l.length
  · have e := List.getElem?_eq_getElem hn
    rw [drop_at_ e, take_no _ (h _ e)]
  · rw [List.drop_eq_nil_of_le (Nat.le_of_not_lt hn)]
    rfl
theorem lt_of_at {t : Tok} (h : l[n]? = some t) : n + 1 ≤ l.length := (List.getElem?_eq_some_iff.1 h).1
end

set_option maxRecDepth 100000 in
set_option maxHeartbeats 12800000 in
theorem rule_any {w : World} {B g n k : Nat} {tv nm vt vr vq vn ve : Value} {st : St} {l : List Tok} (hP : PIs w B g n tv nm vt vr vq vn ve st) (hT : TkAt w B tv l) (hg : B ≤ g) (hn : n ≤ l.length) (hl : l.length ≤ 4000) (hst : st.ruls.length ≤ 4000) :
    Calls Tryd.prog 55 #[.pointer (some ⟨g, 0, none⟩), .int .i64 k] w (ItemPost w B g tv nm vt vr vq vn ve l ((rdRul k (l.drop n)).bind fun r x => .ok r { st with ruls := st.ruls ++ [x] })) := by
  have hgl := hP.blk.lt
  have hl2 : l.length ≤ 1048576 := Nat.le_trans hl (by decide)
  have hBg : Hid (B ≤ w.heap.size) := Nat.le_trans hg (Nat.le_of_lt hgl)
  have HP := Lib.hid hP
  have HT := Lib.hid hT
  have hlen : Hid (st.ruls.length + 1 ≤ 1000000) := Nat.le_trans (Nat.succ_le_succ hst) (by decide)
  clear hP hT hst
  go_enter Tryd.func55, Tryd.ntmps55
  go_wp2_with fail
  refine (name_any HP.out.blk HT.out hg hn hl2).mono ?_
  rintro e w1 (⟨t1, ht1, hp1, rfl, hb1, hG1⟩ | ⟨hno, rfl, hb1, hG1⟩)
  case inr =>
    go_wp2_with fail
    exact ⟨rfl, item_bad (frm_grown hG1 hg hgl) hn (by unfold rdRul word; rw [take_drop_no hno]; rfl)⟩
  unfold tokAgg
  have E1 : Hid (word (l.drop n) = .ok (l.drop (n + 1)) t1) := take_drop_yes ht1 hp1
  have L1 : Hid (Frm B g vt vr vq vn ve w w1) := frm_grown hG1 hg hgl
  have HP1 := Lib.hid (HP.out.step (m := n + 1) hG1 hb1)
  have HT1 := Lib.hid (HT.out.below L1.out.bel)
  have hn1 := lt_of_at ht1
  clear hb1 hG1 ht1 hp1
  go_upto_region 1 with fail
  refine world_is (P := fun W => Code.wp _ _ _ _ W) (fun W1 hW1 => ?_)
  have hB1 : Below w1.heap.size w1 W1 := by rw [← hW1]; exact (Below.refl _ _).alloc (Nat.le_refl _) _
  have N1 : Hid (Blk W1 w1.heap.size 47 #[.int .i64 t1.kind, .string t1.text, .int .i64 t1.n, .int .i64 t1.pos]) := by unfold Hid; rw [← hW1]; exact Blk.new _ _ _
  have L2 := Lib.hid (L1.out.trans (frm_below hB1 (Nat.le_trans hBg.out L1.out.bel.size)))
  have HP2 := Lib.hid (HP1.out.below hB1)
  have HT2 := Lib.hid (HT.out.below L2.out.bel)
  obtain ⟨a1, ea1⟩ : ∃ a, w1.heap.size = a := ⟨_, rfl⟩
  rw [ea1] at N1 ⊢
  have hga1 : g ≠ a1 := by rw [← ea1]; exact Nat.ne_of_lt HP1.out.blk.lt
  clear hW1 hB1 HP1 HT1 L1 ea1
  go_wp2_with fail
  refine (expect_any W1 g B (n + 1) ⟨#[45, 62]⟩ tv nm vt vr vq vn ve l HP2.out.blk HT2.out hg hn1 hl2).mono ?_
  rintro e w2 (⟨t2, ht2, hp2, rfl, hb2, hG2⟩ | ⟨hno, rfl, hb2, hG2⟩)
  case inr =>
    go_wp2_with fail
    exact ⟨rfl, item_bad (L2.out.trans (frm_grown hG2 hg HP2.out.blk.lt)) hn1 (by unfold rdRul expect; rw [E1.out]; simp only [Rd.bind]; rw [take_drop_no (p := isText wArrow) hno])⟩
  have E2 : Hid (expect wArrow (l.drop (n + 1)) = .ok (l.drop (n + 1 + 1)) t2) := take_drop_yes ht2 hp2
  have L3 := Lib.hid (L2.out.trans (frm_grown hG2 hg HP2.out.blk.lt))
  have N2 := Lib.hid (N1.out.grown hG2 (fun e => hga1 (by cases e; rfl)))
  have HP3 := Lib.hid (HP2.out.step (m := n + 1 + 1) hG2 hb2)
  have HT3 := Lib.hid (HT.out.below L3.out.bel)
  have hn2 := lt_of_at ht2
  clear hb2 hG2 ht2 hp2 L2 HP2 HT2 N1
  go_wp2_with fail
  refine (name_any HP3.out.blk HT3.out hg hn2 hl2).mono ?_
  rintro e w3 (⟨t3, ht3, hp3, rfl, hb3, hG3⟩ | ⟨hno, rfl, hb3, hG3⟩)
  case inr =>
    go_wp2_with fail
    exact ⟨rfl, item_bad (L3.out.trans (frm_grown hG3 hg HP3.out.blk.lt)) hn2 (by unfold rdRul; rw [E1.out]; simp only [Rd.bind]; rw [E2.out]; simp only []; unfold word; rw [take_drop_no hno])⟩
  unfold tokAgg
  have E3 : Hid (word (l.drop (n + 1 + 1)) = .ok (l.drop (n + 1 + 1 + 1)) t3) := take_drop_yes ht3 hp3
  have L4 := Lib.hid (L3.out.trans (frm_grown hG3 hg HP3.out.blk.lt))
  have N3 := Lib.hid (N2.out.grown hG3 (fun e => hga1 (by cases e; rfl)))
  have HP4 := Lib.hid (HP3.out.step (m := n + 1 + 1 + 1) hG3 hb3)
  have hn3 := lt_of_at ht3
  clear hb3 hG3 ht3 hp3 L3 HP3 HT3 N2
  go_upto_region 3 with fail
  refine world_is (P := fun W => Code.wp _ _ _ _ W) (fun W3 hW3 => ?_)
  have hB3 : Below w3.heap.size w3 W3 := by rw [← hW3]; exact (Below.refl _ _).alloc (Nat.le_refl _) _
  have N4 := Lib.hid (N3.out.below hB3 N3.out.lt)
  have M4 : Hid (Blk W3 w3.heap.size 47 #[.int .i64 t3.kind, .string t3.text, .int .i64 t3.n, .int .i64 t3.pos]) := by unfold Hid; rw [← hW3]; exact Blk.new _ _ _
  have L5 := Lib.hid (L4.out.trans (frm_below hB3 (Nat.le_trans hBg.out L4.out.bel.size)))
  have HP5 := Lib.hid (HP4.out.below hB3)
  have HT5 := Lib.hid (HT.out.below L5.out.bel)
  obtain ⟨a3, ea3⟩ : ∃ a, w3.heap.size = a := ⟨_, rfl⟩
  rw [ea3] at M4 ⊢
  have hga3 : g ≠ a3 := by rw [← ea3]; exact Nat.ne_of_lt HP4.out.blk.lt
  clear hW3 hB3 HP4 L4 N3 ea3
  go_wp2_with fail
  refine (expect_any W3 g B (n + 1 + 1 + 1) ⟨#[59]⟩ tv nm vt vr vq vn ve l HP5.out.blk HT5.out hg hn3 hl2).mono ?_
  rintro e w4 (⟨t4, ht4, hp4, rfl, hb4, hG4⟩ | ⟨hno, rfl, hb4, hG4⟩)
  case inr =>
    go_wp2_with fail
    exact ⟨rfl, item_bad (L5.out.trans (frm_grown hG4 hg HP5.out.blk.lt)) hn3 (by unfold rdRul; rw [E1.out]; simp only [Rd.bind]; rw [E2.out]; simp only []; rw [E3.out]; simp only []; unfold expect; rw [take_drop_no (p := isText wSemi) hno])⟩
  have E4 : Hid (expect wSemi (l.drop (n + 1 + 1 + 1)) = .ok (l.drop (n + 1 + 1 + 1 + 1)) t4) := take_drop_yes ht4 hp4
  have L6 := Lib.hid (L5.out.trans (frm_grown hG4 hg HP5.out.blk.lt))
  have N5 := Lib.hid (N4.out.grown hG4 (fun e => hga1 (by cases e; rfl)))
  have M5 := Lib.hid (M4.out.grown hG4 (fun e => hga3 (by cases e; rfl)))
  have HP6 := Lib.hid (HP5.out.step (m := n + 1 + 1 + 1 + 1) hG4 hb4)
  have hn4 := lt_of_at ht4
  have hres : Hid ((rdRul k (l.drop n)).bind (fun r x => .ok r { st with ruls := st.ruls ++ [x] }) = .ok (l.drop (n + 1 + 1 + 1 + 1)) { st with ruls := st.ruls ++ [⟨k, t1, t3⟩] }) := by
    unfold Hid rdRul
    rw [E1.out]
    simp only [Rd.bind]
    rw [E2.out]
    simp only []
    rw [E3.out]
    simp only []
    rw [E4.out]
  clear hb4 hG4 ht4 hp4 L5 HP5 HT5 N4 M4 E1 E2 E3 E4 HP HT
  have p4 : w4.cell? ⟨g, 4, none⟩ = some vr := HP6.out.blk.cell 4
  go_upto_region 5 with (refine wp_gpush_list 24 53 (.agg #[.int .i64 0, .int .i64 0, .int .i64 0]) 3 24 Tryd.underlying24 (by kernel_rfl) rfl (by decide) (by decide) rfl _ _ rfl B vr st.ruls.length (rulsC st.ruls) rfl HP6.out.rr 1 1 #[.int .i64 k, .int .i64 0, .int .i64 0] rfl rfl (by intro u hu; simp only [List.mem_cons, List.not_mem_nil, or_false] at hu; rcases hu with rfl | rfl | rfl <;> rfl) hlen.out (Nat.le_trans hBg.out L6.out.bel.size) ?_; intro v5 w5 hP5; obtain ⟨A5, C5, rfl⟩ := own_slice hP5.row; have q4 := (HP6.out.blk.grown hP5.grown (Ne.symm (own_blk_ne HP6.out.rr HP6.out.blk (by decide)))).cell 4; have r4 := (HP6.out.blk.grown hP5.grown (Ne.symm (own_blk_ne HP6.out.rr HP6.out.blk (by decide)))).frozen 4)
  refine world_is (P := fun W => Code.wp _ _ _ _ W) (fun W5 hW5 => ?_)
  have B5 := HP6.out.blk.grown hP5.grown (Ne.symm (own_blk_ne HP6.out.rr HP6.out.blk (by decide)))
  have G5 := grown_ofSet w5 g 4 (.slice A5 (st.ruls.length + 1) C5)
  have L5 : Hid (Frm B g vt vr vq vn ve w W5) := by unfold Hid; rw [← hW5]; exact (frm_push hP5 (Nat.le_refl _) (Nat.le_trans hBg.out L6.out.bel.size) (fun _ h => h.2.1) L6.out).setG hg 4 _
  have P5 : Hid (Blk W5 g 61 #[tv, .int .i64 ((n + 1 + 1 + 1 + 1 : Nat) : Int), nm, vt, .slice A5 (st.ruls.length + 1) C5, vq, vn, ve]) := by unfold Hid; rw [← hW5]; exact B5.set_ 4 _
  have RT5 : Hid (W5.ownsRow B 51 3 vt st.typs.length (typsC st.typs)) := by unfold Hid; rw [← hW5]; exact (HP6.out.rt.kept hP5.grown (own_own_ne HP6.out.rt HP6.out.rr (by decide))).kept G5 (.inr (own_blk_ne (HP6.out.rt.kept hP5.grown (own_own_ne HP6.out.rt HP6.out.rr (by decide))) B5 (by decide)))
  have RR5 : Hid (W5.ownsRow B 53 3 (.slice A5 (st.ruls.length + 1) C5) (st.ruls.length + 1) (rulsC st.ruls ++ [.int .i64 k, .int .i64 0, .int .i64 0])) := by unfold Hid; rw [← hW5]; exact hP5.row.kept G5 (.inr (own_blk_ne hP5.row B5 (by decide)))
  have RQ5 : Hid (W5.ownsRow B 55 5 vq st.quos.length (quosC st.quos)) := by unfold Hid; rw [← hW5]; exact (HP6.out.rq.kept hP5.grown (own_own_ne HP6.out.rq HP6.out.rr (by decide))).kept G5 (.inr (own_blk_ne (HP6.out.rq.kept hP5.grown (own_own_ne HP6.out.rq HP6.out.rr (by decide))) B5 (by decide)))
  have RN5 : Hid (W5.ownsRow B 47 4 vn st.typs.length (namesC st.typs)) := by unfold Hid; rw [← hW5]; exact (HP6.out.rn.kept hP5.grown (own_own_ne HP6.out.rn HP6.out.rr (by decide))).kept G5 (.inr (own_blk_ne (HP6.out.rn.kept hP5.grown (own_own_ne HP6.out.rn HP6.out.rr (by decide))) B5 (by decide)))
  have RE5 : Hid (W5.ownsRow B 101 8 ve st.ruls.length (endsC st.ruls)) := by unfold Hid; rw [← hW5]; exact (HP6.out.re.kept hP5.grown (own_own_ne HP6.out.re HP6.out.rr (by decide))).kept G5 (.inr (own_blk_ne (HP6.out.re.kept hP5.grown (own_own_ne HP6.out.re HP6.out.rr (by decide))) B5 (by decide)))
  have N6 : Hid (Blk W5 a1 47 #[.int .i64 t1.kind, .string t1.text, .int .i64 t1.n, .int .i64 t1.pos]) := by unfold Hid; rw [← hW5]; exact (N5.out.grown hP5.grown (Ne.symm (own_blk_ne HP6.out.rr N5.out (by decide)))).other (a := ⟨g, 4, none⟩) (Ne.symm hga1) _
  have M6 : Hid (Blk W5 a3 47 #[.int .i64 t3.kind, .string t3.text, .int .i64 t3.n, .int .i64 t3.pos]) := by unfold Hid; rw [← hW5]; exact (M5.out.grown hP5.grown (Ne.symm (own_blk_ne HP6.out.rr M5.out (by decide)))).other (a := ⟨g, 4, none⟩) (Ne.symm hga3) _
  clear hW5 B5 G5 hP5 HP6 L6 N5 M5 p4 q4 r4
  refine Late.wp_region_late (S := fun w' => w'.cell? ⟨g, 7, none⟩ = some (ve) ∧ w'.cell? ⟨a1, 0, none⟩ = some (.int .i64 t1.kind) ∧ w'.cell? ⟨a1, 1, none⟩ = some (.string t1.text) ∧ w'.cell? ⟨a1, 2, none⟩ = some (.int .i64 t1.n) ∧ w'.cell? ⟨a1, 3, none⟩ = some (.int .i64 t1.pos) ∧ w'.cell? ⟨a3, 0, none⟩ = some (.int .i64 t3.kind) ∧ w'.cell? ⟨a3, 1, none⟩ = some (.string t3.text) ∧ w'.cell? ⟨a3, 2, none⟩ = some (.int .i64 t3.n) ∧ w'.cell? ⟨a3, 3, none⟩ = some (.int .i64 t3.pos)) [12] (by kernel_rfl) (⟨P5.out.cell 7, N6.out.cell 0, N6.out.cell 1, N6.out.cell 2, N6.out.cell 3, M6.out.cell 0, M6.out.cell 1, M6.out.cell 2, M6.out.cell 3⟩) (fun hHeld => ?_)
  refine' Late.wpAnyK_take (i := 0) (v := ?v0xp) rfl (by kernel_rfl) (by kernel_rfl) (by kernel_rfl) (by kernel_rfl) (by kernel_rfl) (fun _ _ _ h => h) (Or.inl ⟨by rfl, ?hy0xp⟩) hHeld ?rest0xp
  case hy0xp => intro w hSw; (try dsimp only at hSw); go_simp; all_goals with_reducible rfl
  try simp only [Act.put, List.setIfInBounds_toArray, List.set_cons_zero, List.set_cons_succ, List.getElem_toArray, List.getElem_cons_zero]
  refine' Late.wpAnyK_take (i := 1) (v := ?v1xp) rfl (by kernel_rfl) (by kernel_rfl) (by kernel_rfl) (by kernel_rfl) (by kernel_rfl) (fun _ _ _ h => h) (Or.inl ⟨by rfl, ?hy1xp⟩) hHeld ?rest1xp
  case hy1xp => intro w hSw; (try dsimp only at hSw); go_simp; all_goals with_reducible rfl
  try simp only [Act.put, List.setIfInBounds_toArray, List.set_cons_zero, List.set_cons_succ, List.getElem_toArray, List.getElem_cons_zero, List.getElem_cons_succ]
  refine' Late.wpAnyK_take (i := 2) (v := ?v2xp) rfl (by kernel_rfl) (by kernel_rfl) (by kernel_rfl) (by kernel_rfl) (by kernel_rfl) (fun _ _ _ h => h) (Or.inl ⟨by rfl, ?hy2xp⟩) hHeld ?rest2xp
  case hy2xp => intro w hSw; (try dsimp only at hSw); go_simp; all_goals with_reducible rfl
  try simp only [Act.put, List.setIfInBounds_toArray, List.set_cons_zero, List.set_cons_succ, List.getElem_toArray, List.getElem_cons_zero, List.getElem_cons_succ]
  refine' Late.wpAnyK_take (i := 3) (v := ?v3xp) rfl (by kernel_rfl) (by kernel_rfl) (by kernel_rfl) (by kernel_rfl) (by kernel_rfl) (fun _ _ _ h => h) (Or.inl ⟨by rfl, ?hy3xp⟩) hHeld ?rest3xp
  case hy3xp => intro w hSw; (try dsimp only at hSw); go_simp; all_goals with_reducible rfl
  try simp only [Act.put, List.setIfInBounds_toArray, List.set_cons_zero, List.set_cons_succ, List.getElem_toArray, List.getElem_cons_zero, List.getElem_cons_succ]
  refine' Late.wpAnyK_take (i := 4) (v := ?v4xp) rfl (by kernel_rfl) (by kernel_rfl) (by kernel_rfl) (by kernel_rfl) (by kernel_rfl) (fun _ _ _ h => h) (Or.inl ⟨by rfl, ?hy4xp⟩) hHeld ?rest4xp
  case hy4xp => intro w hSw; (try dsimp only at hSw); go_simp; all_goals with_reducible rfl
  try simp only [Act.put, List.setIfInBounds_toArray, List.set_cons_zero, List.set_cons_succ, List.getElem_toArray, List.getElem_cons_zero, List.getElem_cons_succ]
  refine' Late.wpAnyK_take (i := 5) (v := ?v5xp) rfl (by kernel_rfl) (by kernel_rfl) (by kernel_rfl) (by kernel_rfl) (by kernel_rfl) (fun _ _ _ h => h) (Or.inl ⟨by rfl, ?hy5xp⟩) hHeld ?rest5xp
  case hy5xp => intro w hSw; (try dsimp only at hSw); go_simp; all_goals with_reducible rfl
  try simp only [Act.put, List.setIfInBounds_toArray, List.set_cons_zero, List.set_cons_succ, List.getElem_toArray, List.getElem_cons_zero, List.getElem_cons_succ]
  refine' Late.wpAnyK_take (i := 6) (v := ?v6xp) rfl (by kernel_rfl) (by kernel_rfl) (by kernel_rfl) (by kernel_rfl) (by kernel_rfl) (fun _ _ _ h => h) (Or.inl ⟨by rfl, ?hy6xp⟩) hHeld ?rest6xp
  case hy6xp => intro w hSw; (try dsimp only at hSw); go_simp; all_goals with_reducible rfl
  try simp only [Act.put, List.setIfInBounds_toArray, List.set_cons_zero, List.set_cons_succ, List.getElem_toArray, List.getElem_cons_zero, List.getElem_cons_succ]
  refine' Late.wpAnyK_take (i := 7) (v := ?v7xp) rfl (by kernel_rfl) (by kernel_rfl) (by kernel_rfl) (by kernel_rfl) (by kernel_rfl) (fun _ _ _ h => h) (Or.inl ⟨by rfl, ?hy7xp⟩) hHeld ?rest7xp
  case hy7xp => intro w hSw; (try dsimp only at hSw); go_simp; all_goals with_reducible rfl
  try simp only [Act.put, List.setIfInBounds_toArray, List.set_cons_zero, List.set_cons_succ, List.getElem_toArray, List.getElem_cons_zero, List.getElem_cons_succ]
  refine Late.wpAnyK_ready (rs := [8]) (by kernel_rfl) (by simp) ?_
  refine Late.AllReadyK.cons rfl (fun KQ hKQ => ?_) Late.AllReadyK.nil
  go_simp
  refine world_is (P := fun W => KQ _ W) (fun x1 hw9 => ?_)
  have Rx1_e : Hid (World.ownsRow x1 B 101 8 ve (st.ruls.length) (endsC st.ruls)) := by unfold Hid; rw [← hw9]; exact World.ownsRow.alloc RE5.out _
  have Rx1_t : Hid (World.ownsRow x1 B 51 3 vt (st.typs.length) (typsC st.typs)) := by unfold Hid; rw [← hw9]; exact World.ownsRow.alloc RT5.out _
  have Rx1_r : Hid (World.ownsRow x1 B 53 3 (.slice A5 (st.ruls.length + 1) C5) (st.ruls.length + 1) (rulsC st.ruls ++ [.int .i64 k, .int .i64 0, .int .i64 0])) := by unfold Hid; rw [← hw9]; exact World.ownsRow.alloc RR5.out _
  have Rx1_q : Hid (World.ownsRow x1 B 55 5 vq (st.quos.length) (quosC st.quos)) := by unfold Hid; rw [← hw9]; exact World.ownsRow.alloc RQ5.out _
  have Rx1_n : Hid (World.ownsRow x1 B 47 4 vn (st.typs.length) (namesC st.typs)) := by unfold Hid; rw [← hw9]; exact World.ownsRow.alloc RN5.out _
  have Px1_n : Hid (Blk x1 a1 47 #[.int .i64 t1.kind, .string t1.text, .int .i64 t1.n, .int .i64 t1.pos]) := by unfold Hid; rw [← hw9]; exact N6.out.alloc _
  have Px1_m : Hid (Blk x1 a3 47 #[.int .i64 t3.kind, .string t3.text, .int .i64 t3.n, .int .i64 t3.pos]) := by unfold Hid; rw [← hw9]; exact M6.out.alloc _
  have Px1_p : Hid (Blk x1 g 61 #[tv, .int .i64 ((n + 1 + 1 + 1 + 1 : Nat) : Int), nm, vt, .slice A5 (st.ruls.length + 1) C5, vq, vn, ve]) := by unfold Hid; rw [← hw9]; exact P5.out.alloc _
  have Fx1_e : Hid (Blk x1 W5.heap.size 101 #[.int .i64 t1.kind, .string t1.text, .int .i64 t1.n, .int .i64 t1.pos, .int .i64 t3.kind, .string t3.text, .int .i64 t3.n, .int .i64 t3.pos]) := by unfold Hid; rw [← hw9]; exact Blk.new _ _ _
  have Lx1_b : Hid (Frm B g vt vr vq vn ve w x1) := by unfold Hid; rw [← hw9]; first | exact L5.out.alloc (Nat.le_trans hBg.out L5.out.bel.size) _ | exact Frm.drew (L5.out.alloc (Nat.le_trans hBg.out L5.out.bel.size) _)
  clear hw9
  refine hKQ.out _ _ (⟨Px1_p.out.cell 7, Px1_n.out.cell 0, Px1_n.out.cell 1, Px1_n.out.cell 2, Px1_n.out.cell 3, Px1_m.out.cell 0, Px1_m.out.cell 1, Px1_m.out.cell 2, Px1_m.out.cell 3⟩) (fun hHeld2 => ?_)
  clear hKQ KQ hHeld
  have hHeld := hHeld2
  clear hHeld2
  try simp only [Act.put, List.setIfInBounds_toArray, List.set_cons_zero, List.set_cons_succ, List.getElem_toArray, List.getElem_cons_zero, List.getElem_cons_succ]
  refine Late.wpAnyK_ready (rs := [9]) (by kernel_rfl) (by simp) ?_
  refine Late.AllReadyK.cons rfl (fun KQ hKQ => ?_) Late.AllReadyK.nil
  refine wp_gcat_op 59 101 zEnd2 8 80 Tryd.underlying59 (by kernel_rfl) rfl (by decide) (by decide) _ _ rfl B ve (st.ruls.length) (endsC st.ruls) rfl Rx1_e.out (W5.heap.size) 1 1 [.int .i64 t1.kind, .string t1.text, .int .i64 t1.n, .int .i64 t1.pos, .int .i64 t3.kind, .string t3.text, .int .i64 t3.n, .int .i64 t3.pos] rfl rfl Fx1_e.out (by intro u hu; simp only [List.mem_cons, List.not_mem_nil, or_false] at hu; rcases hu with rfl | rfl | rfl | rfl | rfl | rfl | rfl | rfl <;> rfl) hlen.out (Nat.le_trans hBg.out Lx1_b.out.bel.size) ?_
  intro vx2 x2 hP9
  obtain ⟨Ax2, Cx2, rfl⟩ := own_slice hP9.row
  have Rx2_e : Hid (World.ownsRow x2 B 101 8 (.slice Ax2 (st.ruls.length + 1) Cx2) (st.ruls.length + 1) (endsC st.ruls ++ [.int .i64 t1.kind, .string t1.text, .int .i64 t1.n, .int .i64 t1.pos, .int .i64 t3.kind, .string t3.text, .int .i64 t3.n, .int .i64 t3.pos])) := by unfold Hid; exact hP9.row
  have Rx2_t : Hid (World.ownsRow x2 B 51 3 vt (st.typs.length) (typsC st.typs)) := by unfold Hid; exact World.ownsRow.kept Rx1_t.out hP9.grown (own_own_ne Rx1_t.out Rx1_e.out (by decide))
  have Rx2_r : Hid (World.ownsRow x2 B 53 3 (.slice A5 (st.ruls.length + 1) C5) (st.ruls.length + 1) (rulsC st.ruls ++ [.int .i64 k, .int .i64 0, .int .i64 0])) := by unfold Hid; exact World.ownsRow.kept Rx1_r.out hP9.grown (own_own_ne Rx1_r.out Rx1_e.out (by decide))
  have Rx2_q : Hid (World.ownsRow x2 B 55 5 vq (st.quos.length) (quosC st.quos)) := by unfold Hid; exact World.ownsRow.kept Rx1_q.out hP9.grown (own_own_ne Rx1_q.out Rx1_e.out (by decide))
  have Rx2_n : Hid (World.ownsRow x2 B 47 4 vn (st.typs.length) (namesC st.typs)) := by unfold Hid; exact World.ownsRow.kept Rx1_n.out hP9.grown (own_own_ne Rx1_n.out Rx1_e.out (by decide))
  have Px2_n : Hid (Blk x2 a1 47 #[.int .i64 t1.kind, .string t1.text, .int .i64 t1.n, .int .i64 t1.pos]) := by unfold Hid; exact Px1_n.out.grown hP9.grown (Ne.symm (own_blk_ne Rx1_e.out Px1_n.out (by decide)))
  have Px2_m : Hid (Blk x2 a3 47 #[.int .i64 t3.kind, .string t3.text, .int .i64 t3.n, .int .i64 t3.pos]) := by unfold Hid; exact Px1_m.out.grown hP9.grown (Ne.symm (own_blk_ne Rx1_e.out Px1_m.out (by decide)))
  have Px2_p : Hid (Blk x2 g 61 #[tv, .int .i64 ((n + 1 + 1 + 1 + 1 : Nat) : Int), nm, vt, .slice A5 (st.ruls.length + 1) C5, vq, vn, ve]) := by unfold Hid; exact Px1_p.out.grown hP9.grown (Ne.symm (own_blk_ne Rx1_e.out Px1_p.out (by decide)))
  have Lx2_b : Hid (Frm B g vt vr vq vn ve w x2) := by unfold Hid; exact frm_push hP9 (Nat.le_refl _) (Nat.le_trans hBg.out Lx1_b.out.bel.size) (fun _ h => h.2.2.2.2) Lx1_b.out
  clear hP9
  refine hKQ.out _ _ (⟨Px2_p.out.cell 7, Px2_n.out.cell 0, Px2_n.out.cell 1, Px2_n.out.cell 2, Px2_n.out.cell 3, Px2_m.out.cell 0, Px2_m.out.cell 1, Px2_m.out.cell 2, Px2_m.out.cell 3⟩) (fun hHeld2 => ?_)
  clear hKQ KQ hHeld
  have hHeld := hHeld2
  clear hHeld2
  try simp only [Act.put, List.setIfInBounds_toArray, List.set_cons_zero, List.set_cons_succ, List.getElem_toArray, List.getElem_cons_zero, List.getElem_cons_succ]
  refine' Late.wpAnyK_take (i := 10) (v := ?v10x3) rfl (by kernel_rfl) (by kernel_rfl) (by kernel_rfl) (by kernel_rfl) (by kernel_rfl) (fun _ _ _ h => h) (Or.inl ⟨by rfl, ?hy10x3⟩) hHeld ?rest10x3
  case hy10x3 => intro w hSw; (try dsimp only at hSw); go_simp; all_goals with_reducible rfl
  try simp only [Act.put, List.setIfInBounds_toArray, List.set_cons_zero, List.set_cons_succ, List.getElem_toArray, List.getElem_cons_zero, List.getElem_cons_succ]
  refine' Late.wpAnyK_take (i := 11) (v := ?v11x4) rfl (by kernel_rfl) (by kernel_rfl) (by kernel_rfl) (by kernel_rfl) (by kernel_rfl) (fun _ _ _ h => h) (Or.inl ⟨by rfl, ?hy11x4⟩) hHeld ?rest11x4
  case hy11x4 => intro w hSw; (try dsimp only at hSw); go_simp; all_goals with_reducible rfl
  try simp only [Act.put, List.setIfInBounds_toArray, List.set_cons_zero, List.set_cons_succ, List.getElem_toArray, List.getElem_cons_zero, List.getElem_cons_succ]
  refine Late.wpAnyK_ready (rs := [12]) (by kernel_rfl) (by simp) ?_
  refine Late.AllReadyK.late rfl (by kernel_rfl) (fun KQ hKQ => ?_)
  have c9 : x2.cell? ⟨g, 7, none⟩ = some (ve) := Px2_p.out.cell 7
  have f9 := Px2_p.out.frozen 7
  go_simp
  clear c9 f9
  refine world_is (P := fun W => KQ _ W) (fun x5 hw9 => ?_)
  have Rx5_e : Hid (World.ownsRow x5 B 101 8 (.slice Ax2 (st.ruls.length + 1) Cx2) (st.ruls.length + 1) (endsC st.ruls ++ [.int .i64 t1.kind, .string t1.text, .int .i64 t1.n, .int .i64 t1.pos, .int .i64 t3.kind, .string t3.text, .int .i64 t3.n, .int .i64 t3.pos])) := by unfold Hid; rw [← hw9]; exact World.ownsRow.kept Rx2_e.out (grown_ofSet _ _ _ _) (.inr (own_blk_ne Rx2_e.out Px2_p.out (by decide)))
  have Rx5_t : Hid (World.ownsRow x5 B 51 3 vt (st.typs.length) (typsC st.typs)) := by unfold Hid; rw [← hw9]; exact World.ownsRow.kept Rx2_t.out (grown_ofSet _ _ _ _) (.inr (own_blk_ne Rx2_t.out Px2_p.out (by decide)))
  have Rx5_r : Hid (World.ownsRow x5 B 53 3 (.slice A5 (st.ruls.length + 1) C5) (st.ruls.length + 1) (rulsC st.ruls ++ [.int .i64 k, .int .i64 0, .int .i64 0])) := by unfold Hid; rw [← hw9]; exact World.ownsRow.kept Rx2_r.out (grown_ofSet _ _ _ _) (.inr (own_blk_ne Rx2_r.out Px2_p.out (by decide)))
  have Rx5_q : Hid (World.ownsRow x5 B 55 5 vq (st.quos.length) (quosC st.quos)) := by unfold Hid; rw [← hw9]; exact World.ownsRow.kept Rx2_q.out (grown_ofSet _ _ _ _) (.inr (own_blk_ne Rx2_q.out Px2_p.out (by decide)))
  have Rx5_n : Hid (World.ownsRow x5 B 47 4 vn (st.typs.length) (namesC st.typs)) := by unfold Hid; rw [← hw9]; exact World.ownsRow.kept Rx2_n.out (grown_ofSet _ _ _ _) (.inr (own_blk_ne Rx2_n.out Px2_p.out (by decide)))
  have Px5_n : Hid (Blk x5 a1 47 #[.int .i64 t1.kind, .string t1.text, .int .i64 t1.n, .int .i64 t1.pos]) := by unfold Hid; rw [← hw9]; exact Px2_n.out.other (a := ⟨g, 7, none⟩) (Ne.symm hga1) _
  have Px5_m : Hid (Blk x5 a3 47 #[.int .i64 t3.kind, .string t3.text, .int .i64 t3.n, .int .i64 t3.pos]) := by unfold Hid; rw [← hw9]; exact Px2_m.out.other (a := ⟨g, 7, none⟩) (Ne.symm hga3) _
  have Px5_p : Hid (Blk x5 g 61 #[tv, .int .i64 ((n + 1 + 1 + 1 + 1 : Nat) : Int), nm, vt, .slice A5 (st.ruls.length + 1) C5, vq, vn, (.slice Ax2 (st.ruls.length + 1) Cx2)]) := by unfold Hid; rw [← hw9]; exact Px2_p.out.set_ 7 _
  have Lx5_b : Hid (Frm B g vt vr vq vn ve w x5) := by unfold Hid; rw [← hw9]; exact Lx2_b.out.setG hg 7 _
  clear hw9
  refine hKQ.out _ _ ?_
  clear hKQ KQ
  try simp only [Act.put, List.setIfInBounds_toArray, List.set_cons_zero, List.set_cons_succ, List.getElem_toArray, List.getElem_cons_zero, List.getElem_cons_succ]
  refine Late.wpAnyK_done (by kernel_rfl) ?_ _
  go_wp2_with fail
  go_end0
  refine item_ok _ hres.out ?_
  refine ⟨Lx5_b.out, (by simp),  n + 1 + 1 + 1 + 1, vt, _, vq, vn, _, hn4, rfl, ⟨Px5_p.out, Rx5_t.out, ?_, Rx5_q.out, Rx5_n.out, ?_⟩⟩
  · exact own_cast Rx5_r.out (by simp) (by rw [rulsC_snoc])
  · exact own_cast Rx5_e.out (by simp) (by rw [endsC_snoc]; rfl)
end Go.Proofs.YtemhiiignamkjaaDoor
