/-
  Layer 12 (parse): names are resolved.
-/
import Derived.Test.YtemhiiignamkjaaDoorParW4
import Derived.Test.YtemhiiignamkjaaDoorParM
import Derived.Test.YtemhiiignamkjaaDoorParP3
import Derived.Deep.RegionHeld3
namespace Go.Proofs.YtemhiiignamkjaaDoor
open Go.RowKit LexP ParP
attribute [local go_sem] Oper.semAt_some

theorem toksCells_get : ∀ (l : List Tok) (i : Nat) (T : Tok), l[i]? = some T → (toksCells l)[i * 4]? = some (.int .i64 T.kind) ∧ (toksCells l)[i * 4 + 1]? = some (.string T.text) ∧ (toksCells l)[i * 4 + 2]? = some (.int .i64 T.n) ∧ (toksCells l)[i * 4 + 3]? = some (.int .i64 T.pos)
  | [], i, T, h => by cases h
  | t :: r, 0, T, h => by
    cases h
    exact ⟨rfl, rfl, rfl, rfl⟩
  | t :: r, i + 1, T, h => by
    have ih := toksCells_get r i T (by simpa using h)
    have e : ∀ j, (toksCells (t :: r))[(i + 1) * 4 + j]? = (toksCells r)[i * 4 + j]? := fun j => by
      show (tokCells t ++ toksCells r)[(i + 1) * 4 + j]? = _
      rw [List.getElem?_append_right (by simp [tokCells]; omega)]
      congr 1
      simp [tokCells]
      omega
    exact ⟨(e 0).trans ih.1, (e 1).trans ih.2.1, (e 2).trans ih.2.2.1, (e 3).trans ih.2.2.2⟩
theorem namesC_eq (l : List PTyp) : namesC l = toksCells (l.map PTyp.name) := by
  unfold namesC toksCells
  rw [List.flatMap_map]
def intV (n : Nat) : Value := .int .i64 (n : Int)
theorem rulsC_zero (ts : List PTyp) : ∀ rs : List PRul, rulsC rs = (rulsH ts rs 0).map intV
  | [] => rfl
  | r :: rs => by
    show [_, _, _] ++ rulsC rs = _
    rw [rulsC_zero ts rs, rulsH, List.map_append]
    rfl
theorem endsC_get : ∀ (l : List PRul) (i : Nat) (r : PRul), l[i]? = some r → ∀ j, j < 8 → (endsC l)[i * 8 + j]? = (tokCells r.a ++ tokCells r.b)[j]?
  | [], i, T, h => by cases h
  | t :: r, 0, T, h => by
    cases h
    intro j hj
    show ((tokCells t.a ++ tokCells t.b) ++ endsC r)[0 * 8 + j]? = _
    rw [List.getElem?_append_left (by simp [tokCells]; omega)]
    congr 1
    omega
  | t :: r, i + 1, T, h => by
    intro j hj
    have ih := endsC_get r i T (by simpa using h) j hj
    rw [← ih]
    show ((tokCells t.a ++ tokCells t.b) ++ endsC r)[(i + 1) * 8 + j]? = _
    rw [List.getElem?_append_right (by simp [tokCells]; omega)]
    congr 1
    simp [tokCells]
    omega
theorem own_none {w : World} {B : Nat} {e : TypeId} {k n : Nat} {A : Option Addr} {c : Nat} {xs : List Value} (h : w.ownsRow B e k (.slice A n c) n xs) (hn : 0 < n) : ∃ g, A = some ⟨g, 0, none⟩ ∧ B ≤ g := by
  obtain ⟨g, c2, cur, hv, hB, _⟩ := own_form h hn
  cases hv
  exact ⟨g, rfl, hB⟩
/-- What resolve leaves: the names that are wrong, and the rules with their types. -/
def ResPost (w : World) (B g n : Nat) (tv nm vt vr vq vn ve : Value) (st : St) (e : Ending) (w' : World) : Prop :=
  ∃ v, e = .returned v ∧ w'.ownsRow w.heap.size 47 4 v (wrongs st).length (toksCells (wrongs st)) ∧ Below B w w' ∧ Blk w' g 61 #[tv, .int .i64 n, nm, vt, vr, vq, vn, ve] ∧
    w'.ownsRow B 51 3 vt st.typs.length (typsC st.typs) ∧ w'.ownsRow B 53 3 vr st.ruls.length ((rulsH st.typs st.ruls (2 * st.ruls.length)).map intV) ∧ w'.ownsRow B 55 5 vq st.quos.length (quosC st.quos)

/-- The parser behind h half steps. -/
structure Res (w wr : World) (B g mb N : Nat) (st : St) (tv nm vt : Value) (Ar : Option Addr) (cr : Nat) (vq : Value) (An : Option Addr) (cn : Nat) (Ae : Option Addr) (ce n h : Nat) : Prop where
  bel : Below B w wr
  map : IdxMap wr mb N (nameAt st.typs)
  blk : Blk wr g 61 #[tv, .int .i64 n, nm, vt, .slice Ar st.ruls.length cr, vq, .slice An st.typs.length cn, .slice Ae st.ruls.length ce]
  rt : wr.ownsRow B 51 3 vt st.typs.length (typsC st.typs)
  rr : wr.ownsRow B 53 3 (.slice Ar st.ruls.length cr) st.ruls.length ((rulsH st.typs st.ruls h).map intV)
  rq : wr.ownsRow B 55 5 vq st.quos.length (quosC st.quos)
  re : wr.ownsRow B 101 8 (.slice Ae st.ruls.length ce) st.ruls.length (endsC st.ruls)
section
variable {w wr w' : World} {B g mb N : Nat} {st : St} {tv nm vt : Value} {Ar : Option Addr} {cr : Nat} {vq : Value} {An : Option Addr} {cn : Nat} {Ae : Option Addr} {ce n h : Nat}
theorem Res.below (k : Res w wr B g mb N st tv nm vt Ar cr vq An cn Ae ce n h) (hB : Below wr.heap.size wr w') (hb : B ≤ wr.heap.size) : Res w w' B g mb N st tv nm vt Ar cr vq An cn Ae ce n h :=
  ⟨k.bel.trans (hB.mono hb), k.map.below hB, k.blk.below hB k.blk.lt, ownsRow_below k.rt hB (Nat.le_refl _), ownsRow_below k.rr hB (Nat.le_refl _), ownsRow_below k.rq hB (Nat.le_refl _), ownsRow_below k.re hB (Nat.le_refl _)⟩
theorem Res.pushed (k : Res w wr B g mb N st tv nm vt Ar cr vq An cn Ae ce n h) {base cnt cnt' : Nat} {v v' : Value} {xs xs' : List Value} (hr : wr.ownsRow base 47 4 v cnt xs) (hP : HPushed wr w' base 47 4 v v' cnt' xs') (hB : B ≤ base) (hb : base ≤ wr.heap.size) : Res w w' B g mb N st tv nm vt Ar cr vq An cn Ae ce n h :=
  ⟨hP.bel _ _ hB hb k.bel, k.map.kept hP.grown (k.map.own_ne hr), k.blk.grown hP.grown (Ne.symm (own_blk_ne hr k.blk (by decide))), k.rt.kept hP.grown (own_own_ne k.rt hr (by decide)), k.rr.kept hP.grown (own_own_ne k.rr hr (by decide)),
    k.rq.kept hP.grown (own_own_ne k.rq hr (by decide)), k.re.kept hP.grown (own_own_ne k.re hr (by decide))⟩
theorem ownsRow_setCell_ne {W : World} {base g cnt k : Nat} {e : TypeId} {v : Value} {xs : List Value} (h : W.ownsRow base e k v cnt xs) (hg : g < base) (i : Nat) (u : Value) : (W.setCell ⟨g, i, none⟩ u).ownsRow base e k v cnt xs := ownsRow_setCell_below h (a := ⟨g, i, none⟩) hg u
theorem Res.put {gr i j : Nat} {r : PRul} (k : Res w wr B g mb N st tv nm vt (some ⟨gr, 0, none⟩) cr vq An cn Ae ce n h) (hr : st.ruls[i]? = some r) (hj : j < 2) (hh : h = 2 * i + j) :
    Res w (wr.setCell ⟨gr, i * 3 + 1 + j, none⟩ (.int .i64 (idxOr st.typs (side r j).text : Int))) B g mb N st tv nm vt (some ⟨gr, 0, none⟩) cr vq An cn Ae ce n (h + 1) := by
  have hil := (List.getElem?_eq_some_iff.1 hr).1
  obtain ⟨g', c', cur, hv, hBg, hbk, _⟩ := own_form k.rr (Nat.lt_of_le_of_lt (Nat.zero_le _) hil)
  cases hv
  have G := grown_ofSet wr gr (i * 3 + 1 + j) (.int .i64 (idxOr st.typs (side r j).text : Int))
  refine ⟨k.bel.setCell (p := ⟨gr, i * 3 + 1 + j, none⟩) hBg _, k.map.kept G (fun e => k.map.ne hbk (by cases e; rfl)), k.blk.other (a := ⟨gr, i * 3 + 1 + j, none⟩) (k.blk.ne_ hbk (by decide)) _, k.rt.kept G (.inr (own_blk_ne k.rt hbk (by decide))), ?_, k.rq.kept G (.inr (own_blk_ne k.rq hbk (by decide))), k.re.kept G (.inr (own_blk_ne k.re hbk (by decide)))⟩
  refine own_cast (own_set k.rr (j := i * 3 + 1 + j) (by omega) _) rfl ?_
  rw [← rulsH_set st.typs i st.ruls r j h hr hj hh, List.map_set]
  rfl
end
set_option maxRecDepth 100000 in
set_option maxHeartbeats 12800000 in
theorem resolve_any {w : World} {B g n : Nat} {tv nm vt vr vq vn ve : Value} {st : St} (hP : PIs w B g n tv nm vt vr vq vn ve st) (hg : B ≤ g) (hT : st.typs.length ≤ 4000) (hR : st.ruls.length ≤ 4000)
    (hS : ∀ t ∈ st.typs, t.name.text.size ≤ 4000) (hS2 : ∀ r ∈ st.ruls, r.a.text.size ≤ 4000 ∧ r.b.text.size ≤ 4000) :
    Calls Tryd.prog 23 #[.pointer (some ⟨g, 0, none⟩)] w (ResPost w B g n tv nm vt vr vq vn ve st) := by
  have hgl := hP.blk.lt
  have hBg : Hid (B ≤ w.heap.size) := Nat.le_trans hg (Nat.le_of_lt hgl)
  have HP := Lib.hid hP
  obtain ⟨An, cn, rfl⟩ := own_slice hP.rn
  obtain ⟨Ae, ce, rfl⟩ := own_slice hP.re
  obtain ⟨Ar, cr, rfl⟩ := own_slice hP.rr
  have e6 : w.cell? ⟨g, 6, none⟩ = some (.slice An st.typs.length cn) := hP.blk.cell 6
  obtain ⟨T, hTe⟩ : ∃ T, st.typs.length = T := ⟨_, rfl⟩
  obtain ⟨R, hRe⟩ : ∃ R, st.ruls.length = R := ⟨_, rfl⟩
  have hTH := Lib.hid hTe
  have hRH := Lib.hid hRe
  have HS := Lib.hid hS
  have HS2 := Lib.hid hS2
  rw [hTe] at e6 hT
  rw [hRe] at hR
  have hTb := Lib.hid hT
  have hRb := Lib.hid hR
  have hmm := @run_makeMap Tryd.prog
  clear hP hTe hRe hS hS2
  go_enter Tryd.func23, Tryd.ntmps23
  go_upto_region 2 with fail
  refine world_is (P := fun W => Code.wp _ _ _ _ W) (fun W0 hW0 => ?_)
  have hB0 : Below w.heap.size w W0 := by rw [← hW0]; exact (Below.refl _ _).alloc (Nat.le_refl _) _
  have M0 : Hid (IdxMap W0 w.heap.size 0 (fun _ => none)) := by unfold Hid; rw [← hW0]; exact idxMap_new _
  have L0 := Lib.hid hB0
  have e6' := (hB0.cell (p := ⟨g, 6, none⟩) hgl).trans e6
  obtain ⟨mb, hmb⟩ : ∃ a, w.heap.size = a := ⟨_, rfl⟩
  have hmbH : Hid (w.heap.size ≤ mb) := Nat.le_of_eq hmb
  rw [show (IdxMap W0 w.heap.size 0 (fun _ => none)) = (IdxMap W0 mb 0 (fun _ => none)) by rw [hmb]] at M0
  rw [show (Value.map (some w.heap.size)) = Value.map (some mb) by rw [hmb]]
  clear hW0 hB0 e6 hmb
  clear hmm
  go_wp2_with fail
  go_loopw [2, 20] (fun v2 v20 wr => ∃ (k : Nat) (out : List Tok), v20 = .int .i64 k ∧ k ≤ T ∧ Hid (out = twice [] (st.typs.take k)) ∧ out.length ≤ k ∧ Hid (wr.ownsRow w.heap.size 47 4 v2 out.length (toksCells out)) ∧ Hid (IdxMap wr mb k (nameAt (st.typs.take k))) ∧ Hid (Below w.heap.size w wr)) (fun _ v20 _ => T - (intOf v20).toNat)
  case atStart => exact ⟨0, [], rfl, Nat.zero_le _, rfl, Nat.le_refl _, World.ownsRow_nil _ _ _ _, M0.out, L0.out⟩
  case round =>
    clear M0 L0 e6'
    obtain ⟨k, out, rfl, hk, hout, hol, OUT, MAP, LR⟩ := hrel
    by_cases hlt : k < T
    · have d1 : decide (k < T) = true := decide_eq_true hlt
      have d2 : decide ((k : Int) < (T : Int)) = true := decide_eq_true (by omega)
      obtain ⟨t, ht⟩ : ∃ t, st.typs[k]? = some t := ⟨_, List.getElem?_eq_getElem (by rw [hTH.out]; exact hlt)⟩
      have hrn := HP.out.rn
      rw [hTH.out] at hrn
      obtain ⟨gn, rfl, hgn⟩ := own_none hrn (Nat.lt_of_le_of_lt (Nat.zero_le _) hlt)
      have hgnl := (hrn.lt gn rfl).2
      obtain ⟨y0, y1, y2, y3⟩ := toksCells_get (st.typs.map PTyp.name) k t.name (by rw [List.getElem?_map, ht]; rfl)
      rw [← namesC_eq] at y0 y1 y2 y3
      have cel : ∀ (j : Nat) (u : Value), (namesC st.typs)[j]? = some u → wr.cell? ⟨gn, j, none⟩ = some u := fun j u hj => by
        have h1 := hrn.cells (g := gn) rfl j u hj
        rw [Addr.add_lit, Nat.zero_add] at h1
        exact (LR.out.cell (p := ⟨gn, j, none⟩) hgnl).trans h1
      have c0 := cel _ _ y0
      have c1 := cel _ _ y1
      have c2 := cel _ _ y2
      have c3 := cel _ _ y3
      have hsz : Hid (t.name.text.size ≤ maxLen) := Nat.le_trans (HS.out t (List.mem_of_getElem? ht)) (by unfold maxLen; decide)
      have q0 : (0 : Int) ≤ (k : Int) := by omega
      have htk := Lib.hid (take_snoc ht)
      have hltH := Lib.hid hlt
      have q1 : (k : Int) < (T : Int) := by omega
      have q2 : (T : Int) ≤ 4000 := by have := hTb.out; omega
      clear hrn y0 y1 y2 y3 cel ht hlt
      go_upto_region 5 with fail
      refine world_is (P := fun W => Code.wp _ _ _ _ W) (fun W1 hW1 => ?_)
      have hB1 : Below wr.heap.size wr W1 := by rw [← hW1]; exact (Below.refl _ _).alloc (Nat.le_refl _) _
      have TB1 : Hid (Blk W1 wr.heap.size 47 #[.int .i64 t.name.kind, .string t.name.text, .int .i64 t.name.n, .int .i64 t.name.pos]) := by unfold Hid; rw [← hW1]; exact Blk.new _ _ _
      have LR1 := Lib.hid (LR.out.trans (hB1.mono LR.out.size))
      have OUT1 := Lib.hid (ownsRow_below OUT.out hB1 (Nat.le_refl _))
      have MAP1 := Lib.hid (MAP.out.below hB1)
      obtain ⟨a, ea⟩ : ∃ x, wr.heap.size = x := ⟨_, rfl⟩
      rw [ea] at TB1 ⊢
      have hwa : w.heap.size ≤ a := by rw [← ea]; exact LR.out.size
      clear hW1 hB1 LR OUT MAP c0 c1 c2 c3 ea
      have hlook := MAP1.out.look hsz.out
      have b0 : W1.cell? ⟨a, 0, none⟩ = some (.int .i64 t.name.kind) := TB1.out.cell 0
      have b1 : W1.cell? ⟨a, 1, none⟩ = some (.string t.name.text) := TB1.out.cell 1
      have b2 : W1.cell? ⟨a, 2, none⟩ = some (.int .i64 t.name.n) := TB1.out.cell 2
      have b3 : W1.cell? ⟨a, 3, none⟩ = some (.int .i64 t.name.pos) := TB1.out.cell 3
      go_upto_if 32 with fail
      clear hlook
      cases hs : (nameAt (st.typs.take k) t.name.text).isSome
      case true =>
        obtain ⟨A2, C2, e2⟩ := own_slice OUT1.out
        subst e2
        have hout2 : Hid (out ++ [t.name] = twice [] (st.typs.take (k + 1))) := by
          unfold Hid
          rw [htk.out, twice_snoc, List.nil_append, ← hout.out, if_pos hs]
        have hmap2 : Hid (nameAt (st.typs.take (k + 1)) = nameAt (st.typs.take k)) := by
          unfold Hid
          rw [htk.out, nameAt_snoc_old hs]
        clear hs
        go_upto_region 9 with (refine wp_gpush_list 42 47 (.agg #[.int .i64 0, .string ⟨#[]⟩, .int .i64 0, .int .i64 0]) 4 40 Tryd.underlying42 (by kernel_rfl) rfl (by decide) (by decide) rfl _ _ rfl w.heap.size _ out.length (toksCells out) rfl OUT1.out 1 1 #[.int .i64 t.name.kind, .string t.name.text, .int .i64 t.name.n, .int .i64 t.name.pos] rfl rfl (by intro u hu; simp only [List.mem_cons, List.not_mem_nil, or_false] at hu; rcases hu with rfl | rfl | rfl | rfl <;> rfl) (by have := hTb.out; have := hltH.out; omega) LR1.out.size ?_; intro v8 w8 hP8; obtain ⟨A8, C8, rfl⟩ := own_slice hP8.row)
        have OUT2 : Hid (w8.ownsRow w.heap.size 47 4 (.slice A8 (out.length + 1) C8) (out ++ [t.name]).length (toksCells (out ++ [t.name]))) := own_cast hP8.row (by rw [List.length_append]; rfl) (by rw [toksCells_snoc]; rfl)
        have MAP2 : Hid (IdxMap w8 mb (k + 1) (nameAt (st.typs.take (k + 1)))) := by
          unfold Hid
          rw [hmap2.out]
          exact (MAP1.out.kept hP8.grown (MAP1.out.own_ne OUT1.out)).mono (Nat.le_succ k)
        have LR2 := Lib.hid (hP8.bel _ _ (Nat.le_refl _) LR1.out.size LR1.out)
        clear hP8 OUT1 MAP1 LR1 TB1 b0 b1 b2 b3
        go_wp2_with fail
        go_roundw
        case rel => exact ⟨k + 1, out ++ [t.name], by go_num, hltH.out, hout2.out, by rw [List.length_append]; exact Nat.succ_le_succ hol, OUT2.out, MAP2.out, LR2.out⟩
        case measure => have := hltH.out; simp [intOf]; omega
      case false =>
        have hout2 : Hid (out = twice [] (st.typs.take (k + 1))) := by
          unfold Hid
          rw [htk.out, twice_snoc, List.nil_append, ← hout.out, hs]
          simp
        have hlk : (st.typs.take k).length = k := by rw [List.length_take, hTH.out]; have := hltH.out; omega
        have hmap2 : Hid (nameAt (st.typs.take (k + 1)) = fun s => if s = t.name.text then some k else nameAt (st.typs.take k) s) := by
          unfold Hid
          rw [htk.out, nameAt_snoc_new hs, hlk]
        obtain ⟨w8, hrun, r1, r2⟩ := MAP1.out.put (N := k) (by have := hTb.out; have := hltH.out; omega) hsz.out (v := k) (by have := hTb.out; have := hltH.out; omega)
        have OUT2 : Hid (w8.ownsRow w.heap.size 47 4 u2 out.length (toksCells out)) := OUT1.out.kept r2 (by
          cases hv : u2.ownBlock with
          | none => exact .inl rfl
          | some x => exact .inr (fun e => MAP1.out.own_ne OUT1.out (by rw [hv]; exact e.symm)))
        have MAP2 : Hid (IdxMap w8 mb (k + 1) (nameAt (st.typs.take (k + 1)))) := by
          unfold Hid
          rw [hmap2.out]
          exact r1
        have LR2 : Hid (Below w.heap.size w w8) := LR1.out.grown r2 LR1.out.size (fun j e => by cases e; exact hmbH.out)
        clear hs hlk r1 r2 OUT1 MAP1 LR1
        go_upto_region 9 with fail
        clear hrun
        go_wp2_with fail
        go_roundw
        case rel => exact ⟨k + 1, out, by go_num, hltH.out, hout2.out, Nat.le_succ_of_le hol, OUT2.out, MAP2.out, LR2.out⟩
        case measure => have := hltH.out; simp [intOf]; omega
    · have d1 : decide (k < T) = false := decide_eq_false hlt
      have d2 : decide ((k : Int) < (T : Int)) = false := decide_eq_false (by omega)
      have hkT : k = T := Nat.le_antisymm hk (Nat.le_of_not_lt hlt)
      have hall : st.typs.take k = st.typs := by rw [hkT, ← hTH.out, List.take_length]
      rw [hall] at hout MAP
      have e7 : wr.cell? ⟨g, 7, none⟩ = some (.slice Ae st.ruls.length ce) := (LR.out.cell (p := ⟨g, 7, none⟩) hgl).trans (HP.out.blk.cell 7)
      rw [hRH.out] at e7
      have MAP9 := Lib.hid (MAP.out.mono hk)
      have hol0 : out.length ≤ T + 2 * 0 := by omega
      clear hall hlt MAP hkT hk
      obtain ⟨wo, rfl⟩ : ∃ x, x = wr := ⟨_, rfl⟩
      have RES : Hid (Res w wo B g mb T st tv nm vt Ar cr vq An cn Ae ce n 0) :=
        ⟨LR.out.mono hBg.out, MAP9.out, HP.out.blk.below LR.out hgl, ownsRow_below HP.out.rt LR.out (Nat.le_refl _), own_cast (ownsRow_below HP.out.rr LR.out (Nat.le_refl _)) rfl (rulsC_zero _ _).symm, ownsRow_below HP.out.rq LR.out (Nat.le_refl _), ownsRow_below HP.out.re LR.out (Nat.le_refl _)⟩
      have hws0 : Hid (w.heap.size ≤ wo.heap.size) := LR.out.size
      have hout0 : Hid (out = twice [] st.typs ++ missH st.typs st.ruls (2 * 0)) := by unfold Hid; rw [hout.out, missH_zero, List.append_nil]
      clear hout MAP9 hol
      go_wp2_with fail
      go_loopw [2, 47] (fun v2 v47 wr => ∃ (i : Nat) (out : List Tok), v47 = .int .i64 i ∧ i ≤ R ∧ Hid (out = twice [] st.typs ++ missH st.typs st.ruls (2 * i)) ∧ out.length ≤ T + 2 * i ∧ Hid (wr.ownsRow w.heap.size 47 4 v2 out.length (toksCells out)) ∧ Hid (w.heap.size ≤ wr.heap.size) ∧ Hid (Res w wr B g mb T st tv nm vt Ar cr vq An cn Ae ce n (2 * i))) (fun _ v47 _ => R - (intOf v47).toNat)
      case atStart => exact ⟨0, out, rfl, Nat.zero_le _, hout0.out, hol0, OUT.out, hws0.out, RES.out⟩
      case round =>
        clear RES hout0 hol0 OUT LR e7 hws0
        obtain ⟨i, ou2, rfl, hi, hout, hol, OUT, hwsz, RES⟩ := hrel
        by_cases hlt : i < R
        · have d1 : decide (i < R) = true := decide_eq_true hlt
          have d2 : decide ((i : Int) < (R : Int)) = true := decide_eq_true (by omega)
          obtain ⟨r, hr⟩ : ∃ r, st.ruls[i]? = some r := ⟨_, List.getElem?_eq_getElem (by rw [hRH.out]; exact hlt)⟩
          have hR0 : 0 < st.ruls.length := by rw [hRH.out]; exact Nat.lt_of_le_of_lt (Nat.zero_le _) hlt
          obtain ⟨ge, rfl, hge⟩ := own_none RES.out.re hR0
          obtain ⟨gr, rfl, hgr⟩ := own_none RES.out.rr hR0
          have cel : ∀ (j : Nat) (u : Value), j < 8 → (tokCells r.a ++ tokCells r.b)[j]? = some u → wr.cell? ⟨ge, i * 8 + j, none⟩ = some u := fun j u hj hu => by
            have h1 := RES.out.re.cells (g := ge) rfl (i * 8 + j) u (by rw [endsC_get _ _ _ hr j hj]; exact hu)
            rw [Addr.add_lit, Nat.zero_add] at h1
            exact h1
          have k0 : wr.cell? ⟨ge, i * 8, none⟩ = some (.int .i64 r.a.kind) := cel 0 _ (by decide) rfl
          have k1 : wr.cell? ⟨ge, i * 8 + 1, none⟩ = some (.string r.a.text) := cel 1 _ (by decide) rfl
          have k2 : wr.cell? ⟨ge, i * 8 + 2, none⟩ = some (.int .i64 r.a.n) := cel 2 _ (by decide) rfl
          have k3 : wr.cell? ⟨ge, i * 8 + 3, none⟩ = some (.int .i64 r.a.pos) := cel 3 _ (by decide) rfl
          have k4 : wr.cell? ⟨ge, i * 8 + 4, none⟩ = some (.int .i64 r.b.kind) := cel 4 _ (by decide) rfl
          have k5 : wr.cell? ⟨ge, i * 8 + 5, none⟩ = some (.string r.b.text) := cel 5 _ (by decide) rfl
          have k6 : wr.cell? ⟨ge, i * 8 + 6, none⟩ = some (.int .i64 r.b.n) := cel 6 _ (by decide) rfl
          have k7 : wr.cell? ⟨ge, i * 8 + 7, none⟩ = some (.int .i64 r.b.pos) := cel 7 _ (by decide) rfl
          have q0 : (0 : Int) ≤ (i : Int) := by omega
          have q1 : (i : Int) < (R : Int) := by omega
          have q2 : (R : Int) ≤ 4000 := by have := hRb.out; omega
          have hltH := Lib.hid hlt
          have hrH := Lib.hid hr
          have hBwr : Hid (B ≤ wr.heap.size) := Nat.le_trans hBg.out RES.out.bel.size
          clear cel hr hR0 hlt hge
          go_upto_region 13 with fail
          refine world_is (P := fun W => Code.wp _ _ _ _ W) (fun W1 hW1 => ?_)
          have hB1 : Below wr.heap.size wr W1 := by rw [← hW1]; exact (Below.refl _ _).alloc (Nat.le_refl _) _
          have EB1 : Hid (Blk W1 wr.heap.size 101 #[.int .i64 r.a.kind, .string r.a.text, .int .i64 r.a.n, .int .i64 r.a.pos, .int .i64 r.b.kind, .string r.b.text, .int .i64 r.b.n, .int .i64 r.b.pos]) := by unfold Hid; rw [← hW1]; exact Blk.new _ _ _
          have RES1 := Lib.hid (RES.out.below hB1 hBwr.out)
          have OUT1 := Lib.hid (ownsRow_below OUT.out hB1 (Nat.le_refl _))
          have hWsz : Hid (w.heap.size ≤ W1.heap.size) := Nat.le_trans hwsz.out hB1.size
          obtain ⟨a, ea⟩ : ∃ x, wr.heap.size = x := ⟨_, rfl⟩
          have hwa : Hid (w.heap.size ≤ a) := by unfold Hid; rw [← ea]; exact hwsz.out
          rw [ea] at EB1 ⊢
          clear hW1 hB1 RES OUT k0 k1 k2 k3 k4 k5 k6 k7 ea
          have c4 : W1.cell? ⟨g, 4, none⟩ = some (.slice (some ⟨gr, 0, none⟩) R cr) := by have h := RES1.out.blk.cell 4; rw [hRH.out] at h; exact h
          have hgW1 : g < W1.heap.size := RES1.out.blk.lt
          have hne1 : W1.heap.size ≠ g := Ne.symm (Nat.ne_of_lt hgW1)
          go_region_held3 (fun w' => w'.cell? ⟨g, 4, none⟩ = some (.slice (some ⟨gr, 0, none⟩) R cr)) (go_keep) (fail)
          refine world_is (P := fun W => Exit.then _ _ Exit.normal _ W) (fun W2 hW2 => ?_)
          have hB2 : Below W1.heap.size W1 W2 := by rw [← hW2]; exact ((Below.refl _ _).alloc (Nat.le_refl _) _).drew
          have PB2 : Hid (Blk W2 W1.heap.size 102 #[.pointer (some ⟨gr, i * 3 + 1, none⟩), .pointer (some ⟨gr, i * 3 + 2, none⟩)]) := by unfold Hid; rw [← hW2]; exact (Blk.new _ _ _).drew
          have EB2 := Lib.hid (EB1.out.below hB2 EB1.out.lt)
          have RES2 := Lib.hid (RES1.out.below hB2 (Nat.le_trans hBg.out hWsz.out))
          have OUT2 := Lib.hid (ownsRow_below OUT1.out hB2 (Nat.le_refl _))
          have hwz2 : Hid (w.heap.size ≤ W2.heap.size) := Nat.le_trans hWsz.out hB2.size
          obtain ⟨p, ep⟩ : ∃ x, W1.heap.size = x := ⟨_, rfl⟩
          have hwp : Hid (w.heap.size ≤ p) := by unfold Hid; rw [← ep]; exact hWsz.out
          rw [ep] at PB2 ⊢
          obtain ⟨wq, rfl⟩ : ∃ x, x = wr := ⟨_, rfl⟩
          have hgrw : Hid (gr < w.heap.size) := (HP.out.rr.lt gr rfl).2
          have hagr : Hid (a ≠ gr) := Ne.symm (Nat.ne_of_lt (Nat.lt_of_lt_of_le hgrw.out hwa.out))
          have hpgr : Hid (p ≠ gr) := Ne.symm (Nat.ne_of_lt (Nat.lt_of_lt_of_le hgrw.out hwp.out))
          have hout0 : Hid (ou2 = twice [] st.typs ++ missH st.typs st.ruls (2 * i + 0)) := hout.out
          clear hW2 hB2 EB1 RES1 OUT1 c4 hne1 hgW1 ep hWsz
          go_wp2_with fail
          go_loopw [2, 70] (fun v2 v70 wr => ∃ (k : Nat) (out : List Tok), v70 = .int .i64 k ∧ k ≤ 2 ∧ Hid (out = twice [] st.typs ++ missH st.typs st.ruls (2 * i + k)) ∧ out.length ≤ T + (2 * i + k) ∧ Hid (wr.ownsRow w.heap.size 47 4 v2 out.length (toksCells out)) ∧ Hid (w.heap.size ≤ wr.heap.size) ∧ Hid (Res w wr B g mb T st tv nm vt (some ⟨gr, 0, none⟩) cr vq An cn (some ⟨ge, 0, none⟩) ce n (2 * i + k)) ∧ Hid (Blk wr a 101 #[.int .i64 r.a.kind, .string r.a.text, .int .i64 r.a.n, .int .i64 r.a.pos, .int .i64 r.b.kind, .string r.b.text, .int .i64 r.b.n, .int .i64 r.b.pos]) ∧ Hid (Blk wr p 102 #[.pointer (some ⟨gr, i * 3 + 1, none⟩), .pointer (some ⟨gr, i * 3 + 2, none⟩)])) (fun _ v70 _ => 2 - (intOf v70).toNat)
          case atStart => exact ⟨0, ou2, rfl, by decide, hout0.out, hol, OUT2.out, hwz2.out, RES2.out, EB2.out, PB2.out⟩
          case round =>
            clear OUT2 RES2 EB2 PB2 hout0 hout hol hwz2 hwsz
            obtain ⟨j, out, rfl, hj2, hout, hol, OUT, hwz, RES, EB, PB⟩ := hrel
            rcases (show j = 0 ∨ j = 1 ∨ j = 2 by omega) with hj | hj | hj
            · subst hj
              have y0 : wr.cell? ⟨p, 0, none⟩ = some (.pointer (some ⟨gr, i * 3 + 1, none⟩)) := PB.out.cell 0
              have z0 : wr.cell? ⟨a, 0, none⟩ = some (.int .i64 r.a.kind) := EB.out.cell 0
              have z1 : wr.cell? ⟨a, 1, none⟩ = some (.string r.a.text) := EB.out.cell 1
              have z2 : wr.cell? ⟨a, 2, none⟩ = some (.int .i64 r.a.n) := EB.out.cell 2
              have z3 : wr.cell? ⟨a, 3, none⟩ = some (.int .i64 r.a.pos) := EB.out.cell 3
              have hlook := RES.out.map.look (show r.a.text.size ≤ maxLen from Nat.le_trans (HS2.out r (List.mem_of_getElem? hrH.out)).1 (by unfold maxLen; decide))
              have hidx : Hid (idxOr st.typs (side r 0).text = (nameAt st.typs r.a.text).getD 0) := rfl
              have hms : Hid (missH st.typs st.ruls (2 * i + 0 + 1) = missH st.typs st.ruls (2 * i + 0) ++ (if (nameAt st.typs r.a.text).isSome = false then [r.a] else [])) := missH_step st.typs i st.ruls r 0 (2 * i + 0) hrH.out (by decide) rfl
              obtain ⟨x, hx⟩ : ∃ x, ((rulsH st.typs st.ruls (2 * i + 0)).map intV)[i * 3 + 1]? = some x := ⟨_, List.getElem?_eq_getElem (by rw [List.length_map, rulsH_len, hRH.out]; have := hltH.out; omega)⟩
              have hst : Hid (∀ W, Res w W B g mb T st tv nm vt (some ⟨gr, 0, none⟩) cr vq An cn (some ⟨ge, 0, none⟩) ce n (2 * i + 0) → W.cell? ⟨gr, i * 3 + 1, none⟩ = some x ∧ W.frozen? ⟨gr, i * 3 + 1, none⟩ = false) := fun W hW => by
                have h1 := hW.rr.cells (g := gr) rfl _ _ hx
                rw [Addr.add_lit, Nat.zero_add] at h1
                obtain ⟨g', c', cur, hv, _, hbk, _⟩ := own_form hW.rr (by rw [hRH.out]; exact Nat.lt_of_le_of_lt (Nat.zero_le _) hltH.out)
                cases hv
                exact ⟨h1, hbk.frozen _⟩
              obtain ⟨ok, hok⟩ : ∃ b, (nameAt st.typs r.a.text).isSome = b := ⟨_, rfl⟩
              rw [hok] at hlook
              have hs := Lib.hid hok
              clear hok
              go_upto_if 85 with fail
              clear hlook
              cases ok
              case true =>
                obtain ⟨s1, s2⟩ := hst.out _ RES.out
                have hout2 : Hid (out = twice [] st.typs ++ missH st.typs st.ruls (2 * i + 0 + 1)) := by unfold Hid; rw [hms.out, hs.out, hout.out]; simp
                have RES2 := Lib.hid (RES.out.put (j := 0) hrH.out (by decide) rfl)
                rw [hidx.out] at RES2
                have OUT2 := Lib.hid (ownsRow_setCell_ne OUT.out hgrw.out (i * 3 + 1) (.int .i64 (((nameAt st.typs r.a.text).getD 0 : Nat) : Int)))
                have EB2 := Lib.hid (EB.out.other (a := ⟨gr, i * 3 + 1, none⟩) hagr.out (.int .i64 (((nameAt st.typs r.a.text).getD 0 : Nat) : Int)))
                have PB2 := Lib.hid (PB.out.other (a := ⟨gr, i * 3 + 1, none⟩) hpgr.out (.int .i64 (((nameAt st.typs r.a.text).getD 0 : Nat) : Int)))
                have hwz2 : Hid (w.heap.size ≤ (wr.setCell ⟨gr, i * 3 + 1, none⟩ (.int .i64 (((nameAt st.typs r.a.text).getD 0 : Nat) : Int))).heap.size) := by unfold Hid; have := hwz.out; simpa [World.setCell] using this
                clear hst hs hx hms OUT EB PB RES z0 z1 z2 z3 y0
                go_wp2_with fail
                go_roundw
                case rel => exact ⟨0 + 1, out, by go_num, by decide, hout2.out, by omega, OUT2.out, hwz2.out, RES2.out, EB2.out, PB2.out⟩
                case measure => simp [intOf]
              case false =>
                have hout2 : Hid (out ++ [r.a] = twice [] st.typs ++ missH st.typs st.ruls (2 * i + 0 + 1)) := by unfold Hid; rw [hms.out, hs.out, hout.out]; simp
                go_upto_region 19 with (refine wp_gpush_list 42 47 (.agg #[.int .i64 0, .string ⟨#[]⟩, .int .i64 0, .int .i64 0]) 4 40 Tryd.underlying42 (by kernel_rfl) rfl (by decide) (by decide) rfl _ _ rfl w.heap.size _ out.length (toksCells out) rfl OUT.out 1 1 #[.int .i64 r.a.kind, .string r.a.text, .int .i64 r.a.n, .int .i64 r.a.pos] rfl rfl (by intro u hu; simp only [List.mem_cons, List.not_mem_nil, or_false] at hu; rcases hu with rfl | rfl | rfl | rfl <;> rfl) (by have := hTb.out; have := hRb.out; have := hltH.out; omega) hwz.out ?_; intro v8 w8 hP8; obtain ⟨A8, C8, rfl⟩ := own_slice hP8.row)
                have hgb := hP8.grown
                have RES1' := Lib.hid (RES.out.pushed OUT.out hP8 hBg.out hwz.out)
                obtain ⟨s1, s2⟩ := hst.out _ RES1'.out
                have RES2 := Lib.hid (RES1'.out.put (j := 0) hrH.out (by decide) rfl)
                rw [hidx.out] at RES2
                have OUT1' : Hid (w8.ownsRow w.heap.size 47 4 (.slice A8 (out.length + 1) C8) (out ++ [r.a]).length (toksCells (out ++ [r.a]))) := own_cast hP8.row (by rw [List.length_append]; rfl) (by rw [toksCells_snoc]; rfl)
                have OUT2 := Lib.hid (ownsRow_setCell_ne OUT1'.out hgrw.out (i * 3 + 1) (.int .i64 (((nameAt st.typs r.a.text).getD 0 : Nat) : Int)))
                have EB2 := Lib.hid ((EB.out.grown hgb (Ne.symm (own_blk_ne OUT.out EB.out (by decide)))).other (a := ⟨gr, i * 3 + 1, none⟩) hagr.out (.int .i64 (((nameAt st.typs r.a.text).getD 0 : Nat) : Int)))
                have PB2 := Lib.hid ((PB.out.grown hgb (Ne.symm (own_blk_ne OUT.out PB.out (by decide)))).other (a := ⟨gr, i * 3 + 1, none⟩) hpgr.out (.int .i64 (((nameAt st.typs r.a.text).getD 0 : Nat) : Int)))
                have hwz2 : Hid (w.heap.size ≤ (w8.setCell ⟨gr, i * 3 + 1, none⟩ (.int .i64 (((nameAt st.typs r.a.text).getD 0 : Nat) : Int))).heap.size) := by unfold Hid; have := Nat.le_trans hwz.out hgb.size; simpa [World.setCell] using this
                have hll : (out ++ [r.a]).length ≤ T + (2 * i + (0 + 1)) := by rw [List.length_append]; simp; omega
                clear hst hs hx hms OUT EB PB RES RES1' OUT1' hP8 hgb z0 z1 z2 z3 y0
                go_wp2_with fail
                go_roundw
                case rel => exact ⟨0 + 1, out ++ [r.a], by go_num, by decide, hout2.out, hll, OUT2.out, hwz2.out, RES2.out, EB2.out, PB2.out⟩
                case measure => simp [intOf]
            · subst hj
              have y0 : wr.cell? ⟨p, 1, none⟩ = some (.pointer (some ⟨gr, i * 3 + 2, none⟩)) := PB.out.cell 1
              have z0 : wr.cell? ⟨a, 4, none⟩ = some (.int .i64 r.b.kind) := EB.out.cell 4
              have z1 : wr.cell? ⟨a, 5, none⟩ = some (.string r.b.text) := EB.out.cell 5
              have z2 : wr.cell? ⟨a, 6, none⟩ = some (.int .i64 r.b.n) := EB.out.cell 6
              have z3 : wr.cell? ⟨a, 7, none⟩ = some (.int .i64 r.b.pos) := EB.out.cell 7
              have hlook := RES.out.map.look (show r.b.text.size ≤ maxLen from Nat.le_trans (HS2.out r (List.mem_of_getElem? hrH.out)).2 (by unfold maxLen; decide))
              have hidx : Hid (idxOr st.typs (side r 1).text = (nameAt st.typs r.b.text).getD 0) := rfl
              have hms : Hid (missH st.typs st.ruls (2 * i + 1 + 1) = missH st.typs st.ruls (2 * i + 1) ++ (if (nameAt st.typs r.b.text).isSome = false then [r.b] else [])) := missH_step st.typs i st.ruls r 1 (2 * i + 1) hrH.out (by decide) rfl
              obtain ⟨x, hx⟩ : ∃ x, ((rulsH st.typs st.ruls (2 * i + 1)).map intV)[i * 3 + 2]? = some x := ⟨_, List.getElem?_eq_getElem (by rw [List.length_map, rulsH_len, hRH.out]; have := hltH.out; omega)⟩
              have hst : Hid (∀ W, Res w W B g mb T st tv nm vt (some ⟨gr, 0, none⟩) cr vq An cn (some ⟨ge, 0, none⟩) ce n (2 * i + 1) → W.cell? ⟨gr, i * 3 + 2, none⟩ = some x ∧ W.frozen? ⟨gr, i * 3 + 2, none⟩ = false) := fun W hW => by
                have h1 := hW.rr.cells (g := gr) rfl _ _ hx
                rw [Addr.add_lit, Nat.zero_add] at h1
                obtain ⟨g', c', cur, hv, _, hbk, _⟩ := own_form hW.rr (by rw [hRH.out]; exact Nat.lt_of_le_of_lt (Nat.zero_le _) hltH.out)
                cases hv
                exact ⟨h1, hbk.frozen _⟩
              obtain ⟨ok, hok⟩ : ∃ b, (nameAt st.typs r.b.text).isSome = b := ⟨_, rfl⟩
              rw [hok] at hlook
              have hs := Lib.hid hok
              clear hok
              go_upto_if 85 with fail
              clear hlook
              cases ok
              case true =>
                obtain ⟨s1, s2⟩ := hst.out _ RES.out
                have hout2 : Hid (out = twice [] st.typs ++ missH st.typs st.ruls (2 * i + 1 + 1)) := by unfold Hid; rw [hms.out, hs.out, hout.out]; simp
                have RES2 := Lib.hid (RES.out.put (j := 1) hrH.out (by decide) rfl)
                rw [hidx.out] at RES2
                have OUT2 := Lib.hid (ownsRow_setCell_ne OUT.out hgrw.out (i * 3 + 2) (.int .i64 (((nameAt st.typs r.b.text).getD 0 : Nat) : Int)))
                have EB2 := Lib.hid (EB.out.other (a := ⟨gr, i * 3 + 2, none⟩) hagr.out (.int .i64 (((nameAt st.typs r.b.text).getD 0 : Nat) : Int)))
                have PB2 := Lib.hid (PB.out.other (a := ⟨gr, i * 3 + 2, none⟩) hpgr.out (.int .i64 (((nameAt st.typs r.b.text).getD 0 : Nat) : Int)))
                have hwz2 : Hid (w.heap.size ≤ (wr.setCell ⟨gr, i * 3 + 2, none⟩ (.int .i64 (((nameAt st.typs r.b.text).getD 0 : Nat) : Int))).heap.size) := by unfold Hid; have := hwz.out; simpa [World.setCell] using this
                clear hst hs hx hms OUT EB PB RES z0 z1 z2 z3 y0
                go_wp2_with fail
                go_roundw
                case rel => exact ⟨1 + 1, out, by go_num, by decide, hout2.out, by omega, OUT2.out, hwz2.out, RES2.out, EB2.out, PB2.out⟩
                case measure => simp [intOf]
              case false =>
                have hout2 : Hid (out ++ [r.b] = twice [] st.typs ++ missH st.typs st.ruls (2 * i + 1 + 1)) := by unfold Hid; rw [hms.out, hs.out, hout.out]; simp
                go_upto_region 19 with (refine wp_gpush_list 42 47 (.agg #[.int .i64 0, .string ⟨#[]⟩, .int .i64 0, .int .i64 0]) 4 40 Tryd.underlying42 (by kernel_rfl) rfl (by decide) (by decide) rfl _ _ rfl w.heap.size _ out.length (toksCells out) rfl OUT.out 1 1 #[.int .i64 r.b.kind, .string r.b.text, .int .i64 r.b.n, .int .i64 r.b.pos] rfl rfl (by intro u hu; simp only [List.mem_cons, List.not_mem_nil, or_false] at hu; rcases hu with rfl | rfl | rfl | rfl <;> rfl) (by have := hTb.out; have := hRb.out; have := hltH.out; omega) hwz.out ?_; intro v8 w8 hP8; obtain ⟨A8, C8, rfl⟩ := own_slice hP8.row)
                have hgb := hP8.grown
                have RES1' := Lib.hid (RES.out.pushed OUT.out hP8 hBg.out hwz.out)
                obtain ⟨s1, s2⟩ := hst.out _ RES1'.out
                have RES2 := Lib.hid (RES1'.out.put (j := 1) hrH.out (by decide) rfl)
                rw [hidx.out] at RES2
                have OUT1' : Hid (w8.ownsRow w.heap.size 47 4 (.slice A8 (out.length + 1) C8) (out ++ [r.b]).length (toksCells (out ++ [r.b]))) := own_cast hP8.row (by rw [List.length_append]; rfl) (by rw [toksCells_snoc]; rfl)
                have OUT2 := Lib.hid (ownsRow_setCell_ne OUT1'.out hgrw.out (i * 3 + 2) (.int .i64 (((nameAt st.typs r.b.text).getD 0 : Nat) : Int)))
                have EB2 := Lib.hid ((EB.out.grown hgb (Ne.symm (own_blk_ne OUT.out EB.out (by decide)))).other (a := ⟨gr, i * 3 + 2, none⟩) hagr.out (.int .i64 (((nameAt st.typs r.b.text).getD 0 : Nat) : Int)))
                have PB2 := Lib.hid ((PB.out.grown hgb (Ne.symm (own_blk_ne OUT.out PB.out (by decide)))).other (a := ⟨gr, i * 3 + 2, none⟩) hpgr.out (.int .i64 (((nameAt st.typs r.b.text).getD 0 : Nat) : Int)))
                have hwz2 : Hid (w.heap.size ≤ (w8.setCell ⟨gr, i * 3 + 2, none⟩ (.int .i64 (((nameAt st.typs r.b.text).getD 0 : Nat) : Int))).heap.size) := by unfold Hid; have := Nat.le_trans hwz.out hgb.size; simpa [World.setCell] using this
                have hll : (out ++ [r.b]).length ≤ T + (2 * i + (1 + 1)) := by rw [List.length_append]; simp; omega
                clear hst hs hx hms OUT EB PB RES RES1' OUT1' hP8 hgb z0 z1 z2 z3 y0
                go_wp2_with fail
                go_roundw
                case rel => exact ⟨1 + 1, out ++ [r.b], by go_num, by decide, hout2.out, hll, OUT2.out, hwz2.out, RES2.out, EB2.out, PB2.out⟩
                case measure => simp [intOf]
            · subst hj
              have RES3 : Hid (Res w wr B g mb T st tv nm vt (some ⟨gr, 0, none⟩) cr vq An cn (some ⟨ge, 0, none⟩) ce n (2 * (i + 1))) := RES.out
              have hout3 : Hid (out = twice [] st.typs ++ missH st.typs st.ruls (2 * (i + 1))) := hout.out
              go_wp2_with fail
              go_roundw
              case rel => exact ⟨i + 1, out, by go_num, hltH.out, hout3.out, by omega, OUT.out, hwz.out, RES3.out⟩
              case measure => have := hltH.out; simp [intOf]; omega
        · have d1 : decide (i < R) = false := decide_eq_false hlt
          have d2 : decide ((i : Int) < (R : Int)) = false := decide_eq_false (by omega)
          have hiR : i = R := Nat.le_antisymm hi (Nat.le_of_not_lt hlt)
          have hw : Hid (ou2 = wrongs st) := by
            unfold Hid
            rw [hout.out, missH_all _ _ _ (by rw [hRH.out, hiR]), wrongs]
          have RES2 : Hid (Res w wr B g mb T st tv nm vt Ar cr vq An cn Ae ce n (2 * st.ruls.length)) := by rw [hRH.out, ← hiR]; exact RES.out
          clear hlt hiR hi RES
          go_wp2_with fail
          go_ret
          rw [hw.out] at OUT
          exact ⟨_, rfl, OUT.out, RES2.out.bel, RES2.out.blk, RES2.out.rt, RES2.out.rr, RES2.out.rq⟩
end Go.Proofs.YtemhiiignamkjaaDoor
