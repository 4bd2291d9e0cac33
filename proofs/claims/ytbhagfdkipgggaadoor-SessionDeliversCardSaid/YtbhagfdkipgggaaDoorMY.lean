/-
  Rows of any elements that the call owns: append.
  Layer 29 (session): messages in an owned row, flags in a made row, sessions in their cells (for the law of the delivery).
-/
import Derived.Test.YtbhagfdkipgggaaDoorMB
import Derived.Test.YtbhagfdkipgggaaDoorMS
import Derived.Test.YtbhagfdkipgggaaDoorMW
namespace Go.Proofs.YtbhagfdkipgggaaDoor
open Go.RowKit Go.Shelf
/-- What an append leaves. -/
structure GPushed (w w' : World) (base : Nat) (el : TypeId) (k : Nat) (v v' : Value) (n : Nat) (xs : List Value) : Prop where
  row : w'.ownsRow base el k v' n xs
  grown : w.grownBy w' v.ownBlock
  bel : ∀ B w0, B ≤ base → base ≤ w.heap.size → Below B w0 w → Below B w0 w'
  none : v' = .slice none 0 0 → v = .slice none 0 0
section
variable {w : World} {ops : Array Oper} {rest : List Oper} {o : Oper} {a : Act} {Q : Exit → Act → World → Prop}
/-- append of elements that lie somewhere. -/
theorem wp_gcat (t el : TypeId) (z : Value) (k by' : Nat) (ht : Tryd.prog.underlying t = some (.slice el)) (hinfo : (Tryd.prog.info? el).map (fun i => (i.zero, i.size, i.bytes)) = some (some z, k, by')) (hzs : z.cells.size = k) (hk : 0 < k) (hby : by' ≤ 10000)
    (hgd : o.guard = none) (d s : Operand) (ho : o.op = .call { callee := .builtin .append, args := #[d, s], argTypes := #[t, t] }) (base : Nat) (v : Value) (n : Nat) (xs : List Value) (hd : a.eval d = v) (hrow : w.ownsRow base el k v n xs)
    (ad : Addr) (m c : Nat) (news : List Value) (hs : a.eval s = .slice (some ad) m c) (hl : news.length = m * k) (hnews : ∀ j u, news[j]? = some u → w.cell? (ad.add j) = some u) (h1 : ∀ u ∈ news, u.oneCell' = true) (hlen : n + m ≤ 1000000) (hb : base ≤ w.heap.size)
    (h : ∀ v' w', GPushed w w' base el k v v' (n + m) (xs ++ news) → wpList Tryd.prog ops Q rest (a.put o.dst v') w') : wpList Tryd.prog ops Q (o :: rest) a w := by
  obtain ⟨i0, hi, hz0, hz1, hz2⟩ := info_parts hinfo
  have hmul : (n + m) * by' ≤ 1000000 * 10000 := Nat.mul_le_mul hlen hby
  refine wpList_append_own w hgd d s t ho base el i0 z k by' ht hi hz0 hz1 hz2 hzs hk v n xs hd hrow ad m c news hs hl hnews h1 (by unfold maxLen; omega) (by omega) hb ?_
  intro v' w' h2 h3 h4
  exact h v' w' ⟨h2, h3, fun B w0 hB hb2 hBel => hBel.grown h3 (Nat.le_trans hB hb2) (fun j e => Nat.le_trans hB (hrow.lt j e).1), fun e => (h4.1 e).1⟩
/-- append of elements whose row has just been made. -/
theorem wp_gpush {w0 : World} (t el : TypeId) (z : Value) (k by' : Nat) (ht : Tryd.prog.underlying t = some (.slice el)) (hinfo : (Tryd.prog.info? el).map (fun i => (i.zero, i.size, i.bytes)) = some (some z, k, by')) (hzs : z.cells.size = k) (hk : 0 < k) (hby : by' ≤ 10000)
    (hgd : o.guard = none) (d s : Operand) (ho : o.op = .call { callee := .builtin .append, args := #[d, s], argTypes := #[t, t] }) (base : Nat) (v : Value) (n : Nat) (xs : List Value) (hd : a.eval d = v) (hrow : w0.ownsRow base el k v n xs)
    (m c : Nat) (news : Array Value) (hs : a.eval s = .slice (some ⟨w0.heap.size, 0, none⟩) m c) (hl : news.size = m * k) (h1 : ∀ u ∈ news.toList, u.oneCell' = true) (hlen : n + m ≤ 1000000) (hb : base ≤ w0.heap.size)
    (h : ∀ v' w', GPushed w0 w' base el k v v' (n + m) (xs ++ news.toList) → wpList Tryd.prog ops Q rest (a.put o.dst v') w') : wpList Tryd.prog ops Q (o :: rest) a (w0.alloc (.cells news el)) := by
  refine wp_gcat t el z k by' ht hinfo hzs hk hby hgd d s ho base v n xs hd (World.ownsRow.alloc hrow _) ⟨w0.heap.size, 0, none⟩ m c news.toList hs (by rw [Array.length_toList]; exact hl) (fun j u hj => ?_) h1 hlen (by rw [World.size_alloc]; omega) (fun v' w' hP => ?_)
  · have hB := Blk.new w0 el news
    rw [Addr.add_lit, Nat.zero_add, hB.cell j, ← hj, Array.getElem?_toList]
  · refine h v' w' ⟨hP.row, ?_, fun B w1 hB hb2 hBel => hP.bel B w1 hB (by rw [World.size_alloc]; omega) (hBel.alloc (Nat.le_trans hB hb2) _), hP.none⟩
    exact grown_tr (grownB ((Below.refl _ w0).alloc (Nat.le_refl _) _) (Nat.le_refl _) v.ownBlock) hP.grown
/-- append of nothing. -/
theorem run_append_zero (P : Program) (w : World) (t ty e : TypeId) (i : TypeInfo) (ht : P.underlying t = some (.slice e)) (hi : P.info? e = some i) (A : Option Addr) (n c c' : Nat) (hn : n ≤ c) :
    (Builtin.append_ #[t, t] ty #[.slice A n c, .slice none 0 c']).run P w = .ok (.slice A n c) w := by
  cases A <;> simp [Builtin.append_, run_underlying ht, sizeOf, typeInfo, hi, Builtin.lenOf, hn, run_firstCells_none, storeCells]
/-- append of elements that lie somewhere, if there are any. -/
theorem wp_gcat_any (t el : TypeId) (z : Value) (k by' : Nat) (ht : Tryd.prog.underlying t = some (.slice el)) (hinfo : (Tryd.prog.info? el).map (fun i => (i.zero, i.size, i.bytes)) = some (some z, k, by')) (hzs : z.cells.size = k) (hk : 0 < k) (hby : by' ≤ 10000)
    (hgd : o.guard = none) (d s : Operand) (ho : o.op = .call { callee := .builtin .append, args := #[d, s], argTypes := #[t, t] }) (base : Nat) (v : Value) (n : Nat) (xs : List Value) (hd : a.eval d = v) (hrow : w.ownsRow base el k v n xs)
    (A : Option Addr) (m c : Nat) (news : List Value) (hs : a.eval s = .slice A m c) (hl : news.length = m * k) (hA : A = none → m = 0) (hnews : ∀ ad, A = some ad → ∀ j u, news[j]? = some u → w.cell? (ad.add j) = some u) (h1 : ∀ u ∈ news, u.oneCell' = true) (hlen : n + m ≤ 1000000) (hb : base ≤ w.heap.size)
    (h : ∀ v' w', GPushed w w' base el k v v' (n + m) (xs ++ news) → wpList Tryd.prog ops Q rest (a.put o.dst v') w') : wpList Tryd.prog ops Q (o :: rest) a w := by
  cases A with
  | some ad => exact wp_gcat t el z k by' ht hinfo hzs hk hby hgd d s ho base v n xs hd hrow ad m c news hs hl (hnews ad rfl) h1 hlen hb h
  | none =>
    obtain rfl := hA rfl
    have hnil : news = [] := List.eq_nil_of_length_eq_zero (by rw [hl, Nat.zero_mul])
    subst hnil
    rw [Nat.add_zero, List.append_nil] at h
    obtain ⟨i0, hi, _, _, _⟩ := info_parts hinfo
    obtain ⟨A2, c2, hv, hc⟩ : ∃ A2 c2, v = .slice A2 n c2 ∧ n ≤ c2 := by
      rcases hrow.2 with ⟨hv, h0⟩ | ⟨g, cap, cur, hv, _, _, hnc, _⟩
      · exact ⟨none, 0, by rw [hv, h0], by omega⟩
      · exact ⟨_, _, hv, hnc⟩
    subst hv
    exact wpList_append_run hgd d s t t ho _ _ hd hs (run_append_zero Tryd.prog w t o.type el i0 ht hi A2 n c2 c hc) (h _ _ ⟨hrow, grownB (Below.refl _ w) (Nat.le_refl _) _, fun B w0 _ _ hBel => hBel, fun e => e⟩)
end
end Go.Proofs.YtbhagfdkipgggaaDoor
namespace Go.Proofs.YtbhagfdkipgggaaDoor
open Go.RowKit Go.Shelf
attribute [local go_sem] Oper.semAt_some
theorem infoMsg3 : (Tryd.prog.info? 42).map (fun i => (i.zero, i.size, i.bytes)) = some (some (.agg #[.int .i64 0, .int .i64 0, .string ⟨#[]⟩]), 3, 32) := by kernel_rfl
/-- The sent messages, read only. -/
def SentAt (w : World) (g : Nat) (s0 : Ses) (l : List ByteArray) (n : Nat) : Prop :=
  g < w.heap.size ∧ ∀ k i v, k < n → i < 3 → (msgC (msgOf s0 k (l.getD k noT)))[i]? = some v → w.cell? ⟨g, 3 * k + i, none⟩ = some v
section
variable {w w' : World} {g : Nat} {s0 : Ses} {l : List ByteArray} {n : Nat}
theorem SentAt.below (h : SentAt w g s0 l n) (hB : Below w.heap.size w w') : SentAt w' g s0 l n :=
  ⟨Nat.lt_of_lt_of_le h.1 hB.size, fun k i v hk hi hv => (hB.cell (p := ⟨g, 3 * k + i, none⟩) h.1).trans (h.2 k i v hk hi hv)⟩
theorem SentAt.other (h : SentAt w g s0 l n) (a : Addr) (u : Value) (hne : a.block ≠ g) : SentAt (w.setCell a u) g s0 l n :=
  ⟨by rw [World.size_setCell]; exact h.1, fun k i v hk hi hv => (World.cell?_setCell_far w a ⟨g, 3 * k + i, none⟩ u hne).trans (h.2 k i v hk hi hv)⟩
theorem SentAt.sets (h : SentAt w g s0 l n) {b : Nat} (hne : b ≠ g) : ∀ (vs : List Value) (o : Nat), SentAt (w.setCells b o vs) g s0 l n := fun vs o =>
  ⟨by rw [size_sets]; exact h.1, fun k i v hk hi hv => (cell_sets_far ⟨g, 3 * k + i, none⟩ hne vs o w).trans (h.2 k i v hk hi hv)⟩
theorem SentAt.three (h : SentAt w g s0 l n) (k : Nat) (hk : k < n) (x : ByteArray) (hx : l[k]? = some x) :
    w.cell? ⟨g, 3 * k, none⟩ = some (.int .i64 s0.id) ∧ w.cell? ⟨g, 3 * k + 1, none⟩ = some (.int .i64 ((k : Int) + 1)) ∧ w.cell? ⟨g, 3 * k + 2, none⟩ = some (.string (msgOf s0 k x).text) := by
  have e : l.getD k noT = x := by rw [List.getD_eq_getElem?_getD, hx]; rfl
  have h0 := h.2 k 0 _ hk (by decide) rfl
  have h1 := h.2 k 1 _ hk (by decide) rfl
  have h2 := h.2 k 2 _ hk (by decide) rfl
  rw [e] at h2
  exact ⟨h0, h1, h2⟩
end
theorem sent_of_row {w : World} {base g n c : Nat} {s0 : Ses} {l : List ByteArray} (h : w.ownsRow base 42 3 (.slice (some ⟨g, 0, none⟩) n c) n (rowsM s0 l n)) (hg : g < w.heap.size) : SentAt w g s0 l n := by
  refine ⟨hg, fun k i v hk hi hv => ?_⟩
  have h1 := h.cells (g := g) rfl (3 * k + i) v (by rw [rowsM_at s0 l k i hi n hk]; exact hv)
  rw [show (⟨g, 3 * k + i, none⟩ : Addr) = (⟨g, 0, none⟩ : Addr).add (3 * k + i) by simp [Addr.add]]
  exact h1
theorem grow_form {w : World} {base n : Nat} {v : Value} {xs : List Value} {el : TypeId} {k : Nat} (h : w.ownsRow base el k v n xs) : ∃ A c, v = .slice A n c := by
  rcases h.2 with ⟨hv, h0⟩ | ⟨g, cap, cur, hv, _⟩
  · exact ⟨none, 0, by rw [hv, h0]⟩
  · exact ⟨_, _, hv⟩
theorem grow_some {w : World} {base n : Nat} {v : Value} {xs : List Value} {el : TypeId} {k : Nat} (h : w.ownsRow base el k v n xs) (hn : 0 < n) : ∃ g c, v = .slice (some ⟨g, 0, none⟩) n c ∧ base ≤ g ∧ g < w.heap.size := by
  rcases h.2 with ⟨_, h0⟩ | ⟨g, cap, cur, hv, hb, hg, _⟩
  · omega
  · exact ⟨g, cap, hv, hb, (Array.getElem?_eq_some_iff.1 hg).1⟩
theorem row_set7 {w : World} {base n : Nat} {v : Value} {xs : List Value} {el : TypeId} {k g : Nat} (h : w.ownsRow base el k v n xs) (hg : g < base) (x0 x1 x2 x3 x4 x5 x6 : Value) : (((((((w.setCell ⟨g, 0, none⟩ x0).setCell ⟨g, 1, none⟩ x1).setCell ⟨g, 2, none⟩ x2).setCell ⟨g, 3, none⟩ x3).setCell ⟨g, 4, none⟩ x4).setCell ⟨g, 5, none⟩ x5).setCell ⟨g, 6, none⟩ x6).ownsRow base el k v n xs := by
  refine World.ownsRow.kept h (grown_tr (grown_tr (grown_tr (grown_tr (grown_tr (grown_tr (grown_set' _ g 0 x0) (grown_set' _ g 1 x1)) (grown_set' _ g 2 x2)) (grown_set' _ g 3 x3)) (grown_set' _ g 4 x4)) (grown_set' _ g 5 x5)) (grown_set' _ g 6 x6)) ?_
  refine .inr fun e => ?_
  have h1 := (h.lt g e).1
  omega
/-- Flags in a row. -/
def FlagsAt (w : World) (g : Nat) (G : List Bool) : Prop := Blk w g 4 (G.map fun b => Value.bool b).toArray
theorem FlagsAt.cell {w : World} {g : Nat} {G : List Bool} (h : FlagsAt w g G) (k : Nat) (b : Bool) (hb : G[k]? = some b) : w.cell? ⟨g, k, none⟩ = some (.bool b) := by
  rw [Blk.cell h k, List.getElem?_toArray, List.getElem?_map, hb]
  rfl
theorem FlagsAt.set_ {w : World} {g : Nat} {G : List Bool} (h : FlagsAt w g G) (k : Nat) (b : Bool) : FlagsAt (w.setCell ⟨g, k, none⟩ (.bool b)) g (G.set k b) := by
  have h1 := Blk.set_ h k (.bool b)
  unfold FlagsAt
  rw [List.map_set, ← List.setIfInBounds_toArray]
  exact h1
theorem infoBool : (Tryd.prog.info? 4).map (fun i => (i.zero, i.size, i.bytes)) = some (some (.bool false), 1, 1) := by kernel_rfl
theorem flags_made (w : World) (n : Nat) : FlagsAt (w.alloc (.cells (madeCells #[.bool false] n) 4)) w.heap.size (List.replicate n false) := by
  have h := Blk.new w 4 (madeCells #[Value.bool false] n)
  have e : madeCells #[Value.bool false] n = ((List.replicate n false).map fun b => Value.bool b).toArray := by
    apply Array.ext'
    unfold madeCells
    simp
    apply List.ext_getElem
    · simp
    · intro i h1 h2
      simp [Nat.mod_one]
  unfold FlagsAt
  rw [← e]
  exact h
theorem bools_index (w : World) (g n c k : Nat) (hk : k < n) : (Instr.indexAt 71 (.slice (some ⟨g, 0, none⟩) n c) (.int .i64 (k : Int))).run Tryd.prog w = .ok (.pointer (some ⟨g, k, none⟩)) w := by
  have d1 : (0 : Int) ≤ (k : Int) := by omega
  have d2 : (k : Int) < (n : Int) := by omega
  simp [go_sem, d1, d2]
theorem msgs_index (w : World) (g n c k : Nat) (hk : k < n) : (Instr.indexAt 70 (.slice (some ⟨g, 0, none⟩) n c) (.int .i64 (k : Int))).run Tryd.prog w = .ok (.pointer (some ⟨g, 3 * k, none⟩)) w := by
  obtain ⟨i0, hi, _, hz1, _⟩ := info_parts infoMsg3
  have d1 : (0 : Int) ≤ (k : Int) := by omega
  have d2 : (k : Int) < (n : Int) := by omega
  simp [go_sem, d1, d2, sizeOf, typeInfo, hi, hz1, Nat.mul_comm]
theorem bytes_at (w : World) (g o n c k : Nat) (hk : k < n) : (Instr.indexAt 65 (.slice (some ⟨g, o, none⟩) n c) (.int .i64 (k : Int))).run Tryd.prog w = .ok (.pointer (some ⟨g, o + k, none⟩)) w := by
  have d1 : (0 : Int) ≤ (k : Int) := by omega
  have d2 : (k : Int) < (n : Int) := by omega
  simp [go_sem, d1, d2]
theorem s0_ok (q r : Nat) (sd : Int) (K : ByteArray) (hq : q < 64) (hr : r < 3) (hs : sd = 1 ∨ sd = 2) (hK : K.size = 32) : validP ⟨1 + (q : Int), 1 + (r : Int), sd, K, 0, 0, 0⟩ = true ∧ Ses.Fits ⟨1 + (q : Int), 1 + (r : Int), sd, K, 0, 0, 0⟩ := by
  constructor
  · unfold validP
    dsimp only
    rw [decide_eq_true (by omega : 1 ≤ 1 + (q : Int) ∧ 1 + (q : Int) ≤ 64 ∧ 1 ≤ 1 + (r : Int) ∧ 1 + (r : Int) ≤ 3), decide_eq_true (show (sd = 1 ∨ sd = 2) ∧ K.size = 32 from ⟨hs, hK⟩)]
    rfl
  · constructor <;> dsimp only <;> omega
theorem rem_mod (y n : Nat) (hy : y < 256) (_hn : 0 < n) : (wrap64 (y : Int)).tmod (n : Int) = ((y % n : Nat) : Int) := by
  have h1 : wrap64 (y : Int) = (y : Int) := by rw [wrap64]; omega
  rw [h1, Int.tmod_eq_emod_of_nonneg (by omega)]
  rfl
theorem msg_size (s0 : Ses) (k : Nat) (x : ByteArray) : (msgOf s0 k x).text.size = x.size + 28 := sealP_size _ _
/-- What the last loop keeps in memory. -/
structure DEnv (w0 wx : World) (gT gF gG g9 : Nat) (TC FC : Array Value) (G : List Bool) (s0 : Ses) (l : List ByteArray) (n : Nat) : Prop where
  t : Blk wx gT 32 TC
  f : Blk wx gF 32 FC
  fl : FlagsAt wx gG G
  se : SentAt wx g9 s0 l n
  bel : Below w0.heap.size w0 wx
theorem DEnv.below {w0 wx wy : World} {gT gF gG g9 : Nat} {TC FC : Array Value} {G : List Bool} {s0 : Ses} {l : List ByteArray} {n : Nat} (h : DEnv w0 wx gT gF gG g9 TC FC G s0 l n) (hB : Below wx.heap.size wx wy) : DEnv w0 wy gT gF gG g9 TC FC G s0 l n :=
  ⟨h.t.below hB h.t.lt, h.f.below hB h.f.lt, Blk.below h.fl hB (Blk.lt h.fl), h.se.below hB, h.bel.trans (hB.mono h.bel.size)⟩
theorem DEnv.next {w0 wx : World} {gT gF gG g9 : Nat} {TC FC : Array Value} {G : List Bool} {s0 : Ses} {l : List ByteArray} {n : Nat} (h : DEnv w0 wx gT gF gG g9 TC FC G s0 l n) (k : Nat) (b : Bool) (h1 : gG ≠ gT) (h2 : gG ≠ gF) (h3 : gG ≠ g9) (h4 : w0.heap.size ≤ gG) : DEnv w0 (wx.setCell ⟨gG, k, none⟩ (.bool b)) gT gF gG g9 TC FC (G.set k b) s0 l n :=
  ⟨h.t.other (a := ⟨gG, k, none⟩) (fun e => h1 e.symm) _, h.f.other (a := ⟨gG, k, none⟩) (fun e => h2 e.symm) _, h.fl.set_ k b, h.se.other ⟨gG, k, none⟩ _ h3, h.bel.setCell (p := ⟨gG, k, none⟩) h4 _⟩
end Go.Proofs.YtbhagfdkipgggaaDoor
