/-
  Layer 22 (memory), plain: what a cut tears; a map of truths.
-/
import Derived.Test.YtgieiehpnjhkoaaMemQ1
import Derived.Maps.OwnSet
namespace Go.Proofs.Ytgieiehpnjhkoaa
open Go.Maps Go.RowKit

/-- A text's bytes. -/
def toL (t : ByteArray) : List UInt8 := t.data.toList
theorem toL_len (t : ByteArray) : (toL t).length = t.size := by simp [toL]
theorem toL_inj {a b : ByteArray} (h : toL a = toL b) : a = b := by
  obtain ⟨a⟩ := a
  obtain ⟨b⟩ := b
  unfold toL at h
  dsimp only at h
  rw [Array.ext' h]
theorem toL_extract (t : ByteArray) (i j : Nat) : toL (t.extract i j) = ((toL t).drop i).take (j - i) := by
  unfold toL
  rw [ByteArray.data_extract, Array.toList_extract, List.extract_eq_take_drop]
theorem toL_append (a b : ByteArray) : toL (a ++ b) = toL a ++ toL b := by
  unfold toL
  rw [ByteArray.data_append, Array.toList_append]

theorem idx_at (t : ByteArray) {j : Nat} (h : j < t.size) : ∃ b : UInt8, (toL t)[j]? = some b ∧ ∀ w, (Instr.index 9 (.string t) (.int .i64 j)).run Try.prog w = .ok (.int .u8 b.toNat) w := by
  refine ⟨t[j], ?_, fun w => ?_⟩
  · unfold toL
    rw [Array.getElem?_toList, Array.getElem?_eq_getElem h]
    rfl
  · rw [run_index_string w 9 t .i64 j Try.underlying9, dif_pos ⟨by omega, by omega⟩]
    rfl
/-- Old, new and torn contents. -/
structure Torn (old fresh now : ByteArray) (m : Nat) : Prop where
  sold : old.size = 64
  sfresh : fresh.size = 64
  snow : now.size = 64
  le : m ≤ 64
  low : ∀ i, i < m → (toL now)[i]? = (toL fresh)[i]?
  high : ∀ i, m ≤ i → (toL now)[i]? = (toL old)[i]?

theorem Torn.tail {old fresh now : ByteArray} {m a : Nat} (h : Torn old fresh now m) (ha : m ≤ a) (j : Nat) : now.extract a j = old.extract a j := by
  apply toL_inj
  rw [toL_extract, toL_extract]
  congr 1
  apply List.ext_getElem?
  intro i
  rw [List.getElem?_drop, List.getElem?_drop]
  exact h.high _ (by omega)

theorem tear_plain {M : List Sec} (hf : Fine M) (P : List Int) {k : Nat} {x : Sec} (hx : M[k]? = some x) :
    ∃ y m, (doneM (pick P) M (idxs Sec.dirty M))[k]? = some y ∧ Torn x.now x.seen y.now m ∧ (x.dirty = false → y.now = x.now ∧ x.seen = x.now) := by
  obtain ⟨h1, h2, h3⟩ := hf x (List.mem_of_getElem? hx)
  rcases cut_get P hx with ⟨hd, hy⟩ | ⟨hd, n, hn, hy⟩
  · have hs : x.seen = x.now := by unfold Sec.seen; rw [hd]; rfl
    exact ⟨x, 0, hy, ⟨h1, by rw [hs]; exact h1, h1, by omega, fun i hi => by omega, fun _ _ => rfl⟩, fun _ => ⟨rfl, hs⟩⟩
  · have h4 := h3 hd
    have hs : x.seen = x.fresh := by unfold Sec.seen; rw [hd]; rfl
    refine ⟨_, n, hy, ?_, fun e => by rw [hd] at e; cases e⟩
    rcases Nat.eq_zero_or_pos n with rfl | hp
    · have : (x.settle 0).now = x.now := by unfold Sec.settle; rfl
      rw [this]
      exact ⟨h1, by rw [hs]; exact h4, h1, by omega, fun i hi => by omega, fun _ _ => rfl⟩
    · have e : (x.settle n).now = x.fresh.extract 0 n ++ x.now.extract n x.now.size := by unfold Sec.settle; rw [if_pos hp]
      have el : toL (x.settle n).now = (toL x.fresh).take n ++ (toL x.now).drop n := by
        rw [e, toL_append, toL_extract, toL_extract, h1, Nat.sub_zero, List.drop_zero]
        congr 1
        rw [List.take_of_length_le]
        rw [List.length_drop, toL_len, h1]
        exact Nat.le_refl _
      have l1 : ((toL x.fresh).take n).length = n := by rw [List.length_take, toL_len, h4]; omega
      refine ⟨h1, by rw [hs]; exact h4, ?_, hn, fun i hi => ?_, fun i hi => ?_⟩
      · rw [← toL_len, el, List.length_append, l1, List.length_drop, toL_len, h1]
        omega
      · rw [el, List.getElem?_append_left (by omega), List.getElem?_take_of_lt hi, hs]
      · rw [el, List.getElem?_append_right (by omega), l1, List.getElem?_drop]
        congr 1
        omega
theorem cut_clean {M : List Sec} (P : List Int) : idxs Sec.dirty (doneM (pick P) M (idxs Sec.dirty M)) = [] := by
  apply idxs_none
  intro s hs
  obtain ⟨k, hk⟩ := List.mem_iff_getElem?.1 hs
  have hkl : k < M.length := by have := (List.getElem?_eq_some_iff.1 hk).1; rw [doneM_len] at this; exact this
  rcases cut_get P (List.getElem?_eq_getElem hkl) with ⟨hd, hy⟩ | ⟨hd, n, hn, hy⟩
  · rw [hy] at hk; cases hk; exact hd
  · rw [hy] at hk; cases hk; exact settle_clean _ _
theorem dirty_any {M : List Sec} {k : Nat} {x : Sec} (hx : M[k]? = some x) : ((idxs Sec.dirty M).any fun t => (t : Int) == (k : Int)) = x.dirty := by
  rw [Bool.eq_iff_iff, List.any_eq_true]
  constructor
  · rintro ⟨t, ht, he⟩
    obtain ⟨s, h1, h2⟩ := idxs_mem.1 ht
    have : t = k := by have h : (t : Int) = (k : Int) := by simpa using he
                       omega
    rw [this, hx] at h1
    cases h1
    exact h2
  · intro hd
    exact ⟨k, idxs_mem.2 ⟨x, hx, hd⟩, by simp⟩

/-- A map from numbers to truths, in memory. -/
def BoolMap (w : World) (mb N : Nat) (f : Int → Bool) : Prop :=
  ∃ D : DataW Unit, w.ownsMap Try.prog 3 (plainElem Try.prog 4) mb N D ∧ ∀ k : Int, D.atKey (.int .i64 k) (.lit (.bool false)) = .lit (.bool (f k))

theorem lawInt : Keyed Try.prog 3 := int_keyed Try.underlying3
theorem zeroB (w : World) : (zeroValue 4).run Try.prog w = .ok (.bool false) w := by kernel_rfl
theorem keyI {k : Int} (hk : (Lit.int .i64 k).wf = true) : keyOf Try.prog 3 (.int .i64 k) = some (.int .i64 k) := keyOf_int_mk Try.underlying3 hk
set_option maxRecDepth 100000 in
theorem wf_small {k : Nat} (h : k ≤ 4096) : (Lit.int .i64 (k : Int)).wf = true := by
  simp [Lit.wf, IntKind.min, IntKind.max, IntKind.signed, IntKind.bits]
  omega

set_option maxRecDepth 100000 in
theorem plainElem_bool_inv {v : Value} {x : Bool} {ps : List MemPlace} (h : plainElem (H := Unit) Try.prog 4 v = some (.lit (.bool x), ps)) : v = .bool x := by
  unfold plainElem at h
  rw [Try.underlying4] at h
  match v, h with
  | .bool y, h =>
    have e : y = x ∧ ps = [] := by simpa using h
    rw [e.1]
section
variable {w w' : World} {mb N : Nat} {f : Int → Bool}
theorem BoolMap.look (h : BoolMap w mb N f) {k : Int} (hk : (Lit.int .i64 k).wf = true) : (Instr.lookup 56 (.map (some mb)) (.int .i64 k) false).run Try.prog w = .ok (.bool (f k)) w := by
  obtain ⟨D, h1, h2⟩ := h
  obtain ⟨v, ps, hrun, hv⟩ := h1.lookup lawInt Try.underlying56 (zeroB w) (plainElem_bool Try.underlying4 false) (keyI hk)
  rw [h2] at hv
  have : v = .bool (f k) := by
    exact plainElem_bool_inv hv
  rw [hrun, this]
theorem BoolMap.kept {row : Option Nat} (h : BoolMap w mb N f) (hg : w.grownBy w' row) (hne : some mb ≠ row) : BoolMap w' mb N f := by
  obtain ⟨D, h1, h2⟩ := h
  exact ⟨D, h1.kept hg hne, h2⟩
theorem BoolMap.below (h : BoolMap w mb N f) (hB : Below w.heap.size w w') : BoolMap w' mb N f := h.kept (grown_below hB (Nat.le_refl _) none) (by simp)
theorem BoolMap.lt (h : BoolMap w mb N f) : mb < w.heap.size := by obtain ⟨D, h1, _⟩ := h; exact h1.lt
theorem BoolMap.ne {t : TypeId} {g : Nat} {cs : Array Value} (h : BoolMap w mb N f) (hg : Blk w g t cs) : mb ≠ g := by
  obtain ⟨D, ⟨es, clock, hb, _⟩, _⟩ := h
  intro e
  subst e
  have := hb.symm.trans hg
  simp at this
theorem boolMap_new (w : World) : BoolMap (w.alloc (.map #[] 0)) w.heap.size 0 (fun _ => false) := ⟨.map [], World.ownsMap_made _ _ _ _, fun _ => rfl⟩
end
end Go.Proofs.Ytgieiehpnjhkoaa
