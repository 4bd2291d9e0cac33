/-
  Layer 23 (device), plain: what a cut leaves in each sector; torn contents.
-/
import Derived.Test.YtcifkahmeimniaaDevT3
namespace Go.Proofs.Ytcifkahmeimniaa
open Go.RowKit

theorem idxs_none {p : Sec → Bool} {M : List Sec} (h : ∀ s ∈ M, p s = false) : idxs p M = [] := by
  unfold idxs upto
  rw [List.filter_eq_nil_iff]
  intro i hi
  have hi' : i < M.length := by simpa using hi
  have := h _ (List.getElem_mem hi')
  simp [List.getElem?_eq_getElem hi', this]
theorem idxs_mem {p : Sec → Bool} {M : List Sec} {j : Nat} : j ∈ idxs p M ↔ ∃ s, M[j]? = some s ∧ p s = true := by
  refine ⟨idxs_at, fun ⟨s, h1, h2⟩ => ?_⟩
  unfold idxs upto
  rw [List.mem_filter, List.mem_range]
  exact ⟨(List.getElem?_eq_some_iff.1 h1).1, by simp [h1, h2]⟩

theorem doneM_get (cnt : Nat → Nat) (M : List Sec) : ∀ (n : Nat) (pre : List Nat), pre.length = n → pre.Nodup → ∀ j s, j ∈ pre → M[j]? = some s → ∃ i, (doneM cnt M pre)[j]? = some (s.settle (cnt i))
  | 0, pre, hl, _, j, s, hj, _ => by rw [List.eq_nil_of_length_eq_zero hl] at hj; cases hj
  | n + 1, pre, hl, hn, j, s, hj, hs => by
    have hne : pre ≠ [] := by intro e; rw [e] at hl; simp at hl
    rw [← List.dropLast_concat_getLast hne] at hj hn ⊢
    rw [doneM_snoc]
    by_cases hjl : j = pre.getLast hne
    · subst hjl
      refine ⟨pre.dropLast.length, ?_⟩
      rw [List.getElem?_set_self (by rw [doneM_len]; exact (List.getElem?_eq_some_iff.1 hs).1), List.getD, hs]
      rfl
    · have hj' : j ∈ pre.dropLast := by
        rcases List.mem_append.1 hj with h | h
        · exact h
        · exact absurd (by simpa using h) hjl
      rw [List.getElem?_set_ne (fun e => hjl e.symm)]
      exact doneM_get cnt M n _ (by simp [hl]) (List.nodup_append.1 hn).1 j s hj' hs

/-- A sector behind a flush. -/
def Sec.flushed (s : Sec) : Sec := if s.dirty then ⟨s.fresh, s.now, ⟨#[]⟩, false, s.worn⟩ else s
theorem extract_all {t : ByteArray} (h : t.size = 64) : t.extract 0 64 = t := by
  rw [← h]; exact ByteArray.extract_zero_size
theorem flush_get {M : List Sec} (hf : Fine M) {j : Nat} {s : Sec} (hs : M[j]? = some s) : (doneM (fun _ => 64) M (idxs Sec.dirty M))[j]? = some s.flushed := by
  unfold Sec.flushed
  by_cases hd : s.dirty = true
  · rw [if_pos hd]
    obtain ⟨i, hi⟩ := doneM_get (fun _ => 64) M _ (idxs Sec.dirty M) rfl (upto_nodup _ _) j s (idxs_mem.2 ⟨s, hs, hd⟩) hs
    rw [hi]
    obtain ⟨h1, h2, h3⟩ := hf s (List.mem_of_getElem? hs)
    have h4 := h3 hd
    obtain ⟨now, before, fresh, dirty, worn⟩ := s
    dsimp only at h1 h4 ⊢
    rw [settle_full h1, extract_all h4]
  · rw [if_neg hd, doneM_at _ _ _ _ (fun i hi e => by
      obtain ⟨s', h1, h2⟩ := idxs_mem.1 hi
      rw [e, hs] at h1
      cases h1
      exact hd h2), hs]
theorem flush_map {M : List Sec} (hf : Fine M) : doneM (fun _ => 64) M (idxs Sec.dirty M) = M.map Sec.flushed := by
  apply List.ext_getElem?
  intro j
  rw [List.getElem?_map]
  cases hs : M[j]? with
  | none => rw [List.getElem?_eq_none (by rw [doneM_len]; exact List.getElem?_eq_none_iff.1 hs)]; rfl
  | some s => exact flush_get hf hs
theorem flushed_clean (s : Sec) : s.flushed.dirty = false := by
  unfold Sec.flushed
  split
  · rfl
  · rename_i h; simpa using h
theorem map_clean (M : List Sec) : ∀ s ∈ M.map Sec.flushed, s.dirty = false := by
  intro s hs
  obtain ⟨x, _, rfl⟩ := List.mem_map.1 hs
  exact flushed_clean x
/-- A sector behind a cut. -/
theorem cut_get {M : List Sec} (P : List Int) {j : Nat} {s : Sec} (hs : M[j]? = some s) : (s.dirty = false ∧ (doneM (pick P) M (idxs Sec.dirty M))[j]? = some s) ∨ (s.dirty = true ∧ ∃ n, n ≤ 64 ∧ (doneM (pick P) M (idxs Sec.dirty M))[j]? = some (s.settle n)) := by
  by_cases hd : s.dirty = true
  · obtain ⟨i, hi⟩ := doneM_get (pick P) M _ (idxs Sec.dirty M) rfl (upto_nodup _ _) j s (idxs_mem.2 ⟨s, hs, hd⟩) hs
    exact .inr ⟨hd, _, pick_le P i, hi⟩
  · refine .inl ⟨by simpa using hd, ?_⟩
    rw [doneM_at _ _ _ _ (fun i hi e => by
      obtain ⟨s', h1, h2⟩ := idxs_mem.1 hi
      rw [e, hs] at h1
      cases h1
      exact hd h2), hs]
theorem cut_none {M : List Sec} (P : List Int) (h : ∀ s ∈ M, s.dirty = false) : doneM (pick P) M (idxs Sec.dirty M) = M := by
  rw [idxs_none h, doneM_nil]
theorem settle_clean (s : Sec) (n : Nat) : (s.settle n).dirty = false := by unfold Sec.settle; split <;> rfl

/-- A text's bytes. -/
def toL (t : ByteArray) : List UInt8 := t.data.toList
theorem toL_len (t : ByteArray) : (toL t).length = t.size := by simp [toL]
theorem toL_inj {a b : ByteArray} (h : toL a = toL b) : a = b := by
  obtain ⟨a⟩ := a
  obtain ⟨b⟩ := b
  unfold toL at h
  dsimp only at h
  rw [Array.ext' h]
theorem toL_extract (t : ByteArray) (i j : Nat) : toL (t.extract i j) = ((toL t).drop i).take (j - i) := by
  unfold toL
  rw [ByteArray.data_extract, Array.toList_extract, List.extract_eq_take_drop]
theorem toL_append (a b : ByteArray) : toL (a ++ b) = toL a ++ toL b := by
  unfold toL
  rw [ByteArray.data_append, Array.toList_append]

theorem idx_at (t : ByteArray) {j : Nat} (h : j < t.size) : ∃ b : UInt8, (toL t)[j]? = some b ∧ ∀ w, (Instr.index 9 (.string t) (.int .i64 j)).run Try.prog w = .ok (.int .u8 b.toNat) w := by
  refine ⟨t[j], ?_, fun w => ?_⟩
  · unfold toL
    rw [Array.getElem?_toList, Array.getElem?_eq_getElem h]
    rfl
  · rw [run_index_string w 9 t .i64 j Try.underlying9, dif_pos ⟨by omega, by omega⟩]
    rfl
/-- Old, new and torn contents. -/
structure Torn (old fresh now : ByteArray) (m : Nat) : Prop where
  sold : old.size = 64
  sfresh : fresh.size = 64
  snow : now.size = 64
  le : m ≤ 64
  low : ∀ i, i < m → (toL now)[i]? = (toL fresh)[i]?
  high : ∀ i, m ≤ i → (toL now)[i]? = (toL old)[i]?

theorem Torn.tail {old fresh now : ByteArray} {m a : Nat} (h : Torn old fresh now m) (ha : m ≤ a) (j : Nat) : now.extract a j = old.extract a j := by
  apply toL_inj
  rw [toL_extract, toL_extract]
  congr 1
  apply List.ext_getElem?
  intro i
  rw [List.getElem?_drop, List.getElem?_drop]
  exact h.high _ (by omega)

theorem tear_plain {M : List Sec} (hf : Fine M) (P : List Int) {k : Nat} {x : Sec} (hx : M[k]? = some x) :
    ∃ y m, (doneM (pick P) M (idxs Sec.dirty M))[k]? = some y ∧ Torn x.now x.seen y.now m ∧ (x.dirty = false → y.now = x.now ∧ x.seen = x.now) := by
  obtain ⟨h1, h2, h3⟩ := hf x (List.mem_of_getElem? hx)
  rcases cut_get P hx with ⟨hd, hy⟩ | ⟨hd, n, hn, hy⟩
  · have hs : x.seen = x.now := by unfold Sec.seen; rw [hd]; rfl
    exact ⟨x, 0, hy, ⟨h1, by rw [hs]; exact h1, h1, by omega, fun i hi => by omega, fun _ _ => rfl⟩, fun _ => ⟨rfl, hs⟩⟩
  · have h4 := h3 hd
    have hs : x.seen = x.fresh := by unfold Sec.seen; rw [hd]; rfl
    refine ⟨_, n, hy, ?_, fun e => by rw [hd] at e; cases e⟩
    rcases Nat.eq_zero_or_pos n with rfl | hp
    · have : (x.settle 0).now = x.now := by unfold Sec.settle; rfl
      rw [this]
      exact ⟨h1, by rw [hs]; exact h4, h1, by omega, fun i hi => by omega, fun _ _ => rfl⟩
    · have e : (x.settle n).now = x.fresh.extract 0 n ++ x.now.extract n x.now.size := by unfold Sec.settle; rw [if_pos hp]
      have el : toL (x.settle n).now = (toL x.fresh).take n ++ (toL x.now).drop n := by
        rw [e, toL_append, toL_extract, toL_extract, h1, Nat.sub_zero, List.drop_zero]
        congr 1
        rw [List.take_of_length_le]
        rw [List.length_drop, toL_len, h1]
        exact Nat.le_refl _
      have l1 : ((toL x.fresh).take n).length = n := by rw [List.length_take, toL_len, h4]; omega
      refine ⟨h1, by rw [hs]; exact h4, ?_, hn, fun i hi => ?_, fun i hi => ?_⟩
      · rw [← toL_len, el, List.length_append, l1, List.length_drop, toL_len, h1]
        omega
      · rw [el, List.getElem?_append_left (by omega), List.getElem?_take_of_lt hi, hs]
      · rw [el, List.getElem?_append_right (by omega), l1, List.getElem?_drop]
        congr 1
        omega
theorem cut_clean {M : List Sec} (P : List Int) : idxs Sec.dirty (doneM (pick P) M (idxs Sec.dirty M)) = [] := by
  apply idxs_none
  intro s hs
  obtain ⟨k, hk⟩ := List.mem_iff_getElem?.1 hs
  have hkl : k < M.length := by have := (List.getElem?_eq_some_iff.1 hk).1; rw [doneM_len] at this; exact this
  rcases cut_get P (List.getElem?_eq_getElem hkl) with ⟨hd, hy⟩ | ⟨hd, n, hn, hy⟩
  · rw [hy] at hk; cases hk; exact hd
  · rw [hy] at hk; cases hk; exact settle_clean _ _
end Go.Proofs.Ytcifkahmeimniaa
