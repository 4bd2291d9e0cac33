/-
  Layer 22 (memory), plain: what a flush and a cut leave in each sector; what a worn sector keeps.
-/
import Derived.Test.YtgieiehpnjhkoaaMemA2
namespace Go.Proofs.Ytgieiehpnjhkoaa

theorem idxs_mem {p : Sec → Bool} {M : List Sec} {j : Nat} : j ∈ idxs p M ↔ ∃ s, M[j]? = some s ∧ p s = true := by
  refine ⟨idxs_at, fun ⟨s, h1, h2⟩ => ?_⟩
  unfold idxs upto
  rw [List.mem_filter, List.mem_range]
  exact ⟨(List.getElem?_eq_some_iff.1 h1).1, by simp [h1, h2]⟩

theorem doneM_get (cnt : Nat → Nat) (M : List Sec) : ∀ (n : Nat) (pre : List Nat), pre.length = n → pre.Nodup → ∀ j s, j ∈ pre → M[j]? = some s → ∃ i, (doneM cnt M pre)[j]? = some (s.settle (cnt i))
  | 0, pre, hl, _, j, s, hj, _ => by rw [List.eq_nil_of_length_eq_zero hl] at hj; cases hj
  | n + 1, pre, hl, hn, j, s, hj, hs => by
    have hne : pre ≠ [] := by intro e; rw [e] at hl; simp at hl
    rw [← List.dropLast_concat_getLast hne] at hj hn ⊢
    rw [doneM_snoc]
    by_cases hjl : j = pre.getLast hne
    · subst hjl
      refine ⟨pre.dropLast.length, ?_⟩
      rw [List.getElem?_set_self (by rw [doneM_len]; exact (List.getElem?_eq_some_iff.1 hs).1), List.getD, hs]
      rfl
    · have hj' : j ∈ pre.dropLast := by
        rcases List.mem_append.1 hj with h | h
        · exact h
        · exact absurd (by simpa using h) hjl
      rw [List.getElem?_set_ne (fun e => hjl e.symm)]
      exact doneM_get cnt M n _ (by simp [hl]) (List.nodup_append.1 hn).1 j s hj' hs

/-- A sector behind a flush. -/
def Sec.flushed (s : Sec) : Sec := if s.dirty then ⟨s.fresh, s.now, ⟨#[]⟩, false, s.worn⟩ else s
theorem extract_all {t : ByteArray} (h : t.size = 64) : t.extract 0 64 = t := by
  rw [← h]; exact ByteArray.extract_zero_size
theorem flush_get {M : List Sec} (hf : Fine M) {j : Nat} {s : Sec} (hs : M[j]? = some s) : (doneM (fun _ => 64) M (idxs Sec.dirty M))[j]? = some s.flushed := by
  unfold Sec.flushed
  by_cases hd : s.dirty = true
  · rw [if_pos hd]
    obtain ⟨i, hi⟩ := doneM_get (fun _ => 64) M _ (idxs Sec.dirty M) rfl (upto_nodup _ _) j s (idxs_mem.2 ⟨s, hs, hd⟩) hs
    rw [hi]
    obtain ⟨h1, h2, h3⟩ := hf s (List.mem_of_getElem? hs)
    have h4 := h3 hd
    obtain ⟨now, before, fresh, dirty, worn⟩ := s
    dsimp only at h1 h4 ⊢
    rw [settle_full h1, extract_all h4]
  · rw [if_neg hd, doneM_at _ _ _ _ (fun i hi e => by
      obtain ⟨s', h1, h2⟩ := idxs_mem.1 hi
      rw [e, hs] at h1
      cases h1
      exact hd h2), hs]
theorem flush_map {M : List Sec} (hf : Fine M) : doneM (fun _ => 64) M (idxs Sec.dirty M) = M.map Sec.flushed := by
  apply List.ext_getElem?
  intro j
  rw [List.getElem?_map]
  cases hs : M[j]? with
  | none => rw [List.getElem?_eq_none (by rw [doneM_len]; exact List.getElem?_eq_none_iff.1 hs)]; rfl
  | some s => exact flush_get hf hs
theorem flushed_clean (s : Sec) : s.flushed.dirty = false := by
  unfold Sec.flushed
  split
  · rfl
  · rename_i h; simpa using h
theorem map_clean (M : List Sec) : ∀ s ∈ M.map Sec.flushed, s.dirty = false := by
  intro s hs
  obtain ⟨x, _, rfl⟩ := List.mem_map.1 hs
  exact flushed_clean x
/-- A sector behind a cut. -/
theorem cut_get {M : List Sec} (P : List Int) {j : Nat} {s : Sec} (hs : M[j]? = some s) : (s.dirty = false ∧ (doneM (pick P) M (idxs Sec.dirty M))[j]? = some s) ∨ (s.dirty = true ∧ ∃ n, n ≤ 64 ∧ (doneM (pick P) M (idxs Sec.dirty M))[j]? = some (s.settle n)) := by
  by_cases hd : s.dirty = true
  · obtain ⟨i, hi⟩ := doneM_get (pick P) M _ (idxs Sec.dirty M) rfl (upto_nodup _ _) j s (idxs_mem.2 ⟨s, hs, hd⟩) hs
    exact .inr ⟨hd, _, pick_le P i, hi⟩
  · refine .inl ⟨by simpa using hd, ?_⟩
    rw [doneM_at _ _ _ _ (fun i hi e => by
      obtain ⟨s', h1, h2⟩ := idxs_mem.1 hi
      rw [e, hs] at h1
      cases h1
      exact hd h2), hs]
theorem cut_none {M : List Sec} (P : List Int) (h : ∀ s ∈ M, s.dirty = false) : doneM (pick P) M (idxs Sec.dirty M) = M := by
  rw [idxs_none h, doneM_nil]
theorem settle_clean (s : Sec) (n : Nat) : (s.settle n).dirty = false := by unfold Sec.settle; split <;> rfl

/-- A worn sector that is not dirty keeps its content through writes, flushes and cuts. -/
theorem step_keeps {o : PlainOp} {s : St} {j : Nat} {x : Sec} (hx : s.M[j]? = some x) (hw : x.worn = true) (hd : x.dirty = false) (hk : o.kind = 1 ∨ o.kind = 2 ∨ o.kind = 3) : (step o s).2.M[j]? = some x := by
  have hnot : ∀ i ∈ idxs Sec.dirty s.M, i ≠ j := fun i hi e => by
    obtain ⟨s', h1, h2⟩ := idxs_mem.1 hi
    rw [e, hx] at h1
    cases h1
    rw [hd] at h2
    cases h2
  unfold step
  rcases hk with h | h | h
  · rw [if_pos h]
    dsimp only
    split
    · rename_i hi
      unfold upd
      by_cases hj : o.i.toNat = j
      · rw [hj, List.getElem?_set_self (List.getElem?_eq_some_iff.1 hx).1, List.getD, hx]
        show some (x.write _) = some x
        unfold Sec.write
        rw [if_pos hw]
      · rw [List.getElem?_set_ne hj, hx]
    · exact hx
  · rw [if_neg (by omega), if_pos h]
    dsimp only
    rw [doneM_at _ _ _ _ hnot, hx]
  · rw [if_neg (by omega), if_neg (by omega), if_pos h]
    dsimp only
    rw [doneM_at _ _ _ _ hnot, hx]
end Go.Proofs.Ytgieiehpnjhkoaa
