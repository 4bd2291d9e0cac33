/-
  Layer 23 (device): what keeps contents of 64 bytes.
-/
import Derived.Test.YtcifkahmeimniaaDevT1
namespace Go.Proofs.Ytcifkahmeimniaa
open Go.RowKit Go.Shelf

theorem settle_none {now before fresh : ByteArray} {dirty worn : Bool} : Sec.settle ⟨now, before, fresh, dirty, worn⟩ 0 = ⟨now, before, ⟨#[]⟩, false, worn⟩ := by
  unfold Sec.settle; rw [if_neg (by omega)]
theorem settle_some {now before fresh : ByteArray} {dirty worn : Bool} {n : Nat} (h : 0 < n) (hz : now.size = 64) : Sec.settle ⟨now, before, fresh, dirty, worn⟩ n = ⟨fresh.extract 0 n ++ now.extract n 64, now, ⟨#[]⟩, false, worn⟩ := by
  unfold Sec.settle; rw [if_pos h]; simp only; rw [hz]
theorem settle_full {now before fresh : ByteArray} {dirty worn : Bool} (h : now.size = 64) : Sec.settle ⟨now, before, fresh, dirty, worn⟩ 64 = ⟨fresh.extract 0 64, now, ⟨#[]⟩, false, worn⟩ := by
  unfold Sec.settle
  rw [if_pos (by omega)]
  have e : now.extract 64 now.size = ⟨#[]⟩ := by
    rw [h]
    apply ByteArray.ext
    simp []
  have e2 : fresh.extract 0 64 ++ (⟨#[]⟩ : ByteArray) = fresh.extract 0 64 := by
    apply ByteArray.ext
    simp [ByteArray.data_append]
  simp only
  rw [e, e2]
theorem idxs_at {p : Sec → Bool} {M : List Sec} {i : Nat} (h : i ∈ idxs p M) : ∃ s, M[i]? = some s ∧ p s = true := by
  unfold idxs at h
  generalize hn : M.length = n at h
  have : ∀ n, i ∈ upto (fun i => ((M[i]?).map p).getD false) n → ((M[i]?).map p).getD false = true := by
    intro n
    induction n with
    | zero => intro h; simp [upto_zero] at h
    | succ n ih =>
      intro h
      cases hb : ((M[n]?).map p).getD false
      · rw [upto_no _ n hb] at h; exact ih h
      · rw [upto_yes _ n hb] at h
        rcases List.mem_append.1 h with h | h
        · exact ih h
        · simp at h; rw [h]; exact hb
  have h2 := this n h
  cases hs : M[i]? with
  | none => rw [hs] at h2; simp at h2
  | some s => rw [hs] at h2; exact ⟨s, rfl, by simpa using h2⟩
theorem upto_nodup (P0 : Nat → Bool) : ∀ n, (upto P0 n).Nodup
  | 0 => by simp [upto_zero]
  | n + 1 => by
    cases hb : P0 n
    · rw [upto_no P0 n hb]; exact upto_nodup P0 n
    · rw [upto_yes P0 n hb, List.nodup_append]
      refine ⟨upto_nodup P0 n, by simp, ?_⟩
      intro a ha c hc e
      simp at hc; subst hc; subst e
      exact absurd (upto_lt P0 _ _ ha) (by omega)
/-- A sector with contents of 64 bytes. -/
def Sec.fine (s : Sec) : Prop := s.now.size = 64 ∧ s.before.size = 64 ∧ (s.dirty = true → s.fresh.size = 64)
theorem fine_set {M : List Sec} (h : Fine M) {i : Nat} {s : Sec} (hs : s.fine) : Fine (M.set i s) := by
  intro x hx
  rcases List.mem_or_eq_of_mem_set hx with h1 | rfl
  · exact h x h1
  · exact hs
theorem fine_upd {M : List Sec} (h : Fine M) {f : Sec → Sec} (hf : ∀ s : Sec, s.fine → (f s).fine) {i : Int} (hi : isAt M i) : Fine (upd f M i) := by
  obtain ⟨k, s, rfl, hs, hu⟩ := isAt_get hi
  rw [hu]
  exact fine_set h (hf s (h s (List.mem_of_getElem? hs)))
theorem fine_settle {s : Sec} (h : s.fine) (hd : s.dirty = true) {n : Nat} (hn : n ≤ 64) : (s.settle n).fine := by
  obtain ⟨now, before, fresh, dirty, worn⟩ := s
  obtain ⟨h1, h2, h3⟩ := h
  have h4 := h3 hd
  dsimp only at h1 h2 h4
  rcases Nat.eq_zero_or_pos n with rfl | hp
  · rw [settle_none]; exact ⟨h1, h2, fun e => by cases e⟩
  · rw [settle_some hp h1]
    refine ⟨?_, h1, fun e => by cases e⟩
    show (fresh.extract 0 n ++ now.extract n 64).size = 64
    rw [ByteArray.size_append, ByteArray.size_extract, ByteArray.size_extract, h1, h4]
    omega
theorem fine_doneM {M : List Sec} (h : Fine M) (cnt : Nat → Nat) (hc : ∀ j, cnt j ≤ 64) : ∀ (n : Nat) (pre : List Nat), pre.length = n → (∀ i ∈ pre, ∃ s, M[i]? = some s ∧ s.dirty = true) → Fine (doneM cnt M pre)
  | 0, pre, hl, _ => by rw [List.eq_nil_of_length_eq_zero hl, doneM_nil]; exact h
  | n + 1, pre, hl, hp => by
    have hne : pre ≠ [] := by intro e; rw [e] at hl; simp at hl
    rw [← List.dropLast_concat_getLast hne, doneM_snoc]
    obtain ⟨s, hs, hd⟩ := hp _ (List.getLast_mem hne)
    refine fine_set (fine_doneM h cnt hc n _ (by simp [hl]) (fun i hi => hp i (List.dropLast_subset _ hi))) ?_
    rw [List.getD, hs]
    exact fine_settle (h s (List.mem_of_getElem? hs)) hd (hc _)
theorem fine_load {M : List Sec} {I : List ByteArray} (h : wrongs I = false) : Fine (loadM I M) := by
  intro s hs
  unfold loadM at hs
  obtain ⟨k, hk⟩ := List.mem_iff_getElem?.1 hs
  rw [List.getElem?_zipWith] at hk
  cases ht : I[k]? with
  | none => rw [ht] at hk; simp at hk
  | some t =>
    cases hm : M[k]? with
    | none => rw [ht, hm] at hk; simp at hk
    | some m =>
      rw [ht, hm] at hk
      simp at hk
      subst hk
      have h64 : t.size = 64 := by
        unfold wrongs at h
        rw [List.any_eq_false] at h
        have := h t (List.mem_of_getElem? ht)
        simp at this
        omega
      exact ⟨h64, h64, fun e => by cases e⟩

theorem upd_len (f : Sec → Sec) (M : List Sec) (i : Int) : (upd f M i).length = M.length := by simp [upd]
end Go.Proofs.Ytcifkahmeimniaa
