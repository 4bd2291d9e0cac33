/-
  Layer 22 (memory): a script's step in plain words, and what it keeps.
-/
import Derived.Test.YtgieiehpnjhkoaaMemT2
namespace Go.Proofs.Ytgieiehpnjhkoaa

structure PlainOp where
  kind : Int
  i : Int
  fill : Nat
  size : Int
  picks : List Int
structure St where
  M : List Sec
  imgs : List (List ByteArray)

/-- The image that a load takes. -/
def St.img (s : St) (i : Int) : List ByteArray := if 0 ≤ i ∧ i < s.imgs.length then s.imgs.getD i.toNat [] else []
/-- One operation: the error's number, the new state. -/
def step (o : PlainOp) (s : St) : Int × St :=
  if o.kind = 1 then (if isAt s.M o.i ∧ (textOf o.fill o.size).size = 64 then 0 else 1, { s with M := if isAt s.M o.i ∧ (textOf o.fill o.size).size = 64 then upd (fun x => x.write (textOf o.fill o.size)) s.M o.i else s.M })
  else if o.kind = 2 then (0, { s with M := doneM (fun _ => 64) s.M (idxs Sec.dirty s.M) })
  else if o.kind = 3 then (0, { s with M := doneM (pick o.picks) s.M (idxs Sec.dirty s.M) })
  else if o.kind = 4 then (if isAt s.M o.i then 0 else 1, { s with M := if isAt s.M o.i then upd Sec.stale s.M o.i else s.M })
  else if o.kind = 5 then (if isAt s.M o.i then 0 else 1, { s with M := if isAt s.M o.i then upd Sec.wear s.M o.i else s.M })
  else if o.kind = 6 then (if loadErr (s.img o.i) s.M then 1 else 0, { s with M := if loadErr (s.img o.i) s.M then s.M else loadM (s.img o.i) s.M })
  else if o.kind = 7 then (0, { s with imgs := s.imgs ++ [s.M.map Sec.now] })
  else (0, s)

/-- A sector with contents of 64 bytes. -/
def Sec.fine (s : Sec) : Prop := s.now.size = 64 ∧ s.before.size = 64 ∧ (s.dirty = true → s.fresh.size = 64)
theorem fine_set {M : List Sec} (h : Fine M) {i : Nat} {s : Sec} (hs : s.fine) : Fine (M.set i s) := by
  intro x hx
  rcases List.mem_or_eq_of_mem_set hx with h1 | rfl
  · exact h x h1
  · exact hs
theorem fine_upd {M : List Sec} (h : Fine M) {f : Sec → Sec} (hf : ∀ s : Sec, s.fine → (f s).fine) {i : Int} (hi : isAt M i) : Fine (upd f M i) := by
  obtain ⟨k, s, rfl, hs, hu⟩ := isAt_get hi
  rw [hu]
  exact fine_set h (hf s (h s (List.mem_of_getElem? hs)))
theorem fine_settle {s : Sec} (h : s.fine) (hd : s.dirty = true) {n : Nat} (hn : n ≤ 64) : (s.settle n).fine := by
  obtain ⟨now, before, fresh, dirty, worn⟩ := s
  obtain ⟨h1, h2, h3⟩ := h
  have h4 := h3 hd
  dsimp only at h1 h2 h4
  rcases Nat.eq_zero_or_pos n with rfl | hp
  · rw [settle_none]; exact ⟨h1, h2, fun e => by cases e⟩
  · rw [settle_some hp h1]
    refine ⟨?_, h1, fun e => by cases e⟩
    show (fresh.extract 0 n ++ now.extract n 64).size = 64
    rw [ByteArray.size_append, ByteArray.size_extract, ByteArray.size_extract, h1, h4]
    omega
theorem fine_doneM {M : List Sec} (h : Fine M) (cnt : Nat → Nat) (hc : ∀ j, cnt j ≤ 64) : ∀ (n : Nat) (pre : List Nat), pre.length = n → (∀ i ∈ pre, ∃ s, M[i]? = some s ∧ s.dirty = true) → Fine (doneM cnt M pre)
  | 0, pre, hl, _ => by rw [List.eq_nil_of_length_eq_zero hl, doneM_nil]; exact h
  | n + 1, pre, hl, hp => by
    have hne : pre ≠ [] := by intro e; rw [e] at hl; simp at hl
    rw [← List.dropLast_concat_getLast hne, doneM_snoc]
    obtain ⟨s, hs, hd⟩ := hp _ (List.getLast_mem hne)
    refine fine_set (fine_doneM h cnt hc n _ (by simp [hl]) (fun i hi => hp i (List.dropLast_subset _ hi))) ?_
    rw [List.getD, hs]
    exact fine_settle (h s (List.mem_of_getElem? hs)) hd (hc _)
theorem fine_load {M : List Sec} {I : List ByteArray} (h : wrongs I = false) : Fine (loadM I M) := by
  intro s hs
  unfold loadM at hs
  obtain ⟨k, hk⟩ := List.mem_iff_getElem?.1 hs
  rw [List.getElem?_zipWith] at hk
  cases ht : I[k]? with
  | none => rw [ht] at hk; simp at hk
  | some t =>
    cases hm : M[k]? with
    | none => rw [ht, hm] at hk; simp at hk
    | some m =>
      rw [ht, hm] at hk
      simp at hk
      subst hk
      have h64 : t.size = 64 := by
        unfold wrongs at h
        rw [List.any_eq_false] at h
        have := h t (List.mem_of_getElem? ht)
        simp at this
        omega
      exact ⟨h64, h64, fun e => by cases e⟩

theorem upd_len (f : Sec → Sec) (M : List Sec) (i : Int) : (upd f M i).length = M.length := by simp [upd]
theorem step_len (o : PlainOp) (s : St) : (step o s).2.M.length = s.M.length := by
  unfold step
  repeat' split
  all_goals try rfl
  all_goals simp only [upd_len, doneM_len]
  rename_i h
  have : loadErr (s.img o.i) s.M = false := by simpa using h
  unfold loadErr at this
  have h2 : ((s.img o.i).length : Int) = s.M.length := by simp at this; exact this.1
  exact loadM_len _ _ (by omega)
theorem step_fine (o : PlainOp) (s : St) (h : Fine s.M) : Fine (step o s).2.M := by
  unfold step
  have hD : ∀ i ∈ idxs Sec.dirty s.M, ∃ x, s.M[i]? = some x ∧ x.dirty = true := fun i hi => idxs_at hi
  repeat' split
  all_goals try exact h
  · rename_i h1
    refine fine_upd (f := fun s => s.write (textOf o.fill o.size)) h (fun x hx => ?_) h1.1
    unfold Sec.write
    split
    · exact hx
    · exact ⟨hx.1, hx.2.1, fun _ => h1.2⟩
  · exact fine_doneM h _ (fun _ => Nat.le_refl _) _ _ rfl hD
  · exact fine_doneM h _ (pick_le _) _ _ rfl hD
  · rename_i h1
    exact fine_upd (f := Sec.stale) h (fun x hx => ⟨hx.2.1, hx.2.1, hx.2.2⟩) h1
  · rename_i h1
    exact fine_upd (f := Sec.wear) h (fun x hx => ⟨hx.1, hx.2.1, hx.2.2⟩) h1
  · rename_i h1
    have : loadErr (s.img o.i) s.M = false := by simpa using h1
    unfold loadErr at this
    exact fine_load (by simp at this; simpa using this.2)
end Go.Proofs.Ytgieiehpnjhkoaa
