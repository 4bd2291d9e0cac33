/-
  Layer 23 (device), plain: what holds of a device behind whatever operations; slots; torn sectors.
-/
import Derived.Test.YtcifkahmeimniaaDevP2
namespace Go.Proofs.Ytcifkahmeimniaa

/-- What holds of a device behind whatever operations. -/
structure Dev.Ok (n s f : Nat) (D : Dev) : Prop where
  M : D.M.length = n
  slots : D.slots.length = s
  fuses : D.fuses.length = f
  fine : Fine D.M
  left : -1 ≤ D.left ∧ D.left ≤ 9223372036854775807
  counter : 0 ≤ D.counter ∧ D.counter ≤ 4611686018427387904
  clock : 0 ≤ D.clock ∧ D.clock ≤ 1099511627776

/-- The new device. -/
def freshDev (n s f : Nat) : Dev := ⟨List.replicate s zero32, List.replicate f false, 0, 0, List.replicate n Sec.blank, false, -1⟩
theorem fresh_ok (n s f : Nat) : (freshDev n s f).Ok n s f :=
  ⟨by simp [freshDev], by simp [freshDev], by simp [freshDev], fun x hx => by
    have := List.eq_of_mem_replicate hx
    subst this
    exact ⟨zeros_size, zeros_size, fun e => by cases e⟩, ⟨by show (-1 : Int) ≤ -1; omega, by show (-1 : Int) ≤ _; omega⟩, ⟨Int.le_refl _, by show (0 : Int) ≤ _; omega⟩, ⟨Int.le_refl _, by show (0 : Int) ≤ _; omega⟩⟩

theorem left_next (l : Int) (h : -1 ≤ l ∧ l ≤ 9223372036854775807) : -1 ≤ max (l - 1) (-1) ∧ max (l - 1) (-1) ≤ 9223372036854775807 := by omega

section
variable {n s f : Nat} {D : Dev}
theorem dstep_ok (h : D.Ok n s f) (c : Int) (F : Dev → Dev) (hF : c = 0 → ({ D with left := max (D.left - 1) (-1) } : Dev).Ok n s f → (F { D with left := max (D.left - 1) (-1) }).Ok n s f) : (D.dstep c F).2.Ok n s f := by
  unfold Dev.dstep
  split
  · exact h
  · split
    · exact h
    · rename_i hc
      split
      · exact ⟨h.M, h.slots, h.fuses, h.fine, ⟨by show (-1 : Int) ≤ -1; omega, by show (-1 : Int) ≤ _; omega⟩, h.counter, h.clock⟩
      · exact hF (by omega) ⟨h.M, h.slots, h.fuses, h.fine, left_next _ h.left, h.counter, h.clock⟩
theorem chk_zero {p : Prop} [Decidable p] (h : chk p = 0) : p := by
  unfold chk at h
  split at h
  · assumption
  · omega
theorem fine_upd_write {M : List Sec} (h : Fine M) (t : ByteArray) (i : Int) (hi : isAt M i ∧ t.size = 64) : Fine (upd (fun s => s.write t) M i) := by
  refine fine_upd (f := fun s => s.write t) h (fun x hx => ?_) hi.1
  unfold Sec.write
  split
  · exact hx
  · exact ⟨hx.1, hx.2.1, fun _ => hi.2⟩
theorem dplay_ok (h : D.Ok n s f) (o : DOp) (ha : -9223372036854775808 ≤ o.a ∧ o.a ≤ 9223372036854775807) (img : List ByteArray) : (dplay o D img).2.1.Ok n s f := by
  have hD : ∀ i ∈ idxs Sec.dirty D.M, ∃ x, D.M[i]? = some x ∧ x.dirty = true := fun i hi => idxs_at hi
  unfold dplay
  by_cases k1 : o.kind = 1
  · rw [if_pos k1]; exact h
  rw [if_neg k1]
  by_cases k2 : o.kind = 2
  · rw [if_pos k2]
    refine dstep_ok h _ _ (fun hc h2 => ?_)
    exact ⟨by dsimp only; rw [upd_len]; exact h.M, h.slots, h.fuses, fine_upd_write h.fine _ _ (chk_zero hc), h2.left, h.counter, h.clock⟩
  rw [if_neg k2]
  by_cases k3 : o.kind = 3
  · rw [if_pos k3]
    refine dstep_ok h _ _ (fun hc h2 => ?_)
    exact ⟨by dsimp only; rw [doneM_len]; exact h.M, h.slots, h.fuses, fine_doneM h.fine _ (fun _ => Nat.le_refl _) _ _ rfl hD, h2.left, h.counter, h.clock⟩
  rw [if_neg k3]
  by_cases k4 : o.kind = 4
  · rw [if_pos k4]; exact h
  rw [if_neg k4]
  by_cases k5 : o.kind = 5
  · rw [if_pos k5]
    refine dstep_ok h _ _ (fun hc h2 => ?_)
    exact ⟨h.M, by dsimp only; rw [List.length_set]; exact h.slots, h.fuses, h.fine, h2.left, h.counter, h.clock⟩
  rw [if_neg k5]
  by_cases k6 : o.kind = 6
  · rw [if_pos k6]
    refine dstep_ok h _ _ (fun hc h2 => ?_)
    exact ⟨h.M, h.slots, by dsimp only; rw [List.length_set]; exact h.fuses, h.fine, h2.left, h.counter, h.clock⟩
  rw [if_neg k6]
  by_cases k7 : o.kind = 7
  · rw [if_pos k7]
    refine dstep_ok h _ _ (fun hc h2 => ?_)
    refine ⟨h.M, h.slots, h.fuses, h.fine, h2.left, ?_, h.clock⟩
    by_cases h1 : 0 ≤ o.a ∧ o.a ≤ 4611686018427387904
    · exact h1
    · rw [if_neg h1] at hc; omega
  rw [if_neg k7]
  by_cases k8 : o.kind = 8
  · rw [if_pos k8]
    by_cases hc : o.a < 0 ∨ 1099511627776 - D.clock < o.a
    · rw [if_pos hc]; exact h
    · rw [if_neg hc]
      have := h.clock
      exact ⟨h.M, h.slots, h.fuses, h.fine, h.left, h.counter, by dsimp only; omega⟩
  rw [if_neg k8]
  by_cases k9 : o.kind = 9
  · rw [if_pos k9]; exact ⟨h.M, h.slots, h.fuses, h.fine, by dsimp only; omega, h.counter, h.clock⟩
  rw [if_neg k9]
  by_cases k10 : o.kind = 10
  · rw [if_pos k10]
    exact ⟨by dsimp only; rw [doneM_len]; exact h.M, h.slots, h.fuses, fine_doneM h.fine _ (pick_le _) _ _ rfl hD, ⟨by show (-1 : Int) ≤ -1; omega, by show (-1 : Int) ≤ _; omega⟩, h.counter, h.clock⟩
  rw [if_neg k10]
  by_cases k11 : o.kind = 11
  · rw [if_pos k11]; exact ⟨h.M, by dsimp only; rw [List.length_replicate]; exact h.slots, h.fuses, h.fine, h.left, h.counter, h.clock⟩
  rw [if_neg k11]
  by_cases k12 : o.kind = 12
  · rw [if_pos k12]
    by_cases hi : isAt D.M o.a
    · rw [if_pos hi]
      exact ⟨by dsimp only; rw [upd_len]; exact h.M, h.slots, h.fuses, fine_upd (f := Sec.stale) h.fine (fun x hx => ⟨hx.2.1, hx.2.1, hx.2.2⟩) hi, h.left, h.counter, h.clock⟩
    · rw [if_neg hi]
      exact h
  rw [if_neg k12]
  by_cases k13 : o.kind = 13
  · rw [if_pos k13]
    by_cases hi : isAt D.M o.a
    · rw [if_pos hi]
      exact ⟨by dsimp only; rw [upd_len]; exact h.M, h.slots, h.fuses, fine_upd (f := Sec.wear) h.fine (fun x hx => ⟨hx.1, hx.2.1, hx.2.2⟩) hi, h.left, h.counter, h.clock⟩
    · rw [if_neg hi]
      exact h
  rw [if_neg k13]
  by_cases k14 : o.kind = 14
  · rw [if_pos k14]; exact h
  rw [if_neg k14]
  by_cases k15 : o.kind = 15
  · rw [if_pos k15]
    by_cases hl : loadErr img D.M = true
    · rw [hl]
      exact h
    · have hf : loadErr img D.M = false := by simpa using hl
      rw [hf]
      unfold loadErr at hf
      have h1 : (img.length : Int) = D.M.length := by simp at hf; exact hf.1
      have h2 : wrongs img = false := by simp at hf; simpa using hf.2
      exact ⟨by dsimp only; rw [if_neg (by decide), loadM_len _ _ (by omega)]; exact h.M, h.slots, h.fuses, by dsimp only; rw [if_neg (by decide)]; exact fine_load h2, h.left, h.counter, h.clock⟩
  rw [if_neg k15]
  exact h

/-- The image behind an operation. -/
theorem dplay_img (o : DOp) (img : List ByteArray) : (dplay o D img).2.2 = if o.kind = 14 then D.M.map Sec.now else img := by
  by_cases k : o.kind = 14
  · unfold dplay
    rw [if_pos k]
    simp [k]
  · rw [if_neg k]
    unfold dplay
    rw [if_neg k]
    by_cases k1 : o.kind = 1
    · rw [if_pos k1]
    rw [if_neg k1]
    by_cases k1 : o.kind = 2
    · rw [if_pos k1]; rfl
    rw [if_neg k1]
    by_cases k1 : o.kind = 3
    · rw [if_pos k1]; rfl
    rw [if_neg k1]
    by_cases k1 : o.kind = 4
    · rw [if_pos k1]
    rw [if_neg k1]
    by_cases k1 : o.kind = 5
    · rw [if_pos k1]; rfl
    rw [if_neg k1]
    by_cases k1 : o.kind = 6
    · rw [if_pos k1]; rfl
    rw [if_neg k1]
    by_cases k1 : o.kind = 7
    · rw [if_pos k1]; rfl
    rw [if_neg k1]
    by_cases k1 : o.kind = 8
    · rw [if_pos k1]
      split <;> rfl
    rw [if_neg k1]
    by_cases k1 : o.kind = 9
    · rw [if_pos k1]
    rw [if_neg k1]
    by_cases k1 : o.kind = 10
    · rw [if_pos k1]
    rw [if_neg k1]
    by_cases k1 : o.kind = 11
    · rw [if_pos k1]
    rw [if_neg k1]
    by_cases k1 : o.kind = 12
    · rw [if_pos k1]
    rw [if_neg k1]
    by_cases k1 : o.kind = 13
    · rw [if_pos k1]
    rw [if_neg k1]
    by_cases k1 : o.kind = 15
    · rw [if_pos k1]
    rw [if_neg k1]
end

/-- The device and the image behind a list of operations. -/
def druns : List DOp → Dev × List ByteArray → Dev × List ByteArray
  | [], x => x
  | o :: r, x => druns r (dplay o x.1 x.2).2
theorem druns_snoc : ∀ (l : List DOp) (o : DOp) (x : Dev × List ByteArray), druns (l ++ [o]) x = (dplay o (druns l x).1 (druns l x).2).2
  | [], _, _ => rfl
  | _ :: l, o, _ => druns_snoc l o _
/-- Behind the first k operations. -/
def dUpTo (n s f : Nat) (ops : List DOp) (k : Nat) : Dev × List ByteArray := druns (ops.take k) (freshDev n s f, [])
theorem dUpTo_succ (n s f : Nat) (ops : List DOp) (k : Nat) (o : DOp) (h : ops[k]? = some o) : dUpTo n s f ops (k + 1) = (dplay o (dUpTo n s f ops k).1 (dUpTo n s f ops k).2).2 := by
  unfold dUpTo
  rw [List.take_add_one, h]
  exact druns_snoc _ _ _
/-- Every operation's number is a number of the machine. -/
def OpsIn (ops : List DOp) : Prop := ∀ (i : Nat) (o : DOp), ops[i]? = some o → -9223372036854775808 ≤ o.a ∧ o.a ≤ 9223372036854775807
theorem dUpTo_ok (n s f : Nat) (ops : List DOp) (ho : OpsIn ops) : ∀ k, k ≤ ops.length → (dUpTo n s f ops k).1.Ok n s f ∧ ((dUpTo n s f ops k).2 = [] ∨ (dUpTo n s f ops k).2.length = n)
  | 0, _ => ⟨fresh_ok n s f, .inl rfl⟩
  | k + 1, h => by
    obtain ⟨o, hk⟩ : ∃ o, ops[k]? = some o := ⟨_, List.getElem?_eq_getElem (by omega)⟩
    obtain ⟨h1, h2⟩ := dUpTo_ok n s f ops ho k (by omega)
    rw [dUpTo_succ n s f ops k o hk]
    refine ⟨dplay_ok h1 o (ho k o hk) _, ?_⟩
    rw [dplay_img]
    split
    · exact .inr (by rw [List.length_map]; exact h1.M)
    · exact h2
end Go.Proofs.Ytcifkahmeimniaa
