/-
  Layer 23 (device): Store and Burn at every input; Raise.
-/
import Derived.Test.YtcifkahmeimniaaDevW8
import Derived.Test.YtcifkahmeimniaaDevW9
namespace Go.Proofs.Ytcifkahmeimniaa
open Go.RowKit Go.Shelf
attribute [local go_sem] Oper.semAt_some

section
variable {w : World} {d b g sb sc fb fc : Nat} {D : Dev}
theorem dstep_slots (c : Int) (f : Dev → Dev) (hf : ∀ D, (f D).slots.length = D.slots.length) : (D.dstep c f).2.slots.length = D.slots.length := by
  unfold Dev.dstep
  split
  · rfl
  · split
    · rfl
    · split
      · rfl
      · exact hf _
theorem dstep_fuses (c : Int) (f : Dev → Dev) (hf : ∀ D, (f D).fuses.length = D.fuses.length) : (D.dstep c f).2.fuses.length = D.fuses.length := by
  unfold Dev.dstep
  split
  · rfl
  · split
    · rfl
    · split
      · rfl
      · exact hf _
theorem store_step (h : IsDev w d b g sb sc fb fc D) (hr : -1 ≤ D.left ∧ D.left ≤ 9223372036854775807) (bd bi bt : Nat) (i : Int) (t : ByteArray) (k1 : Blk w bd 27 #[.pointer (some ⟨d, 0, none⟩)]) (k2 : Blk w bi 3 #[.int .i64 i]) (k3 : Blk w bt 9 #[.string t]) :
    Calls Try.prog 44 #[.pointer (some ⟨d, 0, none⟩), .int .i64 (chk (inS D.slots i ∧ t.size = 32)), .func (.func 46) #[] #[.pointer (some ⟨bt, 0, none⟩), .pointer (some ⟨bd, 0, none⟩), .pointer (some ⟨bi, 0, none⟩)]] w fun e w' => e = .returned (.int .i64 (D.dstep (chk (inS D.slots i ∧ t.size = 32)) fun D => { D with slots := D.slots.set i.toNat t }).1) ∧
      IsDev w' d b g sb sc fb fc (D.dstep (chk (inS D.slots i ∧ t.size = 32)) fun D => { D with slots := D.slots.set i.toNat t }).2 ∧ DFr w w' d g sb fb := by
  refine step_any h hr _ _ _ eg_store _ (fun hc w2 h2 hg => ?_)
  have hp := of_chk hc
  obtain ⟨n, rfl⟩ := Int.eq_ofNat_of_zero_le hp.1.1
  have n1 := k1.ne_ h.blk (by decide)
  have n2 := k2.ne_ h.blk (by decide)
  have n3 := k3.ne_ h.blk (by decide)
  have hn : n < D.slots.length := by have := hp.1.2; omega
  refine (store1_any h2 bd bi bt n hn t (k1.grown hg (fun e => n1 (by cases e; rfl))) (k2.grown hg (fun e => n2 (by cases e; rfl))) (k3.grown hg (fun e => n3 (by cases e; rfl)))).mono ?_
  rintro e w' ⟨rfl, h3, h4⟩
  exact ⟨rfl, h3, DFr.ofGrown h4 (.inr (.inr (.inl rfl)))⟩
theorem burn_step (h : IsDev w d b g sb sc fb fc D) (hr : -1 ≤ D.left ∧ D.left ≤ 9223372036854775807) (bd bi : Nat) (i : Int) (k1 : Blk w bd 27 #[.pointer (some ⟨d, 0, none⟩)]) (k2 : Blk w bi 3 #[.int .i64 i]) :
    Calls Try.prog 44 #[.pointer (some ⟨d, 0, none⟩), .int .i64 (chk (inS D.fuses i)), .func (.func 47) #[] #[.pointer (some ⟨bd, 0, none⟩), .pointer (some ⟨bi, 0, none⟩)]] w fun e w' => e = .returned (.int .i64 (D.dstep (chk (inS D.fuses i)) fun D => { D with fuses := D.fuses.set i.toNat true }).1) ∧
      IsDev w' d b g sb sc fb fc (D.dstep (chk (inS D.fuses i)) fun D => { D with fuses := D.fuses.set i.toNat true }).2 ∧ DFr w w' d g sb fb := by
  refine step_any h hr _ _ _ eg_burn _ (fun hc w2 h2 hg => ?_)
  have hp := of_chk hc
  obtain ⟨n, rfl⟩ := Int.eq_ofNat_of_zero_le hp.1
  have n1 := k1.ne_ h.blk (by decide)
  have n2 := k2.ne_ h.blk (by decide)
  have hn : n < D.fuses.length := by have := hp.2; omega
  refine (burn1_any h2 bd bi n hn (k1.grown hg (fun e => n1 (by cases e; rfl))) (k2.grown hg (fun e => n2 (by cases e; rfl)))).mono ?_
  rintro e w' ⟨rfl, h3, h4⟩
  exact ⟨rfl, h3, DFr.ofGrown h4 (.inr (.inr (.inr rfl)))⟩
theorem raise_step (h : IsDev w d b g sb sc fb fc D) (hr : -1 ≤ D.left ∧ D.left ≤ 9223372036854775807) (c : Int) (bd bi : Nat) (n : Int) (k1 : Blk w bd 27 #[.pointer (some ⟨d, 0, none⟩)]) (k2 : Blk w bi 3 #[.int .i64 n]) :
    Calls Try.prog 44 #[.pointer (some ⟨d, 0, none⟩), .int .i64 c, .func (.func 48) #[] #[.pointer (some ⟨bi, 0, none⟩), .pointer (some ⟨bd, 0, none⟩)]] w fun e w' => e = .returned (.int .i64 (D.dstep c fun D => { D with counter := n }).1) ∧
      IsDev w' d b g sb sc fb fc (D.dstep c fun D => { D with counter := n }).2 ∧ DFr w w' d g sb fb := by
  refine step_any h hr _ _ _ eg_raise _ (fun hc w2 h2 hg => ?_)
  have n1 := k1.ne_ h.blk (by decide)
  have n2 := k2.ne_ h.blk (by decide)
  refine (raise1_any h2 bd bi n (k1.grown hg (fun e => n1 (by cases e; rfl))) (k2.grown hg (fun e => n2 (by cases e; rfl)))).mono ?_
  rintro e w' ⟨rfl, h3, h4⟩
  exact ⟨rfl, h3, DFr.ofGrown h4 (.inl rfl)⟩
theorem not_inS {α : Type} {l : List α} {i : Int} (h : ¬ inS l i) : i < 0 ∨ (0 ≤ i ∧ (l.length : Int) ≤ i) := by
  unfold inS at h
  omega
theorem dStore_any (h : IsDev w d b g sb sc fb fc D) (hr : -1 ≤ D.left ∧ D.left ≤ 9223372036854775807) (i : Int) (t : ByteArray) :
    Calls Try.prog 26 #[.pointer (some ⟨d, 0, none⟩), .int .i64 i, .string t] w fun e w' => e = .returned (.int .i64 (D.dstep (chk (inS D.slots i ∧ t.size = 32)) fun D => { D with slots := D.slots.set i.toNat t }).1) ∧
      IsDev w' d b g sb sc fb fc (D.dstep (chk (inS D.slots i ∧ t.size = 32)) fun D => { D with slots := D.slots.set i.toNat t }).2 ∧ DFr w w' d g sb fb := by
  have hlen := dstep_slots (D := D) (chk (inS D.slots i ∧ t.size = 32)) (fun D => { D with slots := D.slots.set i.toNat t }) (fun D => by simp)
  by_cases hi : inS D.slots i
  · by_cases ht : t.size = 32
    · refine dStore_in h i t hi ht _ _ hlen fun w2 bd bi bt h2 k1 k2 k3 => ?_
      have := store_step h2 hr bd bi bt i t k1 k2 k3
      rw [chk_pos (⟨hi, ht⟩ : inS D.slots i ∧ t.size = 32)] at this ⊢
      exact this
    · refine dStore_size h i t hi ht _ _ hlen fun w2 bd bi bt h2 k1 k2 k3 => ?_
      have := store_step h2 hr bd bi bt i t k1 k2 k3
      rw [chk_neg (show ¬ (inS D.slots i ∧ t.size = 32) from fun h => ht h.2)] at this ⊢
      exact this
  · rcases not_inS hi with h0 | h0
    · refine dStore_neg h i t h0 _ _ hlen fun w2 bd bi bt h2 k1 k2 k3 => ?_
      have := store_step h2 hr bd bi bt i t k1 k2 k3
      rw [chk_neg (show ¬ (inS D.slots i ∧ t.size = 32) from fun h => hi h.1)] at this ⊢
      exact this
    · refine dStore_beyond h i t h0 _ _ hlen fun w2 bd bi bt h2 k1 k2 k3 => ?_
      have := store_step h2 hr bd bi bt i t k1 k2 k3
      rw [chk_neg (show ¬ (inS D.slots i ∧ t.size = 32) from fun h => hi h.1)] at this ⊢
      exact this
theorem dBurn_any (h : IsDev w d b g sb sc fb fc D) (hr : -1 ≤ D.left ∧ D.left ≤ 9223372036854775807) (i : Int) :
    Calls Try.prog 27 #[.pointer (some ⟨d, 0, none⟩), .int .i64 i] w fun e w' => e = .returned (.int .i64 (D.dstep (chk (inS D.fuses i)) fun D => { D with fuses := D.fuses.set i.toNat true }).1) ∧
      IsDev w' d b g sb sc fb fc (D.dstep (chk (inS D.fuses i)) fun D => { D with fuses := D.fuses.set i.toNat true }).2 ∧ DFr w w' d g sb fb := by
  have hlen := dstep_fuses (D := D) (chk (inS D.fuses i)) (fun D => { D with fuses := D.fuses.set i.toNat true }) (fun D => by simp)
  by_cases hi : inS D.fuses i
  · refine dBurn_in h i hi _ _ hlen fun w2 bd bi h2 k1 k2 => ?_
    have := burn_step h2 hr bd bi i k1 k2
    rw [chk_pos hi] at this ⊢
    exact this
  · rcases not_inS hi with h0 | h0
    · refine dBurn_neg h i h0 _ _ hlen fun w2 bd bi h2 k1 k2 => ?_
      have := burn_step h2 hr bd bi i k1 k2
      rw [chk_neg hi] at this ⊢
      exact this
    · refine dBurn_beyond h i h0 _ _ hlen fun w2 bd bi h2 k1 k2 => ?_
      have := burn_step h2 hr bd bi i k1 k2
      rw [chk_neg hi] at this ⊢
      exact this
end
end Go.Proofs.Ytcifkahmeimniaa
