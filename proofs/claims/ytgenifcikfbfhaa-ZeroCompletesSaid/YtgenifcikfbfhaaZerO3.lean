/-
  Layer 33 (zero): texts that come in as an argument. (Out of layer 23's text.)
-/
import Derived.Test.YtgenifcikfbfhaaZerR0
import Derived.Test.YtgenifcikfbfhaaDevO1
import Derived.Deep.Slices
namespace Go.Proofs.Ytgenifcikfbfhaa
open Go.ChangeShapes Go.WideShapes Go.ChangeAt Go.RowKit Go.Deep

set_option maxRecDepth 100000 in
theorem open_texts {H : Type} {enc : TypeId × Value → H} {W : World} {base : Nat} {v : Value} {d : DataW H} {ps : List MemPlace} (hv : Value.okWide Try.prog W .any base 31 v)
    (h : DataW.Trod enc Try.prog W 0 (fun _ => true) true 31 v d ps) : ∃ (A : Option Addr) (c b o : Nat) (l : List ByteArray), v = .slice A l.length c ∧ StrAt W A c b o l ∧ b ≤ W.heap.size := by
  obtain ⟨a0, len, cap, rfl⟩ := okWide_slice Try.underlying31 hv
  obtain ⟨fuel, hf⟩ := h
  rcases open_strings Try.underlying31 Try.underlying9 cellsString hf with ⟨hcs, _⟩ | ⟨a, len', cap', ss, hcs, _, hl, hm, hss, _, hat, _⟩
  · simp [Value.cells] at hcs
    obtain ⟨rfl, rfl, rfl⟩ := hcs
    exact ⟨none, 0, 0, 0, [], rfl, ⟨Nat.le_refl _, Nat.zero_le _, fun i t h => by simp at h⟩, Nat.zero_le _⟩
  · simp [Value.cells] at hcs
    obtain ⟨rfl, rfl, rfl⟩ := hcs
    simp only [if_true] at hss
    have hlen : (ss.take len).length = len := by rw [List.length_take]; omega
    by_cases h0 : 0 < len
    · have h00 := hat 0 (by omega)
      have ha0 : a.add 0 = a := by simp [Addr.add]
      rw [ha0] at h00
      obtain ⟨ha, hbl⟩ := cell_spot h00
      rw [ha] at hat ⊢
      refine ⟨_, cap, a.block, a.off, ss.take len, by rw [hlen], ⟨by rw [hlen]; exact hl, hm, fun i t ht => ⟨rfl, hbl, ?_⟩⟩, Nat.le_of_lt hbl⟩
      rw [List.getElem?_take] at ht
      split at ht
      · have hi := (List.getElem?_eq_some_iff.1 ht).1
        have := hat i hi
        rw [Addr.add_lit, List.getD_eq_getElem?_getD, ht] at this
        exact this
      · cases ht
    · refine ⟨some a, cap, 0, 0, ss.take len, by rw [hlen], ⟨by rw [hlen]; exact hl, hm, fun i t ht => ?_⟩, Nat.zero_le _⟩
      have := (List.getElem?_eq_some_iff.1 ht).1
      omega
end Go.Proofs.Ytgenifcikfbfhaa
