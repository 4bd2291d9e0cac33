/-
  Layer 12 (parse): the documentation's examples in plain words.
-/
import Derived.Test.YtemhiiignamkjaaDoorNE
import Derived.Test.YtemhiiignamkjaaDoorLexFuel
namespace Go.Proofs.YtemhiiignamkjaaDoor
open LexP ParP

def sn0 : ByteArray := ⟨#[112, 111, 108, 105, 99, 121, 32, 112, 32, 123, 32, 116, 121, 112, 101, 32, 97, 32, 123, 32, 101, 120, 112, 111, 114, 116, 59, 32, 108, 105, 102, 101, 32, 50, 109, 59, 32, 125, 32, 119, 114, 97, 112, 32, 97, 32, 45, 62, 32, 97, 59, 32, 113, 117, 111, 114, 117, 109, 32, 101, 120, 112, 111, 114, 116, 32, 50, 32, 119, 105, 116, 104, 105, 110, 32, 49, 104, 59, 32, 125]⟩
def sn1 : ByteArray := ⟨#[112, 111, 108, 105, 99, 121, 32, 112, 32, 123, 32, 119, 114, 97, 112, 32, 97, 32, 45, 62, 32, 98, 59, 32, 116, 121, 112, 101, 32, 97, 32, 123, 32, 125, 32, 125]⟩
def sn2 : ByteArray := ⟨#[112, 111, 108, 105, 99, 121, 32, 112, 32, 123, 32, 116, 121, 112, 101, 32, 97, 32, 123, 32, 101, 120, 112, 111, 114, 116, 59, 32, 101, 120, 112, 111, 114, 116, 59, 32, 125, 32, 125]⟩
def sn3 : ByteArray := ⟨#[112, 111, 108, 105, 99, 121, 32, 112, 32, 123]⟩
def snP : ByteArray := ⟨#[112, 111, 108, 105, 99, 121, 32, 112, 32, 123, 10, 9, 116, 121, 112, 101, 32, 97, 32, 123, 32, 101, 120, 112, 111, 114, 116, 59, 32, 108, 105, 102, 101, 32, 49, 50, 48, 59, 32, 125, 10, 9, 119, 114, 97, 112, 32, 97, 32, 45, 62, 32, 97, 59, 10, 9, 113, 117, 111, 114, 117, 109, 32, 101, 120, 112, 111, 114, 116, 32, 50, 32, 119, 105, 116, 104, 105, 110, 32, 51, 54, 48, 48, 59, 10, 125, 10]⟩
def polWant : Pol := ⟨⟨#[112]⟩, [⟨⟨#[97]⟩, 4, 120⟩], [⟨1, 0, 0⟩], [⟨3, 2, 0, 3600, 1⟩]⟩
theorem parse_sn0 : parse sn0 = ⟨polWant, 0, 0⟩ := by unfold parse; rw [tokens_fuel _ (by decide)]; kernel_rfl
theorem parse_sn1 : parse sn1 = ⟨noPol, 21, 4⟩ := by unfold parse; rw [tokens_fuel _ (by decide)]; kernel_rfl
theorem parse_sn2 : parse sn2 = ⟨noPol, 28, 3⟩ := by unfold parse; rw [tokens_fuel _ (by decide)]; kernel_rfl
theorem parse_sn3 : parse sn3 = ⟨noPol, 10, 3⟩ := by unfold parse; rw [tokens_fuel _ (by decide)]; kernel_rfl
theorem word_p : isWordB ⟨#[112]⟩ = true := by unfold isWordB; rw [tokens_fuel _ (by decide)]; kernel_rfl
theorem word_a : isWordB ⟨#[97]⟩ = true := by unfold isWordB; rw [tokens_fuel _ (by decide)]; kernel_rfl
theorem itoa_2 : Lib.itoa 2 = [50] := by simp [Lib.itoa, Lib.decDigits]
theorem itoa_120 : Lib.itoa 120 = [49, 50, 48] := by simp [Lib.itoa, Lib.decDigits]
theorem itoa_3600 : Lib.itoa 3600 = [51, 54, 48, 48] := by simp [Lib.itoa, Lib.decDigits]
theorem want_ok : printableB polWant = true := by
  unfold printableB polWant
  simp only [typsOk, typOk, word_p, word_a]
  kernel_rfl
theorem want_text : printL polWant = snP.data.toList := by
  unfold printL polWant polHead
  simp only [List.flatMap_cons, List.flatMap_nil, typTxt, typHead, lifeTxt, rulTxt, quoTxt, quoHead, delayTxt, usesTxt, itoa_2, itoa_120, itoa_3600]
  kernel_rfl
theorem print_want : printP polWant = (snP, 0) := by
  unfold printP
  rw [if_pos want_ok, want_text, if_neg (by decide)]
theorem polOk_want : PolOk polWant where
  name := by unfold maxLen; decide
  typs := fun t ht => by
    simp [polWant] at ht
    subst ht
    unfold InI maxLen
    exact ⟨by decide, ⟨by decide, by decide⟩, ⟨by decide, by decide⟩⟩
  ruls := fun t ht => by
    simp [polWant] at ht
    subst ht
    unfold InI
    exact ⟨⟨by decide, by decide⟩, ⟨by decide, by decide⟩, ⟨by decide, by decide⟩⟩
  quos := fun t ht => by
    simp [polWant] at ht
    subst ht
    unfold InI
    exact ⟨⟨by decide, by decide⟩, ⟨by decide, by decide⟩, ⟨by decide, by decide⟩, ⟨by decide, by decide⟩, ⟨by decide, by decide⟩⟩
  nt := by decide
  nr := by decide
  nq := by decide
theorem word_9 : wordN 9 = ⟨#[114, 97, 119, 45, 119, 114, 97, 112]⟩ := by kernel_rfl
theorem command_piece : commandN ⟨#[112, 105, 101, 99, 101]⟩ = 27 := by kernel_rfl
theorem command_life : commandN ⟨#[108, 105, 102, 101]⟩ = 0 := by kernel_rfl
end Go.Proofs.YtemhiiignamkjaaDoor
