/-
  Layer 46 (script): the example that every law plays first (plain).
-/
import Derived.Test.YtldkfhimpkiigaaGreatDoorScrW18
namespace Go.Proofs.YtldkfhimpkiigaaGreatDoor
namespace ScrP
def exT : ByteArray := ⟨#[112, 111, 108, 105, 99, 121, 32, 112, 10, 10, 116, 121, 112, 101, 32, 97]⟩
def exS : Scr := ⟨[exT], [⟨10, [5], ⟨#[]⟩⟩, ⟨4, [0, 0, 4, 1, 0, 0, 0, 0], ⟨#[61, 97, 98]⟩⟩, ⟨21, [0, 0, 8, 1, 0, 0, 0, 0], ⟨#[64, 51]⟩⟩]⟩
def exP : List UInt8 := [116, 101, 120, 116, 10, 124, 112, 111, 108, 105, 99, 121, 32, 112, 10, 124, 10, 124, 116, 121, 112, 101, 32, 97, 10, 116, 105, 99, 107, 32, 53, 10, 99, 111, 109, 109, 97, 110, 100, 32, 48, 32, 48, 32, 52, 32, 49, 32, 48, 32, 48, 32, 48, 32, 48, 32, 61, 54, 49, 54, 50, 10, 115, 101, 110, 100, 32, 48, 32, 48, 32, 56, 32, 49, 32, 48, 32, 48, 32, 48, 32, 48, 32, 64, 51, 10]
def exC : Scr := ⟨[], [⟨10, [5], ⟨#[]⟩⟩, ⟨10, [], ⟨#[]⟩⟩]⟩
theorem ex_kind : kindN ⟨#[97, 117, 100, 105, 116]⟩ = 23 := by kernel_rfl
theorem ex_name : nameN 23 = ⟨#[97, 117, 100, 105, 116]⟩ := by kernel_rfl
theorem ex_name2 : nameN 24 = ⟨#[]⟩ := by kernel_rfl
theorem ex_check : checkS exS = (0, 0) := by kernel_rfl
theorem ex_check2 : checkS exC = (1, 1) := by kernel_rfl
theorem ex_print : printS exS = (exP, 0) := by kernel_rfl
theorem ex_parse : parseS ([35, 32, 99, 111, 109, 109, 101, 110, 116, 10, 10] ++ exP) = ⟨exS, 0, 0⟩ := by kernel_rfl
theorem ex_parse2 : (parseS [116, 105, 99, 107, 32, 49, 10, 116, 111, 99, 107, 32, 50, 10]).line = 2 ∧ (parseS [116, 105, 99, 107, 32, 49, 10, 116, 111, 99, 107, 32, 50, 10]).err = 4 := ⟨by kernel_rfl, by kernel_rfl⟩
theorem ex_parse3 : (parseS [116, 105, 99, 107, 32, 48, 53]).line = 1 ∧ (parseS [116, 105, 99, 107, 32, 48, 53]).err = 3 := ⟨by kernel_rfl, by kernel_rfl⟩
end ScrP
end Go.Proofs.YtldkfhimpkiigaaGreatDoor
