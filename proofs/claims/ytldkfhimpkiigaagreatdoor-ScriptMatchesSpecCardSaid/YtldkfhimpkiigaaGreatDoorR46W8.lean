/-
  Layer 46 (script), the specification: digits.
-/
import Derived.Test.YtldkfhimpkiigaaGreatDoorR46W7
import Derived.Test.YtldkfhimpkiigaaGreatDoorByteR
import Derived.Lib.ItoaLen
namespace Go.Proofs.YtldkfhimpkiigaaGreatDoor
open Go.RowKit ScrP
attribute [local go_sem] Oper.semAt_some

theorem conv_byte46 (w : World) (b : Nat) (d : Nat) (hd : d < 256) (hb : Blk w b 5 #[.int .u8 (d : Int)]) : (convert 70 9 (.slice (some ⟨b, 0, none⟩) 1 1)).run Tryz.prog w = .ok (.string ⟨#[UInt8.ofNat d]⟩) w :=
  run_convert_bytes_back (P := Tryz.prog) w 70 9 5 ⟨b, 0, none⟩ 1 [UInt8.ofNat d] Tryz.underlying70 Tryz.underlying5 Tryz.underlying9 (fun j hj => by
    obtain rfl : j = 0 := by simpa using hj
    rw [Addr.add_lit, Nat.zero_add, hb.cell 0]
    show some (Value.int .u8 (d : Int)) = some (Value.int .u8 ((UInt8.ofNat d).toNat : Int))
    rw [UInt8.toNat_ofNat', Nat.mod_eq_of_lt hd])
theorem conv_new46 (d : Nat) (hd : d < 10) (W : World) : (convert 70 9 (.slice (some ⟨W.heap.size, 0, none⟩) 1 1)).run Tryz.prog (W.alloc (.cells #[.int .u8 (48 + (d : Int))] 5)) = .ok (.string ⟨#[UInt8.ofNat (48 + d)]⟩) (W.alloc (.cells #[.int .u8 (48 + (d : Int))] 5)) :=
  conv_byte46 _ _ (48 + d) (by omega) (by have := Blk.new W 5 #[.int .u8 (48 + (d : Int))]; rwa [show (48 + (d : Int)) = ((48 + d : Nat) : Int) by omega] at this ⊢)
theorem dec_len (u : Nat) (h : u ≤ 2199023255552) : (Lib.decDigits u).length ≤ 21 := by
  have := Lib.itoa_length_le (u : Int) (by omega) (by omega)
  unfold Lib.itoa at this
  rw [if_neg (by omega)] at this
  simpa using this
set_option maxRecDepth 100000 in
theorem rdig46 : ∀ (u : Nat) (_ : u ≤ 2199023255552) (w : World), Calls Tryz.prog 47 #[.int .i64 (u : Int)] w fun e w' => e = .returned (.string ⟨(Lib.decDigits u).toArray⟩) ∧ Below w.heap.size w w' := by
  intro u
  induction u using Nat.strongRecOn with
  | ind u ih =>
  intro hu w
  by_cases h : u < 10
  · have hD : Hid (Lib.decDigits u = [UInt8.ofNat (48 + u)]) := by unfold Hid; rw [Lib.decDigits, dif_pos h]
    have d1 : decide (u < 10) = true := decide_eq_true h
    have d2 : decide ((u : Int) < 10) = true := decide_eq_true (by omega)
    have hcv := conv_new46 u h
    obtain ⟨S, hS⟩ : ∃ S : ByteArray, (⟨#[UInt8.ofNat (48 + u)]⟩ : ByteArray) = S := ⟨_, rfl⟩
    have hSH := Lib.hid hS
    rw [hS] at hcv
    clear hS
    have hu0 : (0 : Int) ≤ (u : Int) := by omega
    have hu9 : (u : Int) < 10 := by omega
    clear ih
    go_enter Tryz.func47, Tryz.ntmps47
    go_wp2_with fail
    go_ret
    exact ⟨by rw [hD.out]; exact congrArg (fun x => Ending.returned (Value.string x)) hSH.out.symm, (Below.refl _ _).alloc (Nat.le_refl _) _⟩
  · have d1 : decide (u < 10) = false := decide_eq_false h
    have d2 : decide ((u : Int) < 10) = false := decide_eq_false (by omega)
    obtain ⟨q, hq⟩ : ∃ q, u / 10 = q := ⟨_, rfl⟩
    obtain ⟨r, hr⟩ : ∃ r, u % 10 = r := ⟨_, rfl⟩
    have q1 : (u : Int).tdiv 10 = (q : Int) := by rw [Int.tdiv_eq_ediv_of_nonneg (by omega)]; omega
    have q2 : (u : Int) / 10 = (q : Int) := by omega
    have r1 : (u : Int).tmod 10 = (r : Int) := by rw [Int.tmod_eq_emod_of_nonneg (by omega)]; omega
    have HA := Lib.hid (ih q (by omega) (by omega))
    have HB := Lib.hid (ih r (by omega) (by omega))
    have q3 : wrap64 (q : Int) = (q : Int) := by unfold wrap64; omega
    obtain ⟨SA, hSA⟩ : ∃ S : ByteArray, (⟨(Lib.decDigits q).toArray⟩ : ByteArray) = S := ⟨_, rfl⟩
    obtain ⟨SB, hSB⟩ : ∃ S : ByteArray, (⟨(Lib.decDigits r).toArray⟩ : ByteArray) = S := ⟨_, rfl⟩
    have lA : SA.size ≤ 21 := by rw [← hSA]; show (List.toArray _).size ≤ _; rw [List.size_toArray]; exact dec_len q (by omega)
    have lB : SB.size ≤ 21 := by rw [← hSB]; show (List.toArray _).size ≤ _; rw [List.size_toArray]; exact dec_len r (by omega)
    obtain ⟨U, hU1, hU2⟩ : ∃ U : ByteArray, (∀ wx : World, (Op.stringOp .add SA SB).run Tryz.prog wx = .ok (.string U) wx) ∧ Hid (U = ⟨(Lib.decDigits u).toArray⟩) := by
      refine ⟨SA ++ SB, fun wx => run_string_add_sum wx _ _ (by omega), ?_⟩
      unfold Hid
      refine ByteArray.ext (Array.ext' ?_)
      rw [ByteArray.data_append, Array.toList_append, ← hSA, ← hSB]
      show Lib.decDigits q ++ Lib.decDigits r = Lib.decDigits u
      rw [Lib.decDigits.eq_def u, dif_neg h, hq, hr]
      congr 1
      rw [Lib.decDigits, dif_pos (by omega)]
    rw [hSA] at HA
    rw [hSB] at HB
    clear ih hq hr hSA hSB lA lB h
    go_enter Tryz.func47, Tryz.ntmps47
    go_wp2_with fail
    refine (HA.out w).mono ?_
    rintro e w1 ⟨rfl, hb⟩
    have B1 := Lib.hid hb
    clear hb
    go_wp2_with fail
    refine (HB.out w1).mono ?_
    rintro e w2 ⟨rfl, hb⟩
    have B2 := Lib.hid (B1.out.trans (hb.mono B1.out.size))
    clear hb
    go_wp2_with fail
    go_ret
    exact ⟨by rw [← hU2.out]; rfl, B2.out⟩
end Go.Proofs.YtldkfhimpkiigaaGreatDoor
