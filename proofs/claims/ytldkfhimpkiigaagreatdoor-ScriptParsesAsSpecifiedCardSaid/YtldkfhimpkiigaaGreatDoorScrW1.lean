/-
  Layer 46 (script): the table of kinds in memory; isKind, Name, Kind.
-/
import Derived.Test.YtldkfhimpkiigaaGreatDoorKit
import Derived.Test.YtldkfhimpkiigaaGreatDoorScrP1
import Derived.WalkKit
import Derived.Deep.CutBlock
import Derived.Deep.CutRange
import Derived.Deep.DeepCutAuto
import Derived.Deep.RegionHeld3
import Derived.Deep.QuietTactic
import Derived.BigQuiet
import Derived.Lib.ConvBytes
import Derived.Lib.Hide
import Derived.Laws.EntriesVeiled
namespace Go.Proofs.YtldkfhimpkiigaaGreatDoor
open Go.RowKit ScrP
attribute [local go_sem] Oper.semAt_some

theorem world_is {P : World → Prop} {X : World} (h : ∀ W, X = W → P W) : P X := h X rfl
theorem grown_ofBelow {w w' : World} (h : Below w.heap.size w w') (r : Option Nat) : w.grownBy w' r := ⟨h.os, h.tape, h.output, h.size, fun k hk _ => h.block k hk⟩
def InI (z : Int) : Prop := -9223372036854775808 ≤ z ∧ z ≤ 9223372036854775807
theorem text_eq_iff {a b : ByteArray} : (a.toList == b.toList) = true ↔ a = b := by
  rw [beq_iff_eq, ByteArray.toList_eq, ByteArray.toList_eq]
  exact ⟨fun h => ByteArray.ext (Array.ext' h), fun h => by rw [h]⟩
/-- The table of the kinds lies in its variable. -/
structure KTab (w : World) : Prop where
  lt : 0 < w.heap.size
  row : ∀ (k : Nat) (r : KRow), krows[k]? = some r → w.cell? ⟨0, k * 4, none⟩ = some (.string r.name) ∧ w.cell? ⟨0, k * 4 + 1, none⟩ = some (.int .i64 (r.least : Int)) ∧ w.cell? ⟨0, k * 4 + 2, none⟩ = some (.int .i64 (r.most : Int)) ∧ w.cell? ⟨0, k * 4 + 3, none⟩ = some (.bool r.text)
theorem KTab.below {w w' : World} (h : KTab w) (hb : Below w.heap.size w w') : KTab w' :=
  ⟨Nat.lt_of_lt_of_le h.lt hb.size, fun k r hr => by
    obtain ⟨h0, h1, h2, h3⟩ := h.row k r hr
    exact ⟨(hb.cell (p := ⟨_, _, none⟩) h.lt).trans h0, (hb.cell (p := ⟨_, _, none⟩) h.lt).trans h1, (hb.cell (p := ⟨_, _, none⟩) h.lt).trans h2, (hb.cell (p := ⟨_, _, none⟩) h.lt).trans h3⟩⟩
theorem krows_len : krows.length = 24 := rfl
theorem krow_at {z : Int} (h1 : 1 ≤ z) (h2 : z < 24) : krows[z.toNat]? = some (rowOf z) := by
  unfold rowOf
  rw [List.getD_eq_getElem?_getD]
  have : z.toNat < krows.length := by rw [krows_len]; omega
  rw [List.getElem?_eq_getElem this]
  rfl
theorem isKind_any (z : Int) (w : World) : Calls Tryz.prog 48 #[.int .i64 z] w fun e w' => e = .returned (.bool (isKindB z)) ∧ w' = w := by
  by_cases h1 : 1 ≤ z
  · by_cases h2 : z < 24
    · have hR : Hid (isKindB z = true) := by unfold Hid isKindB; rw [decide_eq_true h1, decide_eq_true h2]; rfl
      have d1 : decide (1 ≤ z) = true := decide_eq_true h1
      have d2 : decide (z < 24) = true := decide_eq_true h2
      go_enter Tryz.func48, Tryz.ntmps48
      go_wp2_with fail
      go_ret
      exact ⟨by rw [hR.out]; rfl, rfl⟩
    · have hR : Hid (isKindB z = false) := by unfold Hid isKindB; rw [decide_eq_true h1, decide_eq_false h2]; rfl
      have d1 : decide (1 ≤ z) = true := decide_eq_true h1
      have d2 : decide (z < 24) = false := decide_eq_false h2
      go_enter Tryz.func48, Tryz.ntmps48
      go_wp2_with fail
      go_ret
      exact ⟨by rw [hR.out]; rfl, rfl⟩
  · have hR : Hid (isKindB z = false) := by unfold Hid isKindB; rw [decide_eq_false h1]; rfl
    have d1 : decide (1 ≤ z) = false := decide_eq_false h1
    go_enter Tryz.func48, Tryz.ntmps48
    go_wp2_with fail
    go_ret
    exact ⟨by rw [hR.out]; rfl, rfl⟩
theorem Name_any (z : Int) (w : World) (hK : KTab w) : Calls Tryz.prog 19 #[.int .i64 z] w fun e w' => e = .returned (.string (nameN z)) ∧ w' = w := by
  have H := Lib.hid (isKind_any z w)
  by_cases hz : isKindB z = true
  · have h12 : 1 ≤ z ∧ z < 24 := by unfold isKindB at hz; simpa using hz
    obtain ⟨k, rfl⟩ : ∃ k : Nat, z = (k : Int) := ⟨z.toNat, by omega⟩
    obtain ⟨k0, _, _, _⟩ := hK.row k _ (krow_at h12.1 h12.2)
    have hR : Hid (nameN (k : Int) = (rowOf (k : Int)).name) := by unfold Hid nameN; rw [if_pos hz]
    obtain ⟨nm, hnm⟩ : ∃ n, (rowOf (k : Int)).name = n := ⟨_, rfl⟩
    rw [hnm] at k0 hR
    rw [hz] at H
    have q0 : (0 : Int) ≤ (k : Int) := by omega
    have q1 : (k : Int) < 24 := h12.2
    clear hnm hz h12 hK
    go_enter Tryz.func19, Tryz.ntmps19
    go_wp2_with fail
    refine H.out.mono ?_
    rintro e w1 ⟨rfl, rfl⟩
    go_wp2_with fail
    go_ret
    exact ⟨by rw [hR.out]; rfl, rfl⟩
  · have hz : isKindB z = false := by simpa using hz
    have hR : Hid (nameN z = ⟨#[]⟩) := by unfold Hid nameN; rw [hz]; rfl
    rw [hz] at H
    clear hz hK
    go_enter Tryz.func19, Tryz.ntmps19
    go_wp2_with fail
    refine H.out.mono ?_
    rintro e w1 ⟨rfl, rfl⟩
    go_wp2_with fail
    go_ret
    exact ⟨by rw [hR.out]; rfl, rfl⟩
def rowV (r : KRow) : Value := .agg #[.string r.name, .int .i64 (r.least : Int), .int .i64 (r.most : Int), .bool r.text]
theorem KindC_any (r : KRow) (s : ByteArray) (g : Nat) (w : World) (hb : Blk w g 9 #[.string s]) : Calls Tryz.prog 32 #[rowV r, .pointer (some ⟨g, 0, none⟩)] w fun e w' => e = .returned (.bool (r.name.toList == s.toList)) ∧ Below w.heap.size w w' := by
  have hl := hb.lt
  have c0 : (w.alloc (.cells #[.string r.name, .int .i64 (r.least : Int), .int .i64 (r.most : Int), .bool r.text] 58)).cell? ⟨g, 0, none⟩ = some (.string s) := (hb.alloc _).cell 0
  have hl2 := Lib.hid hl
  clear hb hl
  unfold rowV
  go_enter Tryz.func32, Tryz.ntmps32
  go_wp2_with fail
  go_ret
  exact ⟨rfl, (Below.refl _ _).alloc (Nat.le_refl _) _⟩
/-- The place of a name in the table, as an integer; -1: none. -/
def idxI (s : ByteArray) : Int := if krows.findIdx (fun r => r.name.toList == s.toList) < 24 then (krows.findIdx (fun r => r.name.toList == s.toList) : Int) else -1
theorem IdxRow_any (s : ByteArray) (g : Nat) (w : World) (hb : Blk w g 9 #[.string s]) (hK : KTab w) :
    Calls Tryz.prog 31 #[.slice (some ⟨0, 0, none⟩) 24 24, .func (.func 32) #[] #[.pointer (some ⟨g, 0, none⟩)]] w fun e w' => e = .returned (.int .i64 (idxI s)) ∧ Below w.heap.size w w' := by
  have HB := Lib.hid hb
  have HK := Lib.hid hK
  clear hb hK
  go_enter Tryz.func31, Tryz.ntmps31
  go_wp2_with fail
  go_loopw [8] (fun v8 wr => ∃ i : Nat, v8 = .int .i64 (i : Int) ∧ i ≤ 24 ∧ Hid (krows.findIdx (fun r => r.name.toList == s.toList) = i + (krows.drop i).findIdx (fun r => r.name.toList == s.toList)) ∧ Hid (Below w.heap.size w wr)) (fun v8 _ => 24 - (intOf v8).toNat)
  case atStart => exact ⟨0, rfl, Nat.zero_le _, by unfold Hid; rw [List.drop_zero, Nat.zero_add], Below.refl _ _⟩
  case round =>
  obtain ⟨i, rfl, hi, hE, hL⟩ := hrel
  obtain ⟨w1, hw1⟩ : ∃ x, x = wr := ⟨_, rfl⟩
  subst hw1
  by_cases hlt : i < 24
  · have d1 : decide (i < 24) = true := decide_eq_true hlt
    have d2 : decide ((i : Int) < 24) = true := decide_eq_true (by omega)
    obtain ⟨r, hr⟩ : ∃ r, krows[i]? = some r := ⟨_, List.getElem?_eq_getElem (by rw [krows_len]; exact hlt)⟩
    obtain ⟨k0, k1, k2, k3⟩ := (HK.out.below hL.out).row i r hr
    have hstep : Hid ((krows.drop i).findIdx (fun r => r.name.toList == s.toList) = if (r.name.toList == s.toList) = true then 0 else (krows.drop (i + 1)).findIdx (fun r => r.name.toList == s.toList) + 1) := by
      obtain ⟨h1, h2⟩ := List.getElem?_eq_some_iff.1 hr
      unfold Hid
      rw [List.drop_eq_getElem_cons h1, h2, List.findIdx_cons]
      cases (r.name.toList == s.toList) <;> rfl
    have HC := Lib.hid (KindC_any r s g w1 (HB.out.below hL.out HB.out.lt))
    have q0 : (0 : Int) ≤ (i : Int) := by omega
    have q1 : (i : Int) < 24 := by omega
    have hltH := Lib.hid hlt
    unfold rowV at HC
    obtain ⟨c, hc⟩ : ∃ c, (r.name.toList == s.toList) = c := ⟨_, rfl⟩
    rw [hc] at HC hstep
    clear hr hlt hc
    go_wp2_with fail
    refine HC.out.mono ?_
    rintro e w2 ⟨rfl, hB2⟩
    have L2 := Lib.hid (hL.out.trans (hB2.mono hL.out.size))
    clear hB2 k0 k1 k2 k3 HC hL
    cases c
    case true =>
      rw [if_pos rfl] at hstep
      have hR : Hid (idxI s = (i : Int)) := by
        unfold Hid idxI
        rw [hE.out, hstep.out, if_pos (by have := hltH.out; omega)]
        rfl
      go_wp2_with fail
      go_ret
      exact ⟨by rw [hR.out]; rfl, L2.out⟩
    case false =>
      rw [if_neg (by decide)] at hstep
      go_wp2_with fail
      go_roundw
      case rel => exact ⟨i + 1, by go_num, hltH.out, by unfold Hid; rw [hE.out, hstep.out]; omega, L2⟩
      case measure => have := hltH.out; simp [intOf]; omega
  · have d1 : decide (i < 24) = false := decide_eq_false hlt
    have d2 : decide ((i : Int) < 24) = false := decide_eq_false (by omega)
    have hR : Hid (idxI s = -1) := by
      unfold Hid idxI
      rw [hE.out, if_neg (by omega)]
    clear hlt
    go_wp2_with fail
    go_ret
    exact ⟨by rw [hR.out]; rfl, hL.out⟩
theorem idx_pos {s : ByteArray} (hs : s.size ≠ 0) : idxI s = -1 ∨ 0 < idxI s := by
  unfold idxI
  by_cases h : krows.findIdx (fun r => r.name.toList == s.toList) < 24
  · rw [if_pos h]
    have h0 : krows.findIdx (fun r => r.name.toList == s.toList) ≠ 0 := by
      unfold krows
      rw [List.findIdx_cons]
      have e : ((⟨#[]⟩ : ByteArray).toList == s.toList) = false := by
        rw [Bool.eq_false_iff]
        intro h
        rw [← text_eq_iff.1 h] at hs
        exact hs rfl
      rw [show (ByteArray.toList (KRow.name ⟨⟨#[]⟩, 0, 0, false⟩) == s.toList) = false from e]
      simp
    right
    omega
  · rw [if_neg h]
    exact .inl rfl
theorem kindN_idx {s : ByteArray} (hs : s.size ≠ 0) : (kindN s : Int) = max (idxI s) 0 := by
  unfold kindN idxI
  rw [if_neg hs]
  dsimp only
  split <;> omega
theorem Kind_any (s : ByteArray) (w : World) (hK : KTab w) : Calls Tryz.prog 11 #[.string s] w fun e w' => e = .returned (.tuple #[.int .i64 (kindN s : Int), .bool (decide (0 < kindN s))]) ∧ Below w.heap.size w w' := by
  by_cases hs : s.size = 0
  · have e : s = ⟨#[]⟩ := by
      cases s with
      | mk d => exact congrArg ByteArray.mk (Array.eq_empty_of_size_eq_zero hs)
    subst e
    clear hs hK
    go_enter Tryz.func11, Tryz.ntmps11
    go_wp2_with fail
    go_ret2
    exact ⟨rfl, (Below.refl _ _).alloc (Nat.le_refl _) _⟩
  · have hne : ¬ s.toList = [] := fun h => hs (by
      rw [ByteArray.toList_eq] at h
      show s.data.size = 0
      rw [← Array.length_toList, h]; rfl)
    have hne2 : (s.toList == []) = false := beq_eq_false_iff_ne.2 hne
    have hpos := Lib.hid (idx_pos hs)
    have hkn := Lib.hid (kindN_idx hs)
    have HK := Lib.hid hK
    clear hs hK
    go_enter Tryz.func11, Tryz.ntmps11
    go_upto_region 3 with fail
    refine world_is (P := fun W => Code.wp _ _ _ _ W) (fun W1 hW1 => ?_)
    have B1 : Hid (Below w.heap.size w W1) := by unfold Hid; rw [← hW1]; exact (Below.refl _ _).alloc (Nat.le_refl _) _
    have X1 : Hid (Blk W1 w.heap.size 9 #[.string s]) := by unfold Hid; rw [← hW1]; exact Blk.new _ _ _
    obtain ⟨g, hg⟩ : ∃ g, w.heap.size = g := ⟨_, rfl⟩
    rw [hg] at X1 ⊢
    clear hW1 hg
    go_wp2_with fail
    refine (IdxRow_any s g W1 X1.out (HK.out.below B1.out)).mono ?_
    rintro e w2 ⟨rfl, hB2⟩
    have B2 := Lib.hid (B1.out.trans (hB2.mono B1.out.size))
    have hp := hpos.out
    have hk := hkn.out
    obtain ⟨z, hz⟩ : ∃ z, idxI s = z := ⟨_, rfl⟩
    rw [hz] at hp hk ⊢
    obtain ⟨n, hn⟩ : ∃ n, kindN s = n := ⟨_, rfl⟩
    rw [hn] at hk
    have hnH := Lib.hid hn
    clear hz hn hB2 hpos hkn B1 X1
    rcases hp with h | h
    · obtain rfl : n = 0 := by omega
      subst h
      clear hk
      go_wp2_with fail
      go_ret2
      exact ⟨by rw [hnH.out]; rfl, B2.out⟩
    · obtain rfl : z = (n : Int) := by omega
      have hn0 : 0 < n := by omega
      have d1 : decide ((0 : Int) < (n : Int)) = true := decide_eq_true h
      have d2 : decide (0 < n) = true := decide_eq_true hn0
      have hnn : ¬ (n : Int) < 0 := by omega
      have hnn2 : (n : Int) ≠ 0 := by omega
      have d2H := Lib.hid d2
      clear hk hn0
      go_wp2_with fail
      go_ret2
      exact ⟨by rw [hnH.out, d2H.out]; rfl, B2.out⟩
end Go.Proofs.YtldkfhimpkiigaaGreatDoor
