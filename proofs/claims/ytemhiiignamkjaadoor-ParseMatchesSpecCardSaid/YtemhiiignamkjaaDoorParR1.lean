/-
  Layer 12 (parse), the specification: the lists of words, find, index, Word, Command, within, word.
-/
import Derived.Test.YtemhiiignamkjaaDoorMZ
import Derived.Test.YtemhiiignamkjaaDoorMB
import Derived.Test.YtemhiiignamkjaaDoorNB
namespace Go.Proofs.YtemhiiignamkjaaDoor
open Go.RowKit LexP ParP
attribute [local go_sem] Oper.semAt_some

set_option maxRecDepth 100000 in
set_option maxHeartbeats 4000000 in
theorem rRules_any (w : World) : Calls Tryd.prog 31 #[] w fun e w' => ∃ b, e = .returned (.slice (some ⟨b, 0, none⟩) 5 5) ∧ Blk w' b 9 (ruleWords.map Value.string).toArray ∧ Below w.heap.size w w' := by
  go_enter Tryd.func31, Tryd.ntmps31
  go_wp2_with fail
  go_ret
  exact ⟨_, rfl, Blk.new _ _ _, (Below.refl _ _).alloc (Nat.le_refl _) _⟩
set_option maxRecDepth 100000 in
set_option maxHeartbeats 4000000 in
theorem rFlags_any (w : World) : Calls Tryd.prog 44 #[] w fun e w' => ∃ b, e = .returned (.slice (some ⟨b, 0, none⟩) 7 7) ∧ Blk w' b 9 (flagWords.map Value.string).toArray ∧ Below w.heap.size w w' := by
  go_enter Tryd.func44, Tryd.ntmps44
  go_wp2_with fail
  go_ret
  exact ⟨_, rfl, Blk.new _ _ _, (Below.refl _ _).alloc (Nat.le_refl _) _⟩
set_option maxRecDepth 100000 in
set_option maxHeartbeats 4000000 in
theorem rCommands_any (w : World) : Calls Tryd.prog 46 #[] w fun e w' => ∃ b, e = .returned (.slice (some ⟨b, 0, none⟩) 27 27) ∧ Blk w' b 9 (commandWords.map Value.string).toArray ∧ Below w.heap.size w w' := by
  go_enter Tryd.func46, Tryd.ntmps46
  go_wp2_with fail
  go_ret
  exact ⟨_, rfl, Blk.new _ _ _, (Below.refl _ _).alloc (Nat.le_refl _) _⟩
/-- The place of a word, as an integer; -1: none. -/
def findI (zs : List ByteArray) (x : ByteArray) : Int := if findW zs x < zs.length then (findW zs x : Int) else -1
theorem findW_le (zs : List ByteArray) (x : ByteArray) : findW zs x ≤ zs.length := List.findIdx_le_length
set_option maxRecDepth 100000 in
set_option maxHeartbeats 4000000 in
theorem rfind_any (w : World) (b o c : Nat) (zs : List ByteArray) (x : ByteArray) (hl : zs.length ≤ 1000) (hc : ∀ j z, zs[j]? = some z → w.cell? ⟨b, o + j, none⟩ = some (.string z)) :
    Calls Tryd.prog 30 #[.slice (some ⟨b, o, none⟩) zs.length c, .string x] w fun e w' => e = .returned (.int .i64 (findI zs x)) ∧ w' = w := by
  have HC := Lib.hid hc
  obtain ⟨n, hn⟩ : ∃ n, zs.length = n := ⟨_, rfl⟩
  have hnH := Lib.hid hn
  rw [hn] at hl ⊢
  clear hc hn
  go_enter Tryd.func30, Tryd.ntmps30
  go_wp2_with fail
  go_loopw [5] (fun v5 wr => ∃ i : Nat, v5 = .int .i64 i ∧ i ≤ n ∧ Hid (findW zs x = i + findW (zs.drop i) x) ∧ wr = w) (fun v5 _ => n - (intOf v5).toNat)
  case atStart => exact ⟨0, rfl, Nat.zero_le _, by unfold Hid; rw [List.drop_zero, Nat.zero_add], rfl⟩
  case round =>
  obtain ⟨i, rfl, hi, hE, hwr⟩ := hrel
  rw [hwr]
  clear hwr
  by_cases hlt : i < n
  · have d1 : decide (i < n) = true := decide_eq_true hlt
    have d2 : decide ((i : Int) < (n : Int)) = true := decide_eq_true (by omega)
    obtain ⟨z, hz⟩ : ∃ z, zs[i]? = some z := ⟨_, List.getElem?_eq_getElem (by rw [hnH.out]; exact hlt)⟩
    have k0 := HC.out i z hz
    have hstep : Hid (findW (zs.drop i) x = if (z.toList == x.toList) = true then 0 else findW (zs.drop (i + 1)) x + 1) := by
      obtain ⟨h1, h2⟩ := List.getElem?_eq_some_iff.1 hz
      unfold Hid
      rw [List.drop_eq_getElem_cons h1, h2, findW_cons]
    have q0 : (0 : Int) ≤ (i : Int) := by omega
    have q1 : (i : Int) < (n : Int) := by omega
    have hltH := Lib.hid hlt
    clear hz hlt
    cases hzx : (z.toList == x.toList)
    case true =>
      rw [hzx, if_pos rfl] at hstep
      have hR : Hid (findI zs x = (i : Int)) := by
        unfold Hid findI
        rw [hE.out, hstep.out, hnH.out, if_pos (by have := hltH.out; omega)]
        rfl
      go_wp2_with fail
      go_ret
      exact ⟨by rw [hR.out]; rfl, rfl⟩
    case false =>
      rw [hzx, if_neg (by decide)] at hstep
      have hne : ¬ z.toList = x.toList := beq_eq_false_iff_ne.1 hzx
      go_wp2_with fail
      go_roundw
      case rel => exact ⟨i + 1, by go_num, hltH.out, by unfold Hid; rw [hE.out, hstep.out]; omega, trivial⟩
      case measure => have := hltH.out; simp [intOf]; omega
  · have d1 : decide (i < n) = false := decide_eq_false hlt
    have d2 : decide ((i : Int) < (n : Int)) = false := decide_eq_false (by omega)
    have hR : Hid (findI zs x = -1) := by
      unfold Hid findI
      rw [hE.out, List.drop_eq_nil_of_le (by rw [hnH.out]; omega), hnH.out, if_neg (by omega)]
    clear hlt
    go_wp2_with fail
    go_ret
    exact ⟨by rw [hR.out]; rfl, rfl⟩
theorem blk_words {w : World} {b : Nat} {zs : List ByteArray} (h : Blk w b 9 (zs.map Value.string).toArray) : ∀ j z, zs[j]? = some z → w.cell? ⟨b, 0 + j, none⟩ = some (.string z) := fun j z hz => by
  rw [Nat.zero_add, h.cell j]
  simp [hz]
set_option maxRecDepth 100000 in
set_option maxHeartbeats 4000000 in
theorem rCommand_any (s : ByteArray) (w : World) : Calls Tryd.prog 19 #[.string s] w fun e w' => e = .returned (.int .i64 (commandN s)) ∧ Below w.heap.size w w' := by
  have hx : Hid (wrap64 (findI commandWords s + 1) = (commandN s : Int)) := by
    have h := findW_le commandWords s
    have e27 : commandWords.length = 27 := rfl
    unfold Hid findI commandN
    rw [e27] at h ⊢
    split <;> (rw [wrap64]; omega)
  go_enter Tryd.func19, Tryd.ntmps19
  go_wp2_with fail
  refine (rCommands_any w).mono ?_
  rintro e w1 ⟨b, rfl, hb, hB1⟩
  have HB := Lib.hid hb
  have B1 := Lib.hid hB1
  clear hb hB1
  go_wp2_with fail
  refine (rfind_any w1 b 0 27 commandWords s (by decide) (blk_words HB.out)).mono ?_
  rintro e w2 ⟨rfl, rfl⟩
  have hx2 := hx.out
  obtain ⟨z, hz⟩ : ∃ z, findI commandWords s = z := ⟨_, rfl⟩
  rw [hz] at hx2 ⊢
  have hx3 := Lib.hid hx2
  clear hz hx2
  go_wp2_with fail
  go_ret
  exact ⟨by rw [← hx3.out]; rfl, B1.out⟩
set_option maxRecDepth 100000 in
set_option maxHeartbeats 4000000 in
theorem rWord_any (z : Int) (hz : InI z) (w : World) : Calls Tryd.prog 17 #[.int .i64 z] w fun e w' => e = .returned (.string (wordN z)) ∧ Below w.heap.size w w' := by
  by_cases h1 : z < 1
  · have hres : Hid (wordN z = ⟨#[]⟩) := by unfold Hid wordN; rw [if_neg (by omega)]
    have d1 : decide (z < 1) = true := decide_eq_true h1
    clear hz
    go_enter Tryd.func17, Tryd.ntmps17
    go_wp2_with fail
    go_ret
    exact ⟨by rw [hres.out]; rfl, Below.refl _ _⟩
  by_cases h2 : 27 < z
  · have hres : Hid (wordN z = ⟨#[]⟩) := by unfold Hid wordN; rw [if_neg (by omega)]
    have d1 : decide (z < 1) = false := decide_eq_false h1
    have d2 : decide ((27 : Int) < z) = true := decide_eq_true h2
    clear hz
    go_enter Tryd.func17, Tryd.ntmps17
    go_wp2_with fail
    go_ret
    exact ⟨by rw [hres.out]; rfl, Below.refl _ _⟩
  obtain ⟨k, rfl⟩ : ∃ k : Nat, z = (k : Int) + 1 := ⟨(z - 1).toNat, by omega⟩
  have hk : k < 27 := by omega
  obtain ⟨u, hu⟩ : ∃ u, commandWords[k]? = some u := ⟨_, List.getElem?_eq_getElem hk⟩
  have hres : Hid (wordN ((k : Int) + 1) = u) := by
    unfold Hid wordN
    rw [if_pos ⟨by omega, by omega⟩, show ((k : Int) + 1).toNat - 1 = k by omega]
    exact getD_of hu
  have d1 : decide ((k : Int) + 1 < 1) = false := decide_eq_false h1
  have d2 : decide ((27 : Int) < (k : Int) + 1) = false := decide_eq_false h2
  have q0 : (0 : Int) ≤ (k : Int) := by omega
  have q1 : (k : Int) < 27 := by omega
  have q2 : wrap64 ((k : Int) + 1 - 1) = (k : Int) := by rw [wrap64]; omega
  have huH := Lib.hid hu
  clear hz hk hu
  go_enter Tryd.func17, Tryd.ntmps17
  go_wp2_with fail
  refine (rCommands_any w).mono ?_
  rintro e w1 ⟨b, rfl, hb, hB1⟩
  have B1 := Lib.hid hB1
  have k0 := blk_words hb k u huH.out
  rw [Nat.zero_add] at k0
  clear hb hB1
  go_wp2_with fail
  go_ret
  exact ⟨by rw [hres.out]; rfl, B1.out⟩
set_option maxRecDepth 100000 in
set_option maxHeartbeats 4000000 in
theorem rwithin_any (n most : Int) (w : World) : Calls Tryd.prog 66 #[.int .i64 n, .int .i64 most] w fun e w' => e = .returned (.bool (withinB most [n])) ∧ w' = w := by
  have hb : Hid (withinB most [n] = (!(decide (n < 0)) && !(decide (most < n)))) := by unfold Hid withinB; simp
  cases h1 : decide (n < 0)
  case true =>
    have n1 : n < 0 := of_decide_eq_true h1
    have n2 : ¬ 0 ≤ n := by omega
    have n3 : decide (0 ≤ n) = false := decide_eq_false n2
    rw [h1] at hb
    go_enter Tryd.func66, Tryd.ntmps66
    go_wp2_with fail
    go_ret
    exact ⟨by rw [hb.out]; rfl, rfl⟩
  case false =>
    have n1 : ¬ n < 0 := of_decide_eq_false h1
    have n2 : 0 ≤ n := by omega
    have n3 : decide (0 ≤ n) = true := decide_eq_true n2
    rw [h1] at hb
    cases h2 : decide (most < n)
    case true =>
      have m1 : most < n := of_decide_eq_true h2
      have m2 : ¬ n ≤ most := by omega
      have m3 : decide (n ≤ most) = false := decide_eq_false m2
      rw [h2] at hb
      go_enter Tryd.func66, Tryd.ntmps66
      go_wp2_with fail
      go_ret
      exact ⟨by rw [hb.out]; rfl, rfl⟩
    case false =>
      have m1 : ¬ most < n := of_decide_eq_false h2
      have m2 : n ≤ most := by omega
      have m3 : decide (n ≤ most) = true := decide_eq_true m2
      rw [h2] at hb
      go_enter Tryd.func66, Tryd.ntmps66
      go_wp2_with fail
      go_ret
      exact ⟨by rw [hb.out]; rfl, rfl⟩
end Go.Proofs.YtemhiiignamkjaaDoor
