/-
  Layer 46 (script), the specification: decimal, Data.
-/
import Derived.Test.YtldkfhimpkiigaaGreatDoorR46W3
namespace Go.Proofs.YtldkfhimpkiigaaGreatDoor
open Go.RowKit ScrP
attribute [local go_sem] Oper.semAt_some

theorem decOk_short {s : ByteArray} (h : s.size < 1) : decOk s.data.toList = false := by
  have hl : s.data.toList.length = s.size := Array.length_toList
  unfold decOk
  rw [decide_eq_false (by omega)]
  rfl
theorem decOk_long {s : ByteArray} (h : 13 < s.size) : decOk s.data.toList = false := by
  have hl : s.data.toList.length = s.size := Array.length_toList
  unfold decOk
  rw [decide_eq_false (show ¬ s.data.toList.length ≤ 13 by omega), Bool.and_false]
  rfl
theorem decOk_zero {s : ByteArray} (h1 : 1 < s.size) {c : UInt8} (hc : s.data.toList[0]? = some c) (h : c = 48) : decOk s.data.toList = false := by
  have hl : s.data.toList.length = s.size := Array.length_toList
  have hh : s.data.toList.head? = some 48 := by rw [List.head?_eq_getElem?, hc, h]
  unfold decOk
  rw [hh, decide_eq_false (show ¬ s.data.toList.length = 1 by omega)]
  simp
theorem decOk_rest {s : ByteArray} (h0 : 1 ≤ s.size) (h1 : s.size ≤ 13) {c : UInt8} (hc : s.data.toList[0]? = some c) (h : s.size = 1 ∨ c ≠ 48) : decOk s.data.toList = s.data.toList.all isD := by
  have hl : s.data.toList.length = s.size := Array.length_toList
  have hh : s.data.toList.head? = some c := by rw [List.head?_eq_getElem?, hc]
  unfold decOk
  rw [hh, decide_eq_true (show 1 ≤ s.data.toList.length by omega), decide_eq_true (show s.data.toList.length ≤ 13 by omega)]
  rcases h with h | h
  · rw [decide_eq_true (show s.data.toList.length = 1 by omega)]; simp
  · have : (some c == some (48 : UInt8)) = false := by rw [beq_eq_false_iff_ne]; exact fun e => h (Option.some.inj e)
    rw [this]
    simp
theorem all_take_false {l : List UInt8} {i : Nat} {c : UInt8} (hc : l[i]? = some c) (h : isD c = false) : l.all isD = false := by
  rw [Bool.eq_false_iff]
  intro h2
  have := List.all_eq_true.1 h2 c (List.mem_of_getElem? hc)
  rw [h] at this
  cases this
theorem take_m4 {α : Type} {l : List α} {j : Nat} {r : α} (h : l[j]? = some r) : l.take (j + 1) = l.take j ++ [r] := by rw [List.take_add_one, h]; rfl
theorem dec_take {l : List UInt8} {i : Nat} {c : UInt8} (hc : l[i]? = some c) : decVal (l.take (i + 1)) = 10 * decVal (l.take i) + (c.toNat - 48) := by
  rw [take_m4 hc, decVal_snoc]
theorem all_take {l : List UInt8} {i : Nat} {c : UInt8} (hc : l[i]? = some c) (h : (l.take i).all isD = true) (hd : isD c = true) : (l.take (i + 1)).all isD = true := by
  rw [take_m4 hc, List.all_append, h]
  simp [hd]
set_option maxRecDepth 100000 in
set_option maxHeartbeats 4000000 in
theorem rdecimal_any (s : ByteArray) (w : World) (hs : s.size ≤ 140737488355328) : Calls Tryz.prog 35 #[.string s] w fun e w' => e = .returned (.tuple #[.int .i64 (decN s.data.toList : Int), .bool (decOk s.data.toList)]) ∧ w' = w := by
  by_cases h0 : s.size < 1
  · have hR := Lib.hid (decOk_short h0)
    have d1 : decide ((s.size : Int) < 1) = true := decide_eq_true (by omega)
    clear h0
    go_enter Tryz.func35, Tryz.ntmps35
    go_wp2_with fail
    go_ret2
    exact ⟨by unfold decN; rw [hR.out]; rfl, rfl⟩
  · have d1 : decide ((s.size : Int) < 1) = false := decide_eq_false (by omega)
    by_cases h1 : 13 < s.size
    · have hR := Lib.hid (decOk_long h1)
      have d2 : decide ((13 : Int) < (s.size : Int)) = true := decide_eq_true (by omega)
      have d3 : (13 : Int) < (s.size : Int) := by omega
      clear h0 h1
      go_enter Tryz.func35, Tryz.ntmps35
      go_wp2_with fail
      go_ret2
      exact ⟨by unfold decN; rw [hR.out]; rfl, rfl⟩
    · have d2 : decide ((13 : Int) < (s.size : Int)) = false := decide_eq_false (by omega)
      obtain ⟨c0, hc0⟩ : ∃ c, s.data.toList[0]? = some c := ⟨_, List.getElem?_eq_getElem (by rw [show s.data.toList.length = s.size from Array.length_toList]; omega)⟩
      have i0 : ∀ wx, (Instr.index 9 (.string s) (.int .i64 0)).run Tryz.prog wx = .ok (.int .u8 (c0.toNat : Int)) wx := str_index hc0
      have hi0 := Lib.hid i0
      by_cases hz : 1 < s.size ∧ c0 = 48
      · have hR := Lib.hid (decOk_zero hz.1 hc0 hz.2)
        have d3 : decide ((1 : Int) < (s.size : Int)) = true := decide_eq_true (by omega)
        have d5 : (1 : Int) < (s.size : Int) := by omega
        have d4 : ((c0.toNat : Int) == 48) = true := by rw [hz.2]; rfl
        clear hz hc0 h0 h1
        go_enter Tryz.func35, Tryz.ntmps35
        go_wp2_with fail
        go_ret2
        exact ⟨by unfold decN; rw [hR.out]; rfl, rfl⟩
      · have hR := Lib.hid (decOk_rest (s := s) (by omega) (by omega) hc0 (by
          by_cases h : s.size = 1
          · exact .inl h
          · exact .inr fun e => hz ⟨by omega, e⟩))
        have h13 := Lib.hid (show s.size ≤ 13 by omega)
        have hT : Hid (decide ((1 : Int) < (s.size : Int)) = false ∨ ((c0.toNat : Int) == 48) = false) := by
          by_cases h : 1 < s.size
          · right
            rw [beq_eq_false_iff_ne]
            intro e
            exact hz ⟨h, UInt8.toNat_inj.1 (by rw [show (48 : UInt8).toNat = 48 from rfl]; omega)⟩
          · exact .inl (decide_eq_false (by omega))
        have hlen : Hid (s.data.toList.length = s.size) := Array.length_toList
        clear hz hc0 h0 h1 i0
        -- LOOP
        rcases hT.out with d3 | d4
        · have d5 : ¬ (1 : Int) < (s.size : Int) := of_decide_eq_false d3
          clear hT
          go_enter Tryz.func35, Tryz.ntmps35
          go_wp2_with fail
          go_loopw [4, 5] (fun v4 v5 wr => ∃ i : Nat, v4 = .int .i64 (decVal (s.data.toList.take i) : Int) ∧ v5 = .int .i64 (i : Int) ∧ Hid (i ≤ s.size) ∧ Hid ((s.data.toList.take i).all isD = true) ∧ wr = w) (fun _ v5 _ => s.size - (intOf v5).toNat)
          case atStart => exact ⟨0, rfl, rfl, Nat.zero_le _, rfl, rfl⟩
          case round =>
            obtain ⟨i, rfl, rfl, hi, hA, rfl⟩ := hrel
            have hD := dec_small _ hA.out
            have hDl : (s.data.toList.take i).length = i := by rw [List.length_take, hlen.out]; have := hi.out; omega
            rw [hDl] at hD
            have hp : 10 ^ i ≤ 10 ^ 13 := Nat.pow_le_pow_right (by decide) (by have := hi.out; have := h13.out; omega)
            have hD13 : Hid (decVal (s.data.toList.take i) ≤ 10000000000000) := by unfold Hid; omega
            obtain ⟨D, hDD⟩ : ∃ D, decVal (s.data.toList.take i) = D := ⟨_, rfl⟩
            rw [hDD] at hD13 ⊢
            have hDH := Lib.hid hDD
            clear hD hDl hp hDD
            by_cases hlt : i < s.size
            · have e1 : decide (i < s.size) = true := decide_eq_true hlt
              have e2 : decide ((i : Int) < (s.size : Int)) = true := decide_eq_true (by omega)
              obtain ⟨c, hc⟩ : ∃ c, s.data.toList[i]? = some c := ⟨_, List.getElem?_eq_getElem (by rw [hlen.out]; exact hlt)⟩
              have ic := str_index hc
              have hcH := Lib.hid hc
              have hltH := Lib.hid hlt
              by_cases hlo : c.toNat < 48
              · have f1 : decide ((c.toNat : Int) < 48) = true := decide_eq_true (by omega)
                have hF : Hid (decOk s.data.toList = false) := by unfold Hid; rw [hR.out]; exact all_take_false hc (by unfold isD; rw [decide_eq_false (by omega)]; rfl)
                clear hc hlt hlo
                go_wp2_with fail
                go_ret2
                exact ⟨by unfold decN; rw [hF.out]; rfl, rfl⟩
              · have f1 : decide ((c.toNat : Int) < 48) = false := decide_eq_false (by omega)
                by_cases hhi : 57 < c.toNat
                · have f2 : decide ((57 : Int) < (c.toNat : Int)) = true := decide_eq_true (by omega)
                  have hF : Hid (decOk s.data.toList = false) := by unfold Hid; rw [hR.out]; exact all_take_false hc (by unfold isD; rw [decide_eq_false (show ¬ c.toNat ≤ 57 by omega), Bool.and_false])
                  clear hc hlt hlo hhi
                  go_wp2_with fail
                  go_ret2
                  exact ⟨by unfold decN; rw [hF.out]; rfl, rfl⟩
                · have f2 : decide ((57 : Int) < (c.toNat : Int)) = false := decide_eq_false (by omega)
                  obtain ⟨d, hd⟩ : ∃ d : Nat, c.toNat = d + 48 := ⟨c.toNat - 48, by omega⟩
                  have g1 : (c.toNat : Int) - 48 = (d : Int) := by omega
                  have g2 : d ≤ 9 := by omega
                  have hstep : Hid (decVal (s.data.toList.take (i + 1)) = 10 * D + d) := by unfold Hid; rw [dec_take hc, hDH.out, hd]; omega
                  have hall := Lib.hid (all_take hc hA.out (by unfold isD; rw [decide_eq_true (by omega), decide_eq_true (by omega)]; rfl))
                  obtain ⟨z, hz⟩ : ∃ z : Nat, z = 10 * D + d := ⟨_, rfl⟩
                  have hzH := Lib.hid hz
                  have g3 : (10 : Int) * (D : Int) + (d : Int) = (z : Int) := by omega
                  have g4 : D ≤ 10000000000000 := hD13.out
                  have g5 : i < 13 := by have := h13.out; omega
                  clear hc hlt hlo hhi hd hz
                  go_wp2_with fail
                  go_roundw
                  case rel => exact ⟨i + 1, by rw [hstep.out, ← hzH.out], by go_num, hltH.out, hall.out, by first | rfl | trivial⟩
                  case measure => have := hltH.out; simp [intOf]; omega
            · have e1 : decide (i < s.size) = false := decide_eq_false hlt
              have e2 : decide ((i : Int) < (s.size : Int)) = false := decide_eq_false (by omega)
              have hT2 : Hid (decOk s.data.toList = true ∧ decN s.data.toList = D) := by
                have hi2 := hi.out
                have ht : s.data.toList.take i = s.data.toList := List.take_of_length_le (by rw [hlen.out]; omega)
                have hA2 := hA.out
                have hD2 := hDH.out
                rw [ht] at hA2 hD2
                have : decOk s.data.toList = true := by rw [hR.out]; exact hA2
                exact ⟨this, by unfold decN; rw [if_pos this]; exact hD2⟩
              go_wp2_with fail
              go_ret2
              exact ⟨by rw [hT2.out.1, hT2.out.2]; rfl, rfl⟩
        · have i0 := hi0.out
          by_cases h1s : (1 : Int) < (s.size : Int)
          · have d3 : decide ((1 : Int) < (s.size : Int)) = true := decide_eq_true h1s
            clear hT
            go_enter Tryz.func35, Tryz.ntmps35
            go_wp2_with fail
            go_loopw [4, 5] (fun v4 v5 wr => ∃ i : Nat, v4 = .int .i64 (decVal (s.data.toList.take i) : Int) ∧ v5 = .int .i64 (i : Int) ∧ Hid (i ≤ s.size) ∧ Hid ((s.data.toList.take i).all isD = true) ∧ wr = w) (fun _ v5 _ => s.size - (intOf v5).toNat)
            case atStart => exact ⟨0, rfl, rfl, Nat.zero_le _, rfl, rfl⟩
            case round =>
              obtain ⟨i, rfl, rfl, hi, hA, rfl⟩ := hrel
              have hD := dec_small _ hA.out
              have hDl : (s.data.toList.take i).length = i := by rw [List.length_take, hlen.out]; have := hi.out; omega
              rw [hDl] at hD
              have hp : 10 ^ i ≤ 10 ^ 13 := Nat.pow_le_pow_right (by decide) (by have := hi.out; have := h13.out; omega)
              have hD13 : Hid (decVal (s.data.toList.take i) ≤ 10000000000000) := by unfold Hid; omega
              obtain ⟨D, hDD⟩ : ∃ D, decVal (s.data.toList.take i) = D := ⟨_, rfl⟩
              rw [hDD] at hD13 ⊢
              have hDH := Lib.hid hDD
              clear hD hDl hp hDD
              by_cases hlt : i < s.size
              · have e1 : decide (i < s.size) = true := decide_eq_true hlt
                have e2 : decide ((i : Int) < (s.size : Int)) = true := decide_eq_true (by omega)
                obtain ⟨c, hc⟩ : ∃ c, s.data.toList[i]? = some c := ⟨_, List.getElem?_eq_getElem (by rw [hlen.out]; exact hlt)⟩
                have ic := str_index hc
                have hcH := Lib.hid hc
                have hltH := Lib.hid hlt
                by_cases hlo : c.toNat < 48
                · have f1 : decide ((c.toNat : Int) < 48) = true := decide_eq_true (by omega)
                  have hF : Hid (decOk s.data.toList = false) := by unfold Hid; rw [hR.out]; exact all_take_false hc (by unfold isD; rw [decide_eq_false (by omega)]; rfl)
                  clear hc hlt hlo
                  go_wp2_with fail
                  go_ret2
                  exact ⟨by unfold decN; rw [hF.out]; rfl, rfl⟩
                · have f1 : decide ((c.toNat : Int) < 48) = false := decide_eq_false (by omega)
                  by_cases hhi : 57 < c.toNat
                  · have f2 : decide ((57 : Int) < (c.toNat : Int)) = true := decide_eq_true (by omega)
                    have hF : Hid (decOk s.data.toList = false) := by unfold Hid; rw [hR.out]; exact all_take_false hc (by unfold isD; rw [decide_eq_false (show ¬ c.toNat ≤ 57 by omega), Bool.and_false])
                    clear hc hlt hlo hhi
                    go_wp2_with fail
                    go_ret2
                    exact ⟨by unfold decN; rw [hF.out]; rfl, rfl⟩
                  · have f2 : decide ((57 : Int) < (c.toNat : Int)) = false := decide_eq_false (by omega)
                    obtain ⟨d, hd⟩ : ∃ d : Nat, c.toNat = d + 48 := ⟨c.toNat - 48, by omega⟩
                    have g1 : (c.toNat : Int) - 48 = (d : Int) := by omega
                    have g2 : d ≤ 9 := by omega
                    have hstep : Hid (decVal (s.data.toList.take (i + 1)) = 10 * D + d) := by unfold Hid; rw [dec_take hc, hDH.out, hd]; omega
                    have hall := Lib.hid (all_take hc hA.out (by unfold isD; rw [decide_eq_true (by omega), decide_eq_true (by omega)]; rfl))
                    obtain ⟨z, hz⟩ : ∃ z : Nat, z = 10 * D + d := ⟨_, rfl⟩
                    have hzH := Lib.hid hz
                    have g3 : (10 : Int) * (D : Int) + (d : Int) = (z : Int) := by omega
                    have g4 : D ≤ 10000000000000 := hD13.out
                    have g5 : i < 13 := by have := h13.out; omega
                    clear hc hlt hlo hhi hd hz
                    go_wp2_with fail
                    go_roundw
                    case rel => exact ⟨i + 1, by rw [hstep.out, ← hzH.out], by go_num, hltH.out, hall.out, by first | rfl | trivial⟩
                    case measure => have := hltH.out; simp [intOf]; omega
              · have e1 : decide (i < s.size) = false := decide_eq_false hlt
                have e2 : decide ((i : Int) < (s.size : Int)) = false := decide_eq_false (by omega)
                have hT2 : Hid (decOk s.data.toList = true ∧ decN s.data.toList = D) := by
                  have hi2 := hi.out
                  have ht : s.data.toList.take i = s.data.toList := List.take_of_length_le (by rw [hlen.out]; omega)
                  have hA2 := hA.out
                  have hD2 := hDH.out
                  rw [ht] at hA2 hD2
                  have : decOk s.data.toList = true := by rw [hR.out]; exact hA2
                  exact ⟨this, by unfold decN; rw [if_pos this]; exact hD2⟩
                go_wp2_with fail
                go_ret2
                exact ⟨by rw [hT2.out.1, hT2.out.2]; rfl, rfl⟩
          · have d3 : decide ((1 : Int) < (s.size : Int)) = false := decide_eq_false h1s
            clear hT
            go_enter Tryz.func35, Tryz.ntmps35
            go_wp2_with fail
            go_loopw [4, 5] (fun v4 v5 wr => ∃ i : Nat, v4 = .int .i64 (decVal (s.data.toList.take i) : Int) ∧ v5 = .int .i64 (i : Int) ∧ Hid (i ≤ s.size) ∧ Hid ((s.data.toList.take i).all isD = true) ∧ wr = w) (fun _ v5 _ => s.size - (intOf v5).toNat)
            case atStart => exact ⟨0, rfl, rfl, Nat.zero_le _, rfl, rfl⟩
            case round =>
              obtain ⟨i, rfl, rfl, hi, hA, rfl⟩ := hrel
              have hD := dec_small _ hA.out
              have hDl : (s.data.toList.take i).length = i := by rw [List.length_take, hlen.out]; have := hi.out; omega
              rw [hDl] at hD
              have hp : 10 ^ i ≤ 10 ^ 13 := Nat.pow_le_pow_right (by decide) (by have := hi.out; have := h13.out; omega)
              have hD13 : Hid (decVal (s.data.toList.take i) ≤ 10000000000000) := by unfold Hid; omega
              obtain ⟨D, hDD⟩ : ∃ D, decVal (s.data.toList.take i) = D := ⟨_, rfl⟩
              rw [hDD] at hD13 ⊢
              have hDH := Lib.hid hDD
              clear hD hDl hp hDD
              by_cases hlt : i < s.size
              · have e1 : decide (i < s.size) = true := decide_eq_true hlt
                have e2 : decide ((i : Int) < (s.size : Int)) = true := decide_eq_true (by omega)
                obtain ⟨c, hc⟩ : ∃ c, s.data.toList[i]? = some c := ⟨_, List.getElem?_eq_getElem (by rw [hlen.out]; exact hlt)⟩
                have ic := str_index hc
                have hcH := Lib.hid hc
                have hltH := Lib.hid hlt
                by_cases hlo : c.toNat < 48
                · have f1 : decide ((c.toNat : Int) < 48) = true := decide_eq_true (by omega)
                  have hF : Hid (decOk s.data.toList = false) := by unfold Hid; rw [hR.out]; exact all_take_false hc (by unfold isD; rw [decide_eq_false (by omega)]; rfl)
                  clear hc hlt hlo
                  go_wp2_with fail
                  go_ret2
                  exact ⟨by unfold decN; rw [hF.out]; rfl, rfl⟩
                · have f1 : decide ((c.toNat : Int) < 48) = false := decide_eq_false (by omega)
                  by_cases hhi : 57 < c.toNat
                  · have f2 : decide ((57 : Int) < (c.toNat : Int)) = true := decide_eq_true (by omega)
                    have hF : Hid (decOk s.data.toList = false) := by unfold Hid; rw [hR.out]; exact all_take_false hc (by unfold isD; rw [decide_eq_false (show ¬ c.toNat ≤ 57 by omega), Bool.and_false])
                    clear hc hlt hlo hhi
                    go_wp2_with fail
                    go_ret2
                    exact ⟨by unfold decN; rw [hF.out]; rfl, rfl⟩
                  · have f2 : decide ((57 : Int) < (c.toNat : Int)) = false := decide_eq_false (by omega)
                    obtain ⟨d, hd⟩ : ∃ d : Nat, c.toNat = d + 48 := ⟨c.toNat - 48, by omega⟩
                    have g1 : (c.toNat : Int) - 48 = (d : Int) := by omega
                    have g2 : d ≤ 9 := by omega
                    have hstep : Hid (decVal (s.data.toList.take (i + 1)) = 10 * D + d) := by unfold Hid; rw [dec_take hc, hDH.out, hd]; omega
                    have hall := Lib.hid (all_take hc hA.out (by unfold isD; rw [decide_eq_true (by omega), decide_eq_true (by omega)]; rfl))
                    obtain ⟨z, hz⟩ : ∃ z : Nat, z = 10 * D + d := ⟨_, rfl⟩
                    have hzH := Lib.hid hz
                    have g3 : (10 : Int) * (D : Int) + (d : Int) = (z : Int) := by omega
                    have g4 : D ≤ 10000000000000 := hD13.out
                    have g5 : i < 13 := by have := h13.out; omega
                    clear hc hlt hlo hhi hd hz
                    go_wp2_with fail
                    go_roundw
                    case rel => exact ⟨i + 1, by rw [hstep.out, ← hzH.out], by go_num, hltH.out, hall.out, by first | rfl | trivial⟩
                    case measure => have := hltH.out; simp [intOf]; omega
              · have e1 : decide (i < s.size) = false := decide_eq_false hlt
                have e2 : decide ((i : Int) < (s.size : Int)) = false := decide_eq_false (by omega)
                have hT2 : Hid (decOk s.data.toList = true ∧ decN s.data.toList = D) := by
                  have hi2 := hi.out
                  have ht : s.data.toList.take i = s.data.toList := List.take_of_length_le (by rw [hlen.out]; omega)
                  have hA2 := hA.out
                  have hD2 := hDH.out
                  rw [ht] at hA2 hD2
                  have : decOk s.data.toList = true := by rw [hR.out]; exact hA2
                  exact ⟨this, by unfold decN; rw [if_pos this]; exact hD2⟩
                go_wp2_with fail
                go_ret2
                exact ⟨by rw [hT2.out.1, hT2.out.2]; rfl, rfl⟩
end Go.Proofs.YtldkfhimpkiigaaGreatDoor
