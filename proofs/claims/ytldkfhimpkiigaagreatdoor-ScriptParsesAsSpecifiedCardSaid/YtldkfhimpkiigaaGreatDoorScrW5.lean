/-
  Layer 46 (script): the closures of Check and Parse; texts in rows; Check.
-/
import Derived.Test.YtldkfhimpkiigaaGreatDoorScrW4
import Derived.Test.YtldkfhimpkiigaaGreatDoorScrP2
namespace Go.Proofs.YtldkfhimpkiigaaGreatDoor
open Go.RowKit ScrP
attribute [local go_sem] Oper.semAt_some

theorem blank_pred (w : World) : PredAt Tryz.prog 55 #[] encR (fun r => r == 32) w := fun W r _ => by
  unfold FnGives
  have z : ((r : Int) == 32) = (r == 32) := by
    rw [Bool.eq_iff_iff, beq_iff_eq, beq_iff_eq]
    omega
  obtain ⟨b, h⟩ : ∃ b, (r == 32) = b := ⟨_, rfl⟩
  have hH := Lib.hid h
  rw [h] at z
  clear h
  cases b
  all_goals
    go_enter Tryz.func55, Tryz.ntmps55
    go_wp2_with fail
    go_ret
    exact ⟨by rw [hH.out]; rfl, 0, rfl⟩
theorem rune_pred (w : World) : PredAt Tryz.prog 39 #[] encR oddR w := fun W r _ => by
  unfold FnGives
  by_cases h10 : r = 10
  · have hR : Hid (oddR r = false) := by unfold Hid oddR; rw [h10]; rfl
    have z : ((r : Int) != 10) = false := by rw [h10]; rfl
    clear h10
    go_enter Tryz.func39, Tryz.ntmps39
    go_wp2_with fail
    go_ret
    exact ⟨by rw [hR.out]; rfl, 0, rfl⟩
  · have z : ((r : Int) != 10) = true := by rw [bne_iff_ne]; omega
    have e10 : (r == 10) = false := beq_eq_false_iff_ne.2 h10
    by_cases h32 : r < 32
    · have hR : Hid (oddR r = true) := by unfold Hid oddR; rw [e10, decide_eq_true h32]; rfl
      have d1 : decide ((r : Int) < 32) = true := decide_eq_true (by omega)
      clear h10 h32 e10
      go_enter Tryz.func39, Tryz.ntmps39
      go_wp2_with fail
      go_ret
      exact ⟨by rw [hR.out]; rfl, 0, rfl⟩
    · have d1 : decide ((r : Int) < 32) = false := decide_eq_false (by omega)
      by_cases h126 : 126 < r
      · have hR : Hid (oddR r = true) := by unfold Hid oddR; rw [e10, decide_eq_true h126, Bool.or_true]; rfl
        have d2 : decide ((126 : Int) < (r : Int)) = true := decide_eq_true (by omega)
        clear h10 h32 h126 e10
        go_enter Tryz.func39, Tryz.ntmps39
        go_wp2_with fail
        go_ret
        exact ⟨by rw [hR.out]; rfl, 0, rfl⟩
      · have hR : Hid (oddR r = false) := by unfold Hid oddR; rw [e10, decide_eq_false h32, decide_eq_false h126]; rfl
        have d2 : decide ((126 : Int) < (r : Int)) = false := decide_eq_false (by omega)
        clear h10 h32 h126 e10
        go_enter Tryz.func39, Tryz.ntmps39
        go_wp2_with fail
        go_ret
        exact ⟨by rw [hR.out]; rfl, 0, rfl⟩
theorem LongC_any (t : ByteArray) (w : World) (ht : t.size ≤ 140737488355328) : Calls Tryz.prog 36 #[.string t] w fun e w' => e = .returned (.bool (decide (4000 < t.size))) ∧ Below w.heap.size w w' := by
  by_cases h : 4000 < t.size
  · have d1 : decide (4000 < t.size) = true := decide_eq_true h
    have d2 : decide ((4000 : Int) < (t.size : Int)) = true := decide_eq_true (by omega)
    have d1H := Lib.hid d1
    clear h
    go_enter Tryz.func36, Tryz.ntmps36
    go_wp2_with fail
    go_ret
    exact ⟨by rw [d1H.out]; rfl, Below.refl _ _⟩
  · have d1 : decide (4000 < t.size) = false := decide_eq_false h
    have d2 : decide ((4000 : Int) < (t.size : Int)) = false := decide_eq_false (by omega)
    have d1H := Lib.hid d1
    clear h
    go_enter Tryz.func36, Tryz.ntmps36
    go_wp2_with fail
    go_ret
    exact ⟨by rw [d1H.out]; rfl, Below.refl _ _⟩
theorem OddC_any (t : ByteArray) (w : World) : Calls Tryz.prog 37 #[.string t] w fun e w' => e = .returned (.bool (oddT t)) ∧ Below w.heap.size w w' := by
  have H := Lib.hid (Tryz.strings_ContainsFunc 39 #[] (enters_of Tryz.func39 (by kernel_rfl) rfl) oddR t w (rune_pred w))
  rw [odd_runes] at H
  obtain ⟨b, hb⟩ : ∃ b, oddT t = b := ⟨_, rfl⟩
  rw [hb] at H
  have hbH := Lib.hid hb
  clear hb
  go_enter Tryz.func37, Tryz.ntmps37
  go_wp2_with fail
  refine H.out.mono ?_
  rintro e w1 ⟨rfl, hB1⟩
  have B1 := Lib.hid hB1
  clear hB1 H
  go_wp2_with fail
  go_ret
  exact ⟨by rw [hbH.out]; rfl, B1.out⟩
section
variable {g : Nat} {p : ByteArray → Bool}
set_option maxRecDepth 100000 in
set_option maxHeartbeats 4000000 in
theorem IdxStr_any (F : ∀ (t : ByteArray) (w : World), t.size ≤ 140737488355328 → Calls Tryz.prog g #[.string t] w fun e w' => e = .returned (.bool (p t)) ∧ Below w.heap.size w w') (eg : ∀ args w, (callFunc g args).run Tryz.prog w = .ok (.enter g args) w)
    (l : List ByteArray) (v : Value) (B : Nat) (w : World) (h : RowAt w B v l.length (strsC l)) (hB : B ≤ w.heap.size) (hl : l.length ≤ 17592186044416) (ht : ∀ t ∈ l, t.size ≤ 140737488355328) :
    Calls Tryz.prog 73 #[v, .func (.func g) #[] #[]] w fun e w' => e = .returned (.int .i64 (idxOf p l)) ∧ Below w.heap.size w w' := by
  obtain ⟨A, c, rfl, hA⟩ := id h
  clear hA
  have HA := Lib.hid h
  have HF := Lib.hid F
  have HT := Lib.hid ht
  have hBH := Lib.hid hB
  have egH := Lib.hid eg
  obtain ⟨n, hn⟩ : ∃ n, l.length = n := ⟨_, rfl⟩
  have hnH := Lib.hid hn
  rw [hn] at hl HA ⊢
  clear h hn F ht hB
  go_enter Tryz.func73, Tryz.ntmps73
  go_wp2_with fail
  go_loopw [8] (fun v8 wr => ∃ i : Nat, v8 = .int .i64 (i : Int) ∧ i ≤ n ∧ Hid (l.findIdx p = i + (l.drop i).findIdx p) ∧ Hid (Below w.heap.size w wr)) (fun v8 _ => n - (intOf v8).toNat)
  case atStart => exact ⟨0, rfl, Nat.zero_le _, by unfold Hid; rw [List.drop_zero, Nat.zero_add], Below.refl _ _⟩
  case round =>
  obtain ⟨i, rfl, hi, hE, hL⟩ := hrel
  obtain ⟨w1, hw1⟩ : ∃ x, x = wr := ⟨_, rfl⟩
  subst hw1
  by_cases hlt : i < n
  · have d1 : decide (i < n) = true := decide_eq_true hlt
    have d2 : decide ((i : Int) < (n : Int)) = true := decide_eq_true (by omega)
    obtain ⟨z, hz⟩ : ∃ z, l[i]? = some z := ⟨_, List.getElem?_eq_getElem (by rw [hnH.out]; exact hlt)⟩
    obtain ⟨A', c', hv, hA⟩ := HA.out.below (hL.out.mono hBH.out)
    cases hv
    obtain ⟨b, o, rfl, _, hc⟩ := hA (by omega)
    have k0 := hc i (.string z) (by unfold strsC; rw [List.getElem?_map, hz]; rfl)
    have hstep := Lib.hid (idx_step p hz)
    have HC := Lib.hid (HF.out z w1 (HT.out z (List.mem_iff_getElem?.2 ⟨i, hz⟩)))
    have q0 : (0 : Int) ≤ (i : Int) := by omega
    have q1 : (i : Int) < (n : Int) := by omega
    have hltH := Lib.hid hlt
    obtain ⟨t, ht⟩ : ∃ t, p z = t := ⟨_, rfl⟩
    rw [ht] at HC hstep
    clear hz hlt hc ht hA
    cases t
    case true =>
      rw [if_pos rfl] at hstep
      have hR : Hid (idxOf p l = (i : Int)) := by
        unfold Hid idxOf
        rw [hE.out, hstep.out, hnH.out, if_pos (by have := hltH.out; omega)]
        rfl
      go_wp2_with (go_at_fn g; refine HC.out.mono ?_; rintro e w2 ⟨rfl, hB2⟩; have L2 := Lib.hid (hL.out.trans (hB2.mono hL.out.size)); clear hB2 k0 HC hL)
      go_ret
      exact ⟨by rw [hR.out]; rfl, L2.out⟩
    case false =>
      rw [if_neg (by decide)] at hstep
      go_wp2_with (go_at_fn g; refine HC.out.mono ?_; rintro e w2 ⟨rfl, hB2⟩; have L2 := Lib.hid (hL.out.trans (hB2.mono hL.out.size)); clear hB2 k0 HC hL)
      go_roundw
      case rel => exact ⟨i + 1, by go_num, hltH.out, by unfold Hid; rw [hE.out, hstep.out]; omega, L2⟩
      case measure => have := hltH.out; simp [intOf]; omega
  · have d1 : decide (i < n) = false := decide_eq_false hlt
    have d2 : decide ((i : Int) < (n : Int)) = false := decide_eq_false (by omega)
    have hR : Hid (idxOf p l = -1) := by
      unfold Hid idxOf
      rw [hE.out, hnH.out, if_neg (by omega)]
    clear hlt
    go_wp2_with fail
    go_ret
    exact ⟨by rw [hR.out]; rfl, hL.out⟩
theorem HasStr_any (F : ∀ (t : ByteArray) (w : World), t.size ≤ 140737488355328 → Calls Tryz.prog g #[.string t] w fun e w' => e = .returned (.bool (p t)) ∧ Below w.heap.size w w') (eg : ∀ args w, (callFunc g args).run Tryz.prog w = .ok (.enter g args) w)
    (l : List ByteArray) (v : Value) (B : Nat) (w : World) (h : RowAt w B v l.length (strsC l)) (hB : B ≤ w.heap.size) (hl : l.length ≤ 17592186044416) (ht : ∀ t ∈ l, t.size ≤ 140737488355328) :
    Calls Tryz.prog 40 #[v, .func (.func g) #[] #[]] w fun e w' => e = .returned (.bool (l.any p)) ∧ Below w.heap.size w w' := by
  have H := Lib.hid (IdxStr_any F eg l v B w h hB hl ht)
  have hb := Lib.hid (idxOf_any p l)
  obtain ⟨z, hz⟩ : ∃ z, idxOf p l = z := ⟨_, rfl⟩
  rw [hz] at H hb
  obtain ⟨A, c, rfl, _⟩ := h
  clear hz hl F eg ht hB
  go_enter Tryz.func40, Tryz.ntmps40
  go_wp2_with fail
  refine H.out.mono ?_
  rintro e w1 ⟨rfl, hB1⟩
  have B1 := Lib.hid hB1
  clear hB1 H
  go_wp2_with fail
  go_ret
  exact ⟨by rw [← hb.out]; rfl, B1.out⟩
end
end Go.Proofs.YtldkfhimpkiigaaGreatDoor
