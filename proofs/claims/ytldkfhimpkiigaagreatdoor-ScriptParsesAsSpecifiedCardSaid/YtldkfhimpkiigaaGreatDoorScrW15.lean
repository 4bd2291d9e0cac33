/-
  Layer 46 (script): the specification's SameInts.
-/
import Derived.Test.YtldkfhimpkiigaaGreatDoorScrW4
import Derived.Deep.QuietTactic
import Derived.BigQuiet
namespace Go.Proofs.YtldkfhimpkiigaaGreatDoor
open Go.RowKit ScrP
attribute [local go_sem] Oper.semAt_some

theorem RowAt.cellOf {w : World} {B : Nat} {A : Option Addr} {n c : Nat} {cs : List Value} (h : RowAt w B (.slice A n c) n cs) (hn : 0 < n) : ∃ b o, A = some ⟨b, o, none⟩ ∧ b < B ∧ ∀ j x, cs[j]? = some x → w.cell? ⟨b, o + j, none⟩ = some x := by
  obtain ⟨A', c', hv, h⟩ := h
  cases hv
  exact h hn
theorem drop_dec {α : Type} [DecidableEq α] {l m : List α} {k : Nat} {x y : α} (hx : l[k]? = some x) (hy : m[k]? = some y) : decide (l.drop k = m.drop k) = (decide (x = y) && decide (l.drop (k + 1) = m.drop (k + 1))) := by
  obtain ⟨h1, h2⟩ := List.getElem?_eq_some_iff.1 hx
  obtain ⟨h3, h4⟩ := List.getElem?_eq_some_iff.1 hy
  rw [List.drop_eq_getElem_cons h1, h2, List.drop_eq_getElem_cons h3, h4, Bool.eq_iff_iff, Bool.and_eq_true, decide_eq_true_iff, decide_eq_true_iff, decide_eq_true_iff, List.cons.injEq]
set_option maxRecDepth 100000 in
set_option maxHeartbeats 4000000 in
theorem SameInts_any (l m : List Int) (u v : Value) (B : Nat) (w : World) (hu : RowAt w B u l.length (intsC l)) (hv : RowAt w B v m.length (intsC m)) (hB : B ≤ w.heap.size) (hl : l.length ≤ 17592186044416) :
    Calls Tryz.prog 53 #[u, v] w fun e w' => e = .returned (.bool (decide (l = m))) ∧ ∃ q, w' = w.drewN q := by
  obtain ⟨Au, cu, rfl, _⟩ := id hu
  obtain ⟨Av, cv, rfl, _⟩ := id hv
  have HU := Lib.hid hu
  have HV := Lib.hid hv
  have hBH := Lib.hid hB
  clear hu hv hB
  by_cases hlen : l.length = m.length
  case neg =>
    have hF : Hid (decide (l = m) = false) := decide_eq_false (fun e => hlen (by rw [e]))
    obtain ⟨N, hN⟩ : ∃ n, l.length = n := ⟨_, rfl⟩
    obtain ⟨M, hM⟩ : ∃ n, m.length = n := ⟨_, rfl⟩
    rw [hN, hM] at hlen ⊢
    have d1 : ((N : Int) != (M : Int)) = true := by rw [bne_iff_ne]; omega
    have d2 : (N != M) = true := by rw [bne_iff_ne]; exact hlen
    clear hN hM hlen HU HV hl
    go_enter Tryz.func53, Tryz.ntmps53
    go_wp2_with fail
    go_ret
    exact ⟨by rw [hF.out]; rfl, 0, rfl⟩
  case pos =>
  obtain ⟨N, hN⟩ : ∃ n, m.length = n := ⟨_, rfl⟩
  rw [hlen, hN] at HU
  rw [hN] at HV
  rw [hlen, hN] at hl
  have hNl := Lib.hid (hlen.trans hN)
  have hNm := Lib.hid hN
  rw [hlen, hN]
  clear hlen hN
  go_enter Tryz.func53, Tryz.ntmps53
  go_wp2_with fail
  go_loopw [5] (fun a wr => ∃ k : Nat, k ≤ N ∧ a = .int .i64 k ∧ Hid (decide (l = m) = decide (l.drop k = m.drop k)) ∧ ∃ q, wr = w.drewN q) (fun a _ => N - (intOf a).toNat)
  case atStart => exact ⟨0, Nat.zero_le _, rfl, rfl, 0, rfl⟩
  case round =>
  obtain ⟨k, hk, rfl, hE, q, hq⟩ := hrel
  by_cases hkl : k < N
  · obtain ⟨x, hx⟩ : ∃ t, l[k]? = some t := ⟨_, List.getElem?_eq_getElem (by rw [hNl.out]; exact hkl)⟩
    obtain ⟨y, hy⟩ : ∃ t, m[k]? = some t := ⟨_, List.getElem?_eq_getElem (by rw [hNm.out]; exact hkl)⟩
    obtain ⟨gu, ou, rfl, _, hcu⟩ := HU.out.cellOf (by omega)
    obtain ⟨gv, ov, rfl, _, hcv⟩ := HV.out.cellOf (by omega)
    have c0 : wr.cell? ⟨gu, ou + k, none⟩ = some (.int .i64 x) := by rw [hq]; exact hcu k _ (by unfold intsC; rw [List.getElem?_map, hx]; rfl)
    have c1 : wr.cell? ⟨gv, ov + k, none⟩ = some (.int .i64 y) := by rw [hq]; exact hcv k _ (by unfold intsC; rw [List.getElem?_map, hy]; rfl)
    have d1 : decide (k < N) = true := decide_eq_true hkl
    have d2 : decide ((k : Int) < (N : Int)) = true := decide_eq_true (by omega)
    have hst := Lib.hid (drop_dec hx hy)
    have hkH := Lib.hid hkl
    have q0 : (0 : Int) ≤ (k : Int) := by omega
    have q1 : (k : Int) < (N : Int) := by omega
    have q2 : (N : Int) ≤ 17592186044416 := by omega
    have hqH := Lib.hid hq
    clear hx hy hcu hcv hkl hq hk
    by_cases hxy : x = y
    · subst hxy
      go_wp2_with (go_quiet (fail))
      go_roundw
      case rel => exact ⟨k + 1, hkH.out, by go_num, by unfold Hid; rw [hE.out, hst.out]; simp, _, by rw [hqH.out, World.drewN_drewN]⟩
      case measure => have := hkH.out; simp [intOf]; omega
    · have d3 : (x != y) = true := by rw [bne_iff_ne]; exact hxy
      have d4 : (x == y) = false := by rw [beq_eq_false_iff_ne]; exact hxy
      have hF : Hid (decide (l = m) = false) := by unfold Hid; rw [hE.out, hst.out, decide_eq_false hxy]; rfl
      clear hxy
      go_wp2_with (go_quiet (fail))
      go_ret
      exact ⟨by rw [hF.out]; rfl, _, by rw [hqH.out, World.drewN_drewN]⟩
  · have d1 : decide (k < N) = false := decide_eq_false hkl
    have d2 : decide ((k : Int) < (N : Int)) = false := decide_eq_false (by omega)
    have hT : Hid (decide (l = m) = true) := by unfold Hid; rw [hE.out, List.drop_eq_nil_of_le (by rw [hNl.out]; omega), List.drop_eq_nil_of_le (by rw [hNm.out]; omega)]; rfl
    clear hkl
    go_wp2_with fail
    go_ret
    exact ⟨by rw [hT.out]; rfl, q, rfl⟩
end Go.Proofs.YtldkfhimpkiigaaGreatDoor
