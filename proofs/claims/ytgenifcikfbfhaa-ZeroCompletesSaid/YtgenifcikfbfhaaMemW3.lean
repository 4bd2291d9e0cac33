/-
  Layer 22 (memory): the iterator over the sectors that satisfy a condition.
-/
import Derived.Test.YtgenifcikfbfhaaMemW2
import Derived.Test.YtgenifcikfbfhaaRangeAll
import Derived.Shelf.Abstract
import Derived.Shelf.RegionOpen
import Derived.OwnWalkIn
import Derived.TacticsInMore
import Derived.LoopNIn
import Derived.LoopIn
namespace Go.Proofs.Ytgenifcikfbfhaa
open Go.RowKit Go.Shelf
attribute [local go_sem] Oper.semAt_some

/-- The indices below k at which P0 holds. -/
def upto (P0 : Nat → Bool) (k : Nat) : List Nat := (List.range k).filter P0
theorem upto_zero (P0 : Nat → Bool) : upto P0 0 = [] := rfl
theorem upto_yes (P0 : Nat → Bool) (k : Nat) (h : P0 k = true) : upto P0 (k + 1) = upto P0 k ++ [k] := by
  simp [upto, List.range_succ, List.filter_append, h]
theorem upto_no (P0 : Nat → Bool) (k : Nat) (h : P0 k = false) : upto P0 (k + 1) = upto P0 k := by
  simp [upto, List.range_succ, List.filter_append, h]
theorem upto_lt (P0 : Nat → Bool) (k : Nat) : ∀ j ∈ upto P0 k, j < k := by
  intro j hj
  simp [upto] at hj
  exact hj.1

/-- What the iterator sees of memory: its two captured variables, and the sectors that lie ahead. -/
def Sees (b g Bm Bi fi : Nat) (N : Nat) (p : Sec → Bool) (P0 : Nat → Bool) (pre : List Nat) (W : World) : Prop :=
  ∃ M, PMem W b g M ∧ M.length = N ∧ W.cell? ⟨Bm, 0, none⟩ = some (.pointer (some ⟨b, 0, none⟩)) ∧ W.cell? ⟨Bi, 0, none⟩ = some (.func (.func fi) #[] #[]) ∧
    ∀ i s, (∀ j ∈ pre, j < i) → M[i]? = some s → p s = P0 i

/-- A condition that only looks at a sector. -/
def Looks (F : Fence) (n : Nat) (fi : Nat) (p : Sec → Bool) : Prop :=
  ∀ (w : World) (b g : Nat) (M : List Sec) (i : Nat) (s : Sec), PMem w b g M → M[i]? = some s → CallsIn F n Try.prog fi #[.pointer (some ⟨g, i * 5, none⟩)] w fun e w' => e = .returned (.bool (p s)) ∧ w = w'

set_option maxHeartbeats 4000000 in
theorem such_seq (F : Fence) (n : Nat) (hs1 : F.fn 74) (hro : F.round = none) (hn : 1 ≤ n) (b g Bm Bi fi N : Nat) (p : Sec → Bool) (P0 : Nat → Bool) (hfi : F.fn fi) (hN : N ≤ 1048576)
    (eg : ∀ args w, (callFunc fi args).run Try.prog w = .ok (.enter fi args) w) (hp : Looks F (n - 1) fi p) :
    SeqAll F n Try.prog 74 #[.pointer (some ⟨Bm, 0, none⟩), .pointer (some ⟨Bi, 0, none⟩)] (fun i : Nat => #[.int .i64 i, .pointer (some ⟨g, i * 5, none⟩)])
      (Sees b g Bm Bi fi N p P0) (fun pre i => i < N ∧ P0 i = true ∧ pre = upto P0 i) (fun xs => xs = upto P0 N) := by
  intro l J W hG hY h0
  have HG := Lib.hid hG
  have HY := Lib.hid hY
  have Hp := Lib.hid hp
  clear hG hY hp
  obtain ⟨M, hM, hMl, hcm, hci, _⟩ := HG.out [] W h0
  obtain ⟨cap, hc, hcap, hm⟩ := hM.head
  rw [hMl] at hc hcap
  unfold maxLen at hm
  refine callsIn_of_wp Try.func74 rfl hs1 ?_ hro
  simp only [Try.ntmps74, List.size_toArray, List.length_cons, List.length_nil, Nat.reduceAdd, Nat.reduceSub, Array.replicate_succ, Array.replicate_zero, List.push_toArray, List.append_toArray, List.nil_append, List.cons_append]
  gi_wp2
  gi_loopw [4, 5, 11] (fun _ _ i wr => ∃ k : Nat, k ≤ N ∧ i = .int .i64 k ∧ J (upto P0 k) wr) (fun _ _ i _ => N - (intOf i).toNat)
  case atStart => exact ⟨0, Nat.zero_le _, rfl, h0⟩
  case round =>
    obtain ⟨k, hk, rfl, hJ⟩ := hrel
    clear hc hcap hm hM hMl hcm hci
    obtain ⟨M', hM', hMl', hcm', hci', hP⟩ := HG.out _ wr hJ
    obtain ⟨cap', hc', hcap', hm'⟩ := hM'.head
    rw [hMl'] at hc' hcap'
    unfold maxLen at hm'
    by_cases hlt : k < N
    · have hks := List.getElem?_eq_getElem (show k < M'.length by omega)
      have hpk := hP k _ (upto_lt P0 k) hks
      have hL := Lib.hid (Hp.out wr b g M' k _ hM' hks)
      rw [hpk] at hL
      clear hP hpk
      cases hb : P0 k
      · rw [hb] at hL
        gi_wp2_with fail
        refine hL.out.mono ?_
        rintro e w' ⟨rfl, rfl⟩
        gi_wp2
        refine ⟨fun _ h => (by cases h), ?_⟩
        gi_wp2
        go_roundw
        case rel => exact ⟨k + 1, by omega, by go_num, by rw [upto_no P0 k hb]; exact hJ⟩
        case measure => simp [intOf]; omega
      · rw [hb] at hL
        obtain ⟨fn, tmps, assign, body, hy, hR⟩ := HY.out (upto P0 k) k wr hJ ⟨hlt, hb, rfl⟩
        have HR := Lib.hid hR
        clear hR
        gi_wp2_with fail
        refine hL.out.mono ?_
        rintro e w' ⟨rfl, rfl⟩
        gi_wp2
        refine HR.out.mono ?_
        rintro e W' ⟨rfl, hJ'⟩
        gi_wp2
        go_roundw
        case rel => exact ⟨k + 1, by omega, by go_num, by rw [upto_yes P0 k hb]; exact hJ'⟩
        case measure => simp [intOf]; omega
    · obtain rfl : k = N := by omega
      gi_wp2
      go_end0
      exact ⟨⟨_, rfl⟩, _, rfl, hJ⟩
end Go.Proofs.Ytgenifcikfbfhaa
