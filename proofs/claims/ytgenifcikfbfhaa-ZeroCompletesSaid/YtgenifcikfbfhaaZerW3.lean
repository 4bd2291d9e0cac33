/-
  Layer 33 (zero): the iterator over the steps.
-/
import Derived.Test.YtgenifcikfbfhaaZerW2
import Derived.Test.YtgenifcikfbfhaaRangeSteps
import Derived.Shelf.Abstract
import Derived.Shelf.RegionOpen
import Derived.OwnWalkIn
import Derived.TacticsInMore
import Derived.LoopNIn
import Derived.LoopIn
namespace Go.Proofs.Ytgenifcikfbfhaa
open Go.RowKit Go.Shelf
attribute [local go_sem] Oper.semAt_some

/-- The function value of a step. -/
def stepV (d bd : Nat) : ZStep → Nat → Value
  | .store _, B => .func (.func 63) #[] #[.pointer (some ⟨bd, 0, none⟩), .pointer (some ⟨B, 0, none⟩)]
  | .write _, B => .func (.func 66) #[] #[.pointer (some ⟨bd, 0, none⟩), .pointer (some ⟨B, 0, none⟩)]
  | .flush, _ => .func (.func 30) #[.pointer (some ⟨d, 0, none⟩)] #[]
  | .burn, _ => .func (.func 67) #[] #[.pointer (some ⟨bd, 0, none⟩)]
/-- A step's own number lies in its box. -/
def StepBox : ZStep → Nat → World → Prop
  | .store i, B, W => Blk W B 3 #[.int .i64 i]
  | .write i, B, W => Blk W B 3 #[.int .i64 i]
  | _, _, _ => True
/-- What the iterator sees of memory. -/
def SeesDev (d b g sb sc fb fc bd K s n : Nat) (pre : List (ZStep × Nat)) (W : World) : Prop :=
  Blk W bd 26 #[.pointer (some ⟨d, 0, none⟩)] ∧ ∃ D, IsDev W d b g sb sc fb fc D ∧ D.slots.length = s ∧ D.M.length = n ∧ (pre = [] → zslots D = K)

theorem zlist_store (K n k : Nat) (h : k < K) : (zlist K n)[k]? = some (.store k) := by
  unfold zlist
  rw [List.getElem?_append_left (by simpa using h), List.getElem?_map, List.getElem?_range h]
  rfl
theorem zlist_write (K n k : Nat) (h : k < n) : (zlist K n)[K + k]? = some (.write k) := by
  unfold zlist
  rw [List.getElem?_append_right (by simp), List.length_map, List.length_range, Nat.add_sub_cancel_left, List.getElem?_append_left (by simpa using h), List.getElem?_map, List.getElem?_range h]
  rfl
theorem zlist_flush (K n : Nat) : (zlist K n)[K + n]? = some .flush := by
  unfold zlist
  rw [List.getElem?_append_right (by simp), List.length_map, List.length_range, Nat.add_sub_cancel_left, List.getElem?_append_right (by simp), List.length_map, List.length_range, Nat.sub_self]
  rfl
theorem zlist_burn (K n : Nat) : (zlist K n)[K + n + 1]? = some .burn := by
  unfold zlist
  rw [List.getElem?_append_right (by simp; omega), List.length_map, List.length_range, List.getElem?_append_right (by simp; omega), List.length_map, List.length_range, show K + n + 1 - K - n = 1 by omega]
  rfl
theorem map_len_take {K n k : Nat} {pre : List (ZStep × Nat)} (h : pre.map Prod.fst = (zlist K n).take k) (hk : k ≤ K + n + 2) : pre.length = k := by
  have := congrArg List.length h
  rw [List.length_map, List.length_take, zlist_len] at this
  omega
theorem map_snoc_take {K n k : Nat} {pre : List (ZStep × Nat)} {s : ZStep} (B : Nat) (h : pre.map Prod.fst = (zlist K n).take k) (hs : (zlist K n)[k]? = some s) : (pre ++ [(s, B)]).map Prod.fst = (zlist K n).take (k + 1) := by
  rw [List.map_append, h, List.take_add_one, hs]
  rfl

set_option maxRecDepth 100000 in
set_option maxHeartbeats 4000000 in
theorem zsteps1_seq (m : Nat) (hm : 1 ≤ m) (d b g sb sc fb fc bd K s n : Nat) (hs1 : s ≤ 1048576) (hn1 : n ≤ 1048576) (hK1 : K ≤ 1048576) :
    SeqSteps Fence.wide m Try.prog 61 #[.pointer (some ⟨bd, 0, none⟩)] (fun x : ZStep × Nat => #[stepV d bd x.1 x.2])
      (SeesDev d b g sb sc fb fc bd K s n) (fun pre x W => (zlist K n)[pre.length]? = some x.1 ∧ StepBox x.1 x.2 W) (fun xs => xs.map Prod.fst = zlist K n) := by
  intro l J Jx W hG hJ hJx hY h0
  have HG := Lib.hid hG
  have HJ := Lib.hid hJ
  have HJx := Lib.hid hJx
  have HY := Lib.hid hY
  clear hG hJ hJx hY
  obtain ⟨hbd, D, hD, hs, hn, hK⟩ := HG.out [] W h0
  have c1 : W.cell? ⟨bd, 0, none⟩ = some (.pointer (some ⟨d, 0, none⟩)) := hbd.cell 0
  have HS := Lib.hid (callsIn_wide (n := m - 1) |>.2 (zslots_any hD (by omega)))
  rw [hK rfl] at HS
  clear hbd hD hs hn hK
  refine callsIn_of_wp Try.func61 rfl trivial ?_ rfl
  simp only [Try.ntmps61, List.size_toArray, List.length_cons, List.length_nil, Nat.reduceAdd, Nat.reduceSub, Array.replicate_succ, Array.replicate_zero, List.push_toArray, List.append_toArray, List.nil_append, List.cons_append]
  gi_wp2_with (refine ⟨trivial, ?_⟩; gi_at_call 62; refine HS.out.mono ?_; rintro e w1 ⟨rfl, rfl⟩)
  gi_loopw [7] (fun i wr => ∃ (k : Nat) (pre : List (ZStep × Nat)), k ≤ K ∧ i = .int .i64 k ∧ pre.map Prod.fst = (zlist K n).take k ∧ J pre wr) (fun i _ => K - (intOf i).toNat)
  case atStart => exact ⟨0, [], Nat.zero_le _, rfl, rfl, h0⟩
  case round =>
    obtain ⟨k, pre, hk, rfl, hp, hJk⟩ := hrel
    have hpl := map_len_take hp (by omega)
    have hwk : wrap64 ((k : Int) + 1) = (k : Int) + 1 := by unfold wrap64; omega
    by_cases hlt : k < K
    · have hx := zlist_store K n k hlt
      obtain ⟨fn, tmps, assign, body, hy, hR⟩ := HY.out pre (.store k, wr.heap.size) (wr.alloc (.cells #[.int .i64 k] 3)) (HJ.out pre wr _ hJk ((Below.refl _ wr).alloc (Nat.le_refl _) _)) ⟨by rw [hpl]; exact hx, Blk.new wr 3 #[.int .i64 k]⟩
      have hnext := map_snoc_take wr.heap.size hp hx
      have HR := Lib.hid hR
      clear hR hp hx
      dsimp only [stepV] at hy
      gi_wp2_with fail
      refine HR.out.mono ?_
      rintro e W' (⟨rfl, hJ'⟩ | ⟨rfl, hJ'⟩)
      · gi_wp2
        go_roundw
        case rel => exact ⟨k + 1, _, by omega, by go_num, hnext, hJ'⟩
        case measure => simp [intOf]; omega
      · gi_wp2
        (try simp only [Exit.inBlock, Exit.then])
        refine bodyPost_ret (results_none rfl _ _ _) rfl ?_
        exact ⟨⟨_, rfl⟩, .inr ⟨_, hJ'⟩⟩
    · obtain rfl : k = K := by omega
      obtain ⟨hbd, D1, hD1, hs, hn, _⟩ := HG.out pre wr hJk
      have c2 : wr.cell? ⟨bd, 0, none⟩ = some (.pointer (some ⟨d, 0, none⟩)) := hbd.cell 0
      have HM := Lib.hid (callsIn_wide (n := m - 1) |>.2 (Sectors_any hD1))
      rw [hn] at HM
      clear hbd hD1 hs hn
      gi_wp2_with (refine ⟨trivial, ?_⟩; gi_at_call 65; refine HM.out.mono ?_; rintro e w1 ⟨rfl, rfl⟩)
      gi_loopw [17] (fun i wr => ∃ (j : Nat) (pre : List (ZStep × Nat)), j ≤ n ∧ i = .int .i64 j ∧ pre.map Prod.fst = (zlist k n).take (k + j) ∧ J pre wr) (fun i _ => n - (intOf i).toNat)
      case atStart => exact ⟨0, pre, Nat.zero_le _, rfl, hp, hJk⟩
      case round =>
        clear hp hJk hpl hwk c2
        obtain ⟨j, pre, hj, rfl, hp, hJk⟩ := hrel
        have hpl := map_len_take hp (by omega)
        have hwj : wrap64 ((j : Int) + 1) = (j : Int) + 1 := by unfold wrap64; omega
        by_cases hlt : j < n
        · have hx := zlist_write k n j hlt
          obtain ⟨fn, tmps, assign, body, hy, hR⟩ := HY.out pre (.write j, wr.heap.size) (wr.alloc (.cells #[.int .i64 j] 3)) (HJ.out pre wr _ hJk ((Below.refl _ wr).alloc (Nat.le_refl _) _)) ⟨by rw [hpl]; exact hx, Blk.new wr 3 #[.int .i64 j]⟩
          have hnext := map_snoc_take wr.heap.size hp hx
          have HR := Lib.hid hR
          clear hR hp hx
          dsimp only [stepV] at hy
          gi_wp2_with fail
          refine HR.out.mono ?_
          rintro e W' (⟨rfl, hJ'⟩ | ⟨rfl, hJ'⟩)
          · gi_wp2
            go_roundw
            case rel => exact ⟨j + 1, _, by omega, by go_num, hnext, hJ'⟩
            case measure => simp [intOf]; omega
          · gi_wp2
            (try simp only [Exit.inBlock, Exit.then])
            refine bodyPost_ret (results_none rfl _ _ _) rfl ?_
            exact ⟨⟨_, rfl⟩, .inr ⟨_, hJ'⟩⟩
        · obtain rfl : j = n := by omega
          obtain ⟨hbd, _⟩ := HG.out pre wr hJk
          have c2 : wr.cell? ⟨bd, 0, none⟩ = some (.pointer (some ⟨d, 0, none⟩)) := hbd.cell 0
          clear hbd
          have hx := zlist_flush k j
          obtain ⟨fn, tmps, assign, body, hy, hR⟩ := HY.out pre (.flush, 0) wr hJk ⟨by rw [hpl]; exact hx, trivial⟩
          have hnext := map_snoc_take 0 hp hx
          have HR := Lib.hid hR
          clear hR hp hx
          dsimp only [stepV] at hy
          gi_wp2_with fail
          refine HR.out.mono ?_
          rintro e W' (⟨rfl, hJ'⟩ | ⟨rfl, hJ'⟩)
          · have hpl2 := map_len_take hnext (by omega)
            have hx := zlist_burn k j
            obtain ⟨fn, tmps, assign, body, hy, hR⟩ := HY.out (pre ++ [(.flush, 0)]) (.burn, 0) W' hJ' ⟨by rw [hpl2]; exact hx, trivial⟩
            have hend := map_snoc_take 0 hnext hx
            have HR := Lib.hid hR
            clear hR hnext hx
            dsimp only [stepV] at hy
            gi_wp2
            refine HR.out.mono ?_
            rintro e W2 (⟨rfl, hJ2⟩ | ⟨rfl, hJ2⟩)
            · gi_wp2
              go_end0
              exact ⟨⟨_, rfl⟩, .inl ⟨_, by rw [hend, List.take_of_length_le (by rw [zlist_len]; omega)], hJ2⟩⟩
            · gi_wp2
              go_end0
              exact ⟨⟨_, rfl⟩, .inr ⟨_, hJ2⟩⟩
          · gi_wp2
            go_end0
            exact ⟨⟨_, rfl⟩, .inr ⟨_, hJ'⟩⟩
end Go.Proofs.Ytgenifcikfbfhaa
