/-
  Layer 22 (memory): the reference's lists: Dirty, Worn, Image.
-/
import Derived.Test.YtcifkahmeimniaaGreatMemR1
namespace Go.Proofs.YtcifkahmeimniaaGreat
open Go.RowKit Go.Shelf
attribute [local go_sem] Oper.semAt_some

section
variable {w : World} {b g : Nat} {M : List Sec}

set_option maxRecDepth 100000 in
set_option maxHeartbeats 4000000 in
theorem rDirty_any (h : RMem w b g M) (hN : M.length ≤ 1048576) :
    Calls Tryz.prog 111 #[.pointer (some ⟨b, 0, none⟩)] w fun e w' => ∃ v, e = .returned v ∧ NewInts w w' v (idxs Sec.dirty M) := by
  obtain ⟨i0, hi, hz0, hz1, hz2⟩ := info_parts infoInt
  have hlt := h.lt
  obtain ⟨cap, hc, hcap, hm⟩ := h.head
  unfold maxLen at hm
  obtain ⟨P0, hP0⟩ : ∃ P0 : Nat → Bool, P0 = fun i => ((M[i]?).map Sec.dirty).getD false := ⟨_, rfl⟩
  have HP := Lib.hid hP0
  clear hP0
  go_enter Tryz.func111, Tryz.ntmps111
  go_wp2_with fail
  go_loopw [3, 4] (fun v a wr => ∃ k : Nat, k ≤ M.length ∧ a = .int .i64 k ∧ wr.ownsRow w.heap.size 3 1 v (upto P0 k).length (intCells (upto P0 k)) ∧ (v = .slice none 0 0 ↔ upto P0 k = []) ∧ Below w.heap.size w wr) (fun _ a _ => M.length - (intOf a).toNat)
  case atStart => exact ⟨0, Nat.zero_le _, rfl, World.ownsRow_nil _ _ _ _, by simp [upto_zero], Below.refl _ _⟩
  case round =>
    obtain ⟨k, hk, rfl, hown, hnil, hB⟩ := hrel
    have hBs := hB.size
    have hM' : RMem wr b g M := h.below hB hlt.1 hlt.2
    obtain ⟨cap', hc', hcap', hm'⟩ := hM'.head
    unfold maxLen at hm'
    by_cases hkl : k < M.length
    · obtain ⟨se, hs⟩ : ∃ se, M[k]? = some se := ⟨_, List.getElem?_eq_getElem hkl⟩
      obtain ⟨c0, c1, c2, c3, c4⟩ := hM'.sec hs
      have hPk : Hid (P0 k = se.dirty) := by unfold Hid; rw [HP.out]; simp [hs]
      have hul := upto_len P0 k
      clear hs
      cases hq : se.dirty
      · have hu : Hid (upto P0 (k + 1) = upto P0 k) := upto_no P0 k (hPk.out.trans hq)
        rw [hq] at c3
        clear hPk hq
        go_wp2_with fail
        go_roundw
        case rel => exact ⟨k + 1, by omega, by go_num, by rw [hu.out]; exact hown, by rw [hu.out]; exact hnil, hB⟩
        case measure => simp [intOf]; omega
      · have hu : Hid (upto P0 (k + 1) = upto P0 k ++ [k]) := upto_yes P0 k (hPk.out.trans hq)
        rw [hq] at c3
        clear hPk hq
        have hle : Hid ((upto P0 k).length + 1 ≤ maxLen) := by unfold Hid maxLen; omega
        go_wp2_with (at_builtin; refine wpList_append_own _ rfl _ _ 41 rfl w.heap.size 3 i0 _ 1 8 Tryz.underlying41 hi hz0 hz1 hz2 rfl (by decide) _ (upto P0 k).length (intCells (upto P0 k)) rfl (hown.alloc _) ⟨wr.heap.size, 0, none⟩ 1 1 [.int .i64 k] rfl rfl ?c1 ?c2 ?c3 ?c4 ?c5 ?_)
        case c1 => exact news_cells (Blk.new wr 3 #[.int .i64 k])
        case c2 => simp [Value.oneCell']
        case c3 => exact hle.out
        case c4 => omega
        case c5 => simp; omega
        intro v' w3 hown3 hg3 hn3
        have hB3 : Below w.heap.size w w3 := (hB.alloc (by omega) _).grown hg3 (by simp; omega) (fun g e => (hown.lt g e).1)
        have hnil3 : v' = .slice none 0 0 ↔ upto P0 (k + 1) = [] := ⟨fun e => (hn3 e).elim, fun e => by rw [hu.out] at e; simp at e⟩
        have hown4 : w3.ownsRow w.heap.size 3 1 v' (upto P0 (k + 1)).length (intCells (upto P0 (k + 1))) := by
          rw [hu.out, intCells_snoc, List.length_append]; exact hown3
        clear hg3 hn3 hown3 hown hnil
        go_wp2_with fail
        go_roundw
        case rel => exact ⟨k + 1, by omega, by go_num, hown4, hnil3, hB3⟩
        case measure => simp [intOf]; omega
    · obtain rfl : k = M.length := by omega
      go_wp2_with fail
      go_ret
      refine ⟨_, rfl, ?_⟩
      unfold NewInts idxs
      rw [← HP.out]
      exact ⟨hown, hnil, hB⟩

set_option maxRecDepth 100000 in
set_option maxHeartbeats 4000000 in
theorem rImage_any (h : RMem w b g M) (hN : M.length ≤ 1048576) :
    Calls Tryz.prog 88 #[.pointer (some ⟨b, 0, none⟩)] w fun e w' => ∃ v, e = .returned v ∧ NewTexts w w' v (M.map Sec.now) := by
  obtain ⟨i0, hi, hz0, hz1, hz2⟩ := info_parts infoString
  have hlt := h.lt
  obtain ⟨cap, hc, hcap, hm⟩ := h.head
  unfold maxLen at hm
  go_enter Tryz.func88, Tryz.ntmps88
  go_wp2_with fail
  go_loopw [3, 4] (fun v a wr => ∃ k : Nat, k ≤ M.length ∧ a = .int .i64 k ∧ wr.ownsRow w.heap.size 9 1 v k (strCells ((M.map Sec.now).take k)) ∧ (v = .slice none 0 0 ↔ k = 0) ∧ Below w.heap.size w wr) (fun _ a _ => M.length - (intOf a).toNat)
  case atStart => exact ⟨0, Nat.zero_le _, rfl, World.ownsRow_nil _ _ _ _, by simp, Below.refl _ _⟩
  case round =>
    obtain ⟨k, hk, rfl, hown, hnil, hB⟩ := hrel
    have hBs := hB.size
    have hM' : RMem wr b g M := h.below hB hlt.1 hlt.2
    obtain ⟨cap', hc', hcap', hm'⟩ := hM'.head
    unfold maxLen at hm'
    by_cases hkl : k < M.length
    · obtain ⟨se, hs⟩ : ∃ se, M[k]? = some se := ⟨_, List.getElem?_eq_getElem hkl⟩
      obtain ⟨c0, c1, c2, c3, c4⟩ := hM'.sec hs
      have Hs := Lib.hid hs
      clear hs
      have hle : Hid ((k + 1 : Nat) ≤ maxLen) := by unfold Hid maxLen; omega
      go_wp2_with (at_builtin; refine wpList_append_own _ rfl _ _ 36 rfl w.heap.size 9 i0 _ 1 16 Tryz.underlying36 hi hz0 hz1 hz2 rfl (by decide) _ k (strCells ((M.map Sec.now).take k)) rfl (hown.alloc _) ⟨wr.heap.size, 0, none⟩ 1 1 [.string se.now] rfl rfl ?c1 ?c2 ?c3 ?c4 ?c5 ?_)
      case c1 => exact news_cells (Blk.new wr 9 #[.string se.now])
      case c2 => simp [Value.oneCell']
      case c3 => exact hle.out
      case c4 => omega
      case c5 => simp; omega
      intro v' w3 hown3 hg3 hn3
      have hB3 : Below w.heap.size w w3 := (hB.alloc (by omega) _).grown hg3 (by simp; omega) (fun g e => (hown.lt g e).1)
      have hnil3 : v' = .slice none 0 0 ↔ k + 1 = 0 := ⟨fun e => (hn3 e).elim, fun e => by omega⟩
      have hown4 : w3.ownsRow w.heap.size 9 1 v' (k + 1) (strCells ((M.map Sec.now).take (k + 1))) := by
        have e : (M.map Sec.now).take (k + 1) = (M.map Sec.now).take k ++ [se.now] := by
          rw [List.take_add_one]; simp [Hs.out]
        rw [e, strCells_snoc]; exact hown3
      clear hg3 hn3 hown3 hown hnil
      go_wp2_with fail
      go_roundw
      case rel => exact ⟨k + 1, by omega, by go_num, hown4, hnil3, hB3⟩
      case measure => simp [intOf]; omega
    · obtain rfl : k = M.length := by omega
      go_wp2_with fail
      go_ret
      have hn4 := hnil.trans (show M.length = 0 ↔ M.map Sec.now = [] by simp)
      rw [List.take_of_length_le (by simp)] at hown
      exact ⟨_, rfl, by simpa using hown, hn4, hB⟩
end
end Go.Proofs.YtcifkahmeimniaaGreat
