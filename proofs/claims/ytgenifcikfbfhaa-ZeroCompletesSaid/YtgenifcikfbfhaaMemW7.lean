/-
  Layer 22 (memory): Image.
-/
import Derived.Test.YtgenifcikfbfhaaMemW6
namespace Go.Proofs.Ytgenifcikfbfhaa
open Go.RowKit Go.Shelf
attribute [local go_sem] Oper.semAt_some

/-- Texts as cells. -/
def strCells (l : List ByteArray) : List Value := l.map Value.string
theorem strCells_snoc (l : List ByteArray) (x : ByteArray) : strCells (l ++ [x]) = strCells l ++ [.string x] := by simp [strCells]
theorem strCells_len (l : List ByteArray) : (strCells l).length = l.length := by simp [strCells]

theorem infoString : (Try.prog.info? 9).map (fun i => (i.zero, i.size, i.bytes)) = some (some (.string ⟨#[]⟩), 1, 16) := by kernel_rfl

/-- A fresh list of texts. -/
def NewTexts (w w' : World) (v : Value) (l : List ByteArray) : Prop := w'.ownsRow w.heap.size 9 1 v l.length (strCells l) ∧ (v = .slice none 0 0 ↔ l = []) ∧ Below w.heap.size w w'

section
variable {w : World} {b g : Nat} {M : List Sec}

set_option maxHeartbeats 4000000 in
set_option maxRecDepth 100000 in
theorem Image_any (h : PMem w b g M) (hN : M.length ≤ 1048576) :
    Calls Try.prog 32 #[.pointer (some ⟨b, 0, none⟩)] w fun e w' => ∃ v, e = .returned v ∧ NewTexts w w' v (M.map Sec.now) := by
  obtain ⟨i0, hi, hz0, hz1, hz2⟩ := info_parts infoString
  have hlt := h.lt
  obtain ⟨cap, hc, hcap, hm⟩ := h.head
  unfold maxLen at hm
  go_enter Try.func32, Try.ntmps32
  go_wp2_with fail
  go_loopw [3, 5, 11] (fun v _ a wr => ∃ k : Nat, k ≤ M.length ∧ a = .int .i64 k ∧ wr.ownsRow w.heap.size 9 1 v k (strCells ((M.map Sec.now).take k)) ∧ (v = .slice none 0 0 ↔ k = 0) ∧ Below w.heap.size w wr) (fun _ _ a _ => M.length - (intOf a).toNat)
  case atStart => exact ⟨0, Nat.zero_le _, rfl, World.ownsRow_nil _ _ _ _, by simp, Below.refl _ _⟩
  case round =>
    obtain ⟨k, hk, rfl, hown, hnil, hB⟩ := hrel
    have hBs := hB.size
    have hM' : PMem wr b g M := h.below hB hlt.1 hlt.2
    by_cases hkl : k < M.length
    · obtain ⟨se, hs⟩ : ∃ se, M[k]? = some se := ⟨_, List.getElem?_eq_getElem hkl⟩
      obtain ⟨c0, c1, c2, c3, c4⟩ := hM'.sec hs
      have Hs := Lib.hid hs
      clear hs
      have hle : Hid ((k + 1 : Nat) ≤ maxLen) := by unfold Hid maxLen; omega
      go_wp2_with (at_builtin; refine wpList_append_own _ rfl _ _ 31 rfl w.heap.size 9 i0 _ 1 16 Try.underlying31 hi hz0 hz1 hz2 rfl (by decide) _ k (strCells ((M.map Sec.now).take k)) rfl ((hown.alloc _).alloc _) ⟨wr.heap.size + 1, 0, none⟩ 1 1 [.string se.now] rfl rfl ?c1 ?c2 ?c3 ?c4 ?c5 ?_)
      case c1 =>
        have := news_cells (Blk.new (wr.alloc (.cells #[.string se.now, .string se.before, .string se.fresh, .bool se.dirty, .bool se.worn] 84)) 9 #[.string se.now])
        rw [World.size_alloc] at this
        exact this
      case c2 => simp [Value.oneCell']
      case c3 => exact hle.out
      case c4 => omega
      case c5 => simp; omega
      intro v' w3 hown3 hg3 hn3
      have hB3 : Below w.heap.size w w3 := (((hB.alloc (by omega) _).alloc (by simp; omega) _)).grown hg3 (by simp; omega) (fun g e => (hown.lt g e).1)
      have hnil3 : v' = .slice none 0 0 ↔ k + 1 = 0 := ⟨fun e => (hn3 e).elim, fun e => by omega⟩
      have hown4 : w3.ownsRow w.heap.size 9 1 v' (k + 1) (strCells ((M.map Sec.now).take (k + 1))) := by
        have e : (M.map Sec.now).take (k + 1) = (M.map Sec.now).take k ++ [se.now] := by
          rw [List.take_add_one]; simp [Hs.out]
        rw [e, strCells_snoc]; exact hown3
      clear hg3 hn3 hown3 hown hnil
      go_wp2_with fail
      go_roundw
      case rel => exact ⟨k + 1, by omega, by go_num, hown4, hnil3, hB3⟩
      case measure => simp [intOf]; omega
    · obtain rfl : k = M.length := by omega
      go_wp2_with fail
      go_ret
      have hn4 := hnil.trans (show M.length = 0 ↔ M.map Sec.now = [] by simp)
      rw [List.take_of_length_le (by simp)] at hown
      exact ⟨_, rfl, by simpa using hown, hn4, hB⟩
end
end Go.Proofs.Ytgenifcikfbfhaa
