/-
  Layer 33 (zero): Left.
-/
import Derived.Test.YtgenifcikfbfhaaZerW7
namespace Go.Proofs.Ytgenifcikfbfhaa
open Go.RowKit Go.Shelf
attribute [local go_sem] Oper.semAt_some

/-- The texts that are not all zero, by number. -/
def leftL (I : List ByteArray) : List Nat := (List.range I.length).filter fun i => !decide (I.getD i zeros = zeros)
/-- The same of the first k. -/
def leftUp (I : List ByteArray) (k : Nat) : List Nat := (List.range k).filter fun i => !decide (I.getD i zeros = zeros)
theorem leftUp_succ (I : List ByteArray) (k : Nat) (t : ByteArray) (h : I[k]? = some t) : leftUp I (k + 1) = if t = zeros then leftUp I k else leftUp I k ++ [k] := by
  unfold leftUp
  rw [List.range_succ, List.filter_append]
  have e : I.getD k zeros = t := by rw [List.getD_eq_getElem?_getD, h]; rfl
  by_cases ht : t = zeros
  · rw [if_pos ht, List.filter_cons_of_neg (by rw [e, decide_eq_true ht]; decide), List.filter_nil, List.append_nil]
  · rw [if_neg ht, List.filter_cons_of_pos (by rw [e, decide_eq_false ht]; rfl), List.filter_nil]
theorem leftUp_len (I : List ByteArray) (k : Nat) : (leftUp I k).length ≤ k := by
  unfold leftUp
  exact Nat.le_trans (List.length_filter_le _ _) (by simp)

theorem text_eq {x y : ByteArray} (h : x = y) : (x.toList == y.toList) = true := by rw [h]; exact beq_self_eq_true _
theorem text_ne {x y : ByteArray} (h : x ≠ y) : (x.toList == y.toList) = false := by
  rw [beq_eq_false_iff_ne, ByteArray.toList_eq, ByteArray.toList_eq]
  exact fun e => h (by apply ByteArray.ext; exact Array.ext' e)
theorem ownsRow_more {w : World} {B base : Nat} {e : TypeId} {size n : Nat} {v : Value} {xs : List Value} (h : w.ownsRow B e size v n xs) (hle : base ≤ B) : w.ownsRow base e size v n xs := by
  refine ⟨h.1, ?_⟩
  rcases h.2 with h2 | ⟨g, cap, cur, hv, hg, r⟩
  · exact .inl h2
  · exact .inr ⟨g, cap, cur, hv, Nat.le_trans hle hg, r⟩
section
variable {w : World} {d b g sb sc fb fc : Nat} {D : Dev}
set_option maxRecDepth 100000 in
set_option maxHeartbeats 4000000 in
theorem zLeft_any (h : IsDev w d b g sb sc fb fc D) (hN : D.M.length ≤ 1048576) (hN0 : 0 < D.M.length) :
    Calls Try.prog 22 #[.pointer (some ⟨d, 0, none⟩)] w fun e w' => ∃ v, e = .returned v ∧ NewInts w w' v (leftL (D.M.map Sec.now)) := by
  obtain ⟨i0, hi, hz0, hz1, hz2⟩ := info_parts infoInt
  have HI := Lib.hid (dImage_any h hN)
  obtain ⟨I, hI⟩ : ∃ I, D.M.map Sec.now = I := ⟨_, rfl⟩
  have hl : I.length ≤ 1048576 := by rw [← hI, List.length_map]; exact hN
  have hl0 : 0 < I.length := by rw [← hI, List.length_map]; exact hN0
  rw [hI] at HI ⊢
  clear h hN hN0 hI
  have HE := Lib.hid emptySector_any
  have HU := Lib.hid (leftUp_succ I)
  have hLU : leftL I = leftUp I I.length := rfl
  rw [hLU]
  generalize zeros = Z at HE HU
  clear hLU
  go_enter Try.func22, Try.ntmps22
  go_wp2_with fail
  refine HI.out.mono ?_
  rintro e w1 ⟨vI, rfl, hT⟩
  obtain ⟨hT1, hT2, hT3⟩ := hT
  rcases hT1.2 with ⟨_, h0⟩ | ⟨gI, cI, curI, rfl, hgI, hrest⟩
  · omega
  have hlt := (hT1.lt gI rfl).2
  have hc : ∀ (wr : World), Below w1.heap.size w1 wr → ∀ k t, I[k]? = some t → wr.cell? ⟨gI, k, none⟩ = some (.string t) := by
    intro wr hB k t ht
    have hk := (List.getElem?_eq_some_iff.1 ht).1
    rw [hB.cell (p := ⟨gI, k, none⟩) hlt, hT1.cellAt k (by omega)]
    simp [strCells, ht]
  have HC := Lib.hid hc
  have HT3 := Lib.hid hT3
  clear hc hT1 hT2 hT3 HI hrest hgI
  go_wp2_with fail
  go_loopw [2, 8] (fun v a wr => ∃ k : Nat, k ≤ I.length ∧ a = .int .i64 k ∧ wr.ownsRow w1.heap.size 3 1 v (leftUp I k).length (intCells (leftUp I k)) ∧ (v = .slice none 0 0 ↔ leftUp I k = []) ∧ Below w1.heap.size w1 wr) (fun _ a _ => I.length - (intOf a).toNat)
  case atStart => exact ⟨0, Nat.zero_le _, rfl, World.ownsRow_nil _ _ _ _, by simp [leftUp], Below.refl _ _⟩
  case round =>
    obtain ⟨k, hk, rfl, hown, hnil, hB⟩ := hrel
    have hBs := hB.size
    have hwk : wrap64 ((k : Int) + 1) = (k : Int) + 1 := by unfold wrap64; omega
    by_cases hkl : k < I.length
    · obtain ⟨t, ht⟩ : ∃ t, I[k]? = some t := ⟨_, List.getElem?_eq_getElem hkl⟩
      have hct := HC.out wr hB k t ht
      have hup := HU.out k t ht
      have hul := leftUp_len I k
      clear ht
      by_cases htz : t = Z
      · rw [if_pos htz] at hup
        have dx := text_eq htz
        clear htz
        go_wp2_with (go_at_call 43; refine (HE.out _).mono ?_; rintro e w2 ⟨rfl, hB2⟩)
        go_roundw
        case rel => exact ⟨k + 1, by omega, by go_num, by rw [hup]; exact ownsRow_below hown hB2 (Nat.le_refl _), by rw [hup]; exact hnil, hB.trans (hB2.mono hBs)⟩
        case measure => simp [intOf]; omega
      · rw [if_neg htz] at hup
        have dx := text_ne htz
        clear htz
        have hle : Hid ((leftUp I k).length + 1 ≤ maxLen) := by unfold Hid maxLen; omega
        go_wp2_with (first | (go_at_call 43; refine (HE.out _).mono ?_; rintro e w2 ⟨rfl, hB2⟩; have hown2 := ownsRow_below hown hB2 (Nat.le_refl _); have hB22 := Lib.hid (hB.trans (hB2.mono hBs)); have hs2 := hB2.size; clear hB hown) | (at_builtin; refine wpList_append_own _ rfl _ _ 25 rfl w1.heap.size 3 i0 (.int .i64 0) 1 8 Try.underlying25 hi hz0 hz1 hz2 rfl (by decide) _ (leftUp I k).length (intCells (leftUp I k)) rfl (hown2.alloc _) ⟨w2.heap.size, 0, none⟩ 1 1 [.int .i64 k] rfl rfl ?c1 ?c2 ?c3 ?c4 ?c5 ?_))
        case c1 => exact news_cells (Blk.new w2 3 #[.int .i64 k])
        case c2 => simp [Value.oneCell']
        case c3 => exact hle.out
        case c4 => omega
        case c5 => simp; omega
        intro v' w3 hown3 hg3 hn3
        have hB3 : Below w1.heap.size w1 w3 := (hB22.out.alloc (by omega) _).grown hg3 (by simp; omega) (fun g e => (hown2.lt g e).1)
        have hnil3 : v' = .slice none 0 0 ↔ leftUp I (k + 1) = [] := ⟨fun e => (hn3 e).elim, fun e => by rw [hup] at e; simp at e⟩
        have hown4 : w3.ownsRow w1.heap.size 3 1 v' (leftUp I (k + 1)).length (intCells (leftUp I (k + 1))) := by
          rw [hup, intCells_snoc, List.length_append]
          exact hown3
        clear hg3 hn3 hown3 hown2 hnil hup
        go_wp2_with fail
        go_roundw
        case rel => exact ⟨k + 1, by omega, by go_num, hown4, hnil3, hB3⟩
        case measure => simp [intOf]; omega
    · obtain rfl : k = I.length := by omega
      go_wp2_with fail
      go_ret
      have hs1 := HT3.out.size
      refine ⟨_, rfl, ownsRow_more hown hs1, hnil, HT3.out.trans (hB.mono hs1)⟩
end
end Go.Proofs.Ytgenifcikfbfhaa
