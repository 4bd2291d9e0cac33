/-
  Layer 24 (sector): SectorMixed, the plain part.
-/
import Derived.Test.YtcifkahmeimniabDoorSecL4
import Derived.Test.YtcifkahmeimniabDoorSecL5
namespace Go.Proofs.YtcifkahmeimniabDoor
open Go.RowKit Go.Shelf
attribute [local go_sem] Oper.semAt_some

/-- Integers in memory. -/
def IntsAt (w : World) (v : Value) (l : List Int) : Prop :=
  ∃ A c, v = .slice A l.length c ∧ l.length ≤ c ∧ c ≤ maxLen ∧ (0 < l.length → ∃ b o, A = some ⟨b, o, none⟩ ∧ b < w.heap.size ∧ ∀ i (t : Int), l[i]? = some t → w.cell? ⟨b, o + i, none⟩ = some (.int .i64 t))
theorem IntsAt.below {w w' : World} {v : Value} {l : List Int} {B : Nat} (h : IntsAt w v l) (hB : Below B w w') (hw : w.heap.size ≤ B) : IntsAt w' v l := by
  obtain ⟨A, c, h1, h2, h3, h4⟩ := h
  refine ⟨A, c, h1, h2, h3, fun h0 => ?_⟩
  obtain ⟨b, o, h5, h6, h7⟩ := h4 h0
  exact ⟨b, o, h5, Nat.lt_of_lt_of_le h6 hB.size, fun i t ht => (hB.cell (p := ⟨b, o + i, none⟩) (show b < B by omega)).trans (h7 i t ht)⟩

def zeroT : ByteArray := ⟨(List.replicate 64 (0 : UInt8)).toArray⟩
theorem zeroT_size : zeroT.size = 64 := by unfold zeroT; rw [mk_size]; rfl
/-- The cut of one sector. -/
def cutF (cs : List Int) (i : Nat) : Nat := match cs[i]? with
  | some c => (max 0 (min 64 c)).toNat
  | none => 64
theorem cutF_le (cs : List Int) (i : Nat) : cutF cs i ≤ 64 := by
  unfold cutF
  split <;> omega
def orZ (l : List ByteArray) (i : Nat) : ByteArray := (l[i]?).getD zeroT
/-- One mixed sector. -/
def mixB (l m : List ByteArray) (cs : List Int) (i : Nat) : ByteArray := (orZ l i).extract 0 (cutF cs i) ++ (orZ m i).extract (cutF cs i) 64
theorem orZ_pack {n : Int} {rec : ByteArray} {l : List ByteArray} (h : packE n rec = (l, 0)) (i : Nat) : (orZ l i).size = 64 ∧ (orZ l i).data.toList = secOr n.toNat rec.data.toList i := by
  obtain ⟨_, _, _, rfl⟩ := packE_ok h
  have hl : rec.data.toList.length = rec.size := Array.length_toList
  unfold orZ secOr
  rw [hl, List.getElem?_map]
  by_cases hi : i < countN rec.size
  · rw [List.getElem?_range hi, if_pos hi]
    exact ⟨secText_size _ _ _, secText_list _ _ _⟩
  · rw [List.getElem?_eq_none (by simp; omega), if_neg hi]
    exact ⟨zeroT_size, rfl⟩
theorem mixed_plain {a b : Int} {x y : ByteArray} {l m : List ByteArray} (h1 : packE a x = (l, 0)) (h2 : packE b y = (m, 0)) (hab : a ≠ b) (cs : List Int) (N : Nat) :
    (joinE ((List.range N).map (mixB l m cs))).e ≠ 0 ∨ (((joinE ((List.range N).map (mixB l m cs))).number : Int) = a ∧ (⟨(joinE ((List.range N).map (mixB l m cs))).text.toArray⟩ : ByteArray) = x) ∨
      (((joinE ((List.range N).map (mixB l m cs))).number : Int) = b ∧ (⟨(joinE ((List.range N).map (mixB l m cs))).text.toArray⟩ : ByteArray) = y) := by
  obtain ⟨a1, a2, a3, _⟩ := packE_ok h1
  obtain ⟨b1, b2, b3, _⟩ := packE_ok h2
  have hx : x.data.toList.length = x.size := Array.length_toList
  have hy : y.data.toList.length = y.size := Array.length_toList
  have := join_mixed (a := a.toNat) (b := b.toNat) (x := x.data.toList) (y := y.data.toList) (l := ((List.range N).map (mixB l m cs)).map fun s => s.data.toList) (by omega) (by omega) (by omega) (by omega) (by omega) (by rw [hx]; exact a3) (by rw [hy]; exact b3) (by
    intro i s p hs hp
    rw [List.map_map, List.getElem?_map] at hs
    by_cases hi : i < N
    · rw [List.getElem?_range hi] at hs
      simp only [Option.map_some, Function.comp, Option.some.injEq] at hs
      have o1 := orZ_pack h1 i
      have o2 := orZ_pack h2 i
      have e : s = tornL (secOr a.toNat x.data.toList i) (secOr b.toNat y.data.toList i) (cutF cs i) := by
        rw [← hs, ← o1.2, ← o2.2]
        exact torn_text _ _ o1.1 o2.1 _ (cutF_le cs i)
      rw [e] at hp ⊢
      exact mixed_open (by omega) (by omega) (by omega) (by omega) (by omega) (by rw [hx]; exact a3) (by rw [hy]; exact b3) (cutF_le cs i) hp
    · rw [List.getElem?_eq_none (by simp; omega)] at hs
      cases hs)
  unfold joinE
  rcases this with h | ⟨h, h'⟩ | ⟨h, h'⟩
  · exact .inl h
  · exact .inr (.inl ⟨by rw [h]; omega, by rw [h']⟩)
  · exact .inr (.inr ⟨by rw [h]; omega, by rw [h']⟩)
end Go.Proofs.YtcifkahmeimniabDoor
