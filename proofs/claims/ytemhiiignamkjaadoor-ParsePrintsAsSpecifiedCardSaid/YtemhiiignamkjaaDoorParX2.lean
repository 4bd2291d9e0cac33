/-
  Layer 12 (parse), printing: put and number, the two closures of Print.
-/
import Derived.Test.YtemhiiignamkjaaDoorParX1
import Derived.Lib.AppendIntMem
namespace Go.Proofs.YtemhiiignamkjaaDoor
open Go.RowKit LexP ParP
attribute [local go_sem] Oper.semAt_some

theorem below_grow (w : World) (k : Nat) (os : Array Obj) : Below w.heap.size w (Sort.grow (w.drewN k) os) := by
  refine ⟨rfl, rfl, rfl, ?_, fun j hj => ?_⟩
  · show w.heap.size ≤ (w.heap ++ os).size
    rw [Array.size_append]
    omega
  · show (w.heap ++ os)[j]? = w.heap[j]?
    rw [Array.getElem?_append_left hj]
theorem kept_below {w w' : World} (h : Below w.heap.size w w') (b : Nat) : Kept8 w w' b := fun _ _ _ _ _ hb => hb.below h hb.lt
theorem BIs.below {w w' : World} {B b : Nat} {l : List UInt8} (h : BIs w B b l) (hB : Below w.heap.size w w') : BIs w' B b l := by
  rcases h with h | h
  · left
    obtain ⟨h1, v, h2, h3, h4⟩ := h
    have hlt := (Array.getElem?_eq_some_iff.1 h2).1
    exact ⟨h1, v, (hB.block _ hlt).trans h2, ownsRow_below h3 hB (Nat.le_refl _), h4⟩
  · right
    obtain ⟨h1, v, h2, h3, h4⟩ := h
    have hlt := (Array.getElem?_eq_some_iff.1 h2).1
    exact ⟨h1, v, (hB.block _ hlt).trans h2, ownsRow_below h3 hB (Nat.le_refl _), h4⟩
theorem BIs.lt {w : World} {B b : Nat} {l : List UInt8} (h : BIs w B b l) : b < w.heap.size ∧ B ≤ b := by
  rcases h with h | h
  · obtain ⟨h1, v, h2, h3, h4⟩ := h
    exact ⟨(Array.getElem?_eq_some_iff.1 h2).1, h1⟩
  · obtain ⟨h1, v, h2, h3, h4⟩ := h
    exact ⟨(Array.getElem?_eq_some_iff.1 h2).1, h1⟩
theorem BIs.ne {w : World} {B b : Nat} {l : List UInt8} (h : BIs w B b l) {g : Nat} {t : TypeId} {cs : Array Value} (hg : Blk w g t cs) (ht : t ≠ 84) : g ≠ b := by
  intro e
  subst e
  rcases h with h | h
  · obtain ⟨h1, v, h2, h3, h4⟩ := h
    have := hg.symm.trans h2
    simp at this
    exact ht this.2
  · obtain ⟨h1, v, h2, h3, h4⟩ := h
    have := hg.symm.trans h2
    simp at this
    exact ht this.2
def cat (xs : List ByteArray) : List UInt8 := xs.flatMap fun s => s.data.toList
set_option maxRecDepth 100000 in
set_option maxHeartbeats 12800000 in
theorem put_any (w : World) (B b sb c : Nat) (l : List UInt8) (xs : List ByteArray) (hb : BIs w B b l) (hs : Blk w sb 9 (xs.map Value.string).toArray) (hlen : l.length + (cat xs).length ≤ 1000000000) (hx : xs.length ≤ 1000) :
    Calls Tryd.prog 37 #[.slice (some ⟨sb, 0, none⟩) xs.length c, .pointer (some ⟨b, 0, none⟩)] w fun e w' => e = .returned (.tuple #[]) ∧ BIs w' B b (l ++ cat xs) ∧ Below B w w' ∧ Kept8 w w' b := by
  have HB := Lib.hid hb
  have HS := Lib.hid hs
  have hsb : Hid (sb ≠ b) := hb.ne hs (by decide)
  have hlenH := Lib.hid hlen
  obtain ⟨L, hL⟩ : ∃ L, xs.length = L := ⟨_, rfl⟩
  have hLH := Lib.hid hL
  rw [hL] at hx ⊢
  clear hb hs hL hlen
  go_enter Tryd.func37, Tryd.ntmps37
  go_wp2_with fail
  go_loopw [7] (fun v wr => ∃ i : Nat, v = .int .i64 i ∧ i ≤ L ∧ Hid (BIs wr B b (l ++ cat (xs.take i))) ∧ Hid (Blk wr sb 9 (xs.map Value.string).toArray) ∧ Hid (Below B w wr) ∧ Hid (Kept8 w wr b)) (fun v _ => L - (intOf v).toNat)
  case atStart => exact ⟨0, rfl, Nat.zero_le _, by unfold Hid; simp [cat]; exact HB.out, HS.out, Below.refl _ _, Kept8.refl _ _⟩
  case round =>
    clear HB HS
    obtain ⟨i, rfl, hi, HB, HS, HL, HK⟩ := hrel
    by_cases hlt : i < L
    · have d1 : decide (i < L) = true := decide_eq_true hlt
      have d2 : decide ((i : Int) < (L : Int)) = true := decide_eq_true (by omega)
      obtain ⟨x, hx2⟩ : ∃ x, xs[i]? = some x := ⟨_, List.getElem?_eq_getElem (by rw [hLH.out]; exact hlt)⟩
      have cx : wr.cell? ⟨sb, i, none⟩ = some (.string x) := by
        rw [HS.out.cell i]
        simp [hx2]
      have hsn : Hid (cat (xs.take (i + 1)) = cat (xs.take i) ++ x.data.toList) := by
        unfold Hid cat
        rw [take_snoc hx2, List.flatMap_append]
        simp
      have hle : Hid ((l ++ cat (xs.take i)).length + x.size ≤ 140737488355328) := by
        have h1 : (cat (xs.take (i + 1))).length ≤ (cat xs).length := by
          unfold cat
          conv => rhs; rw [← List.take_append_drop (i + 1) xs]
          rw [List.flatMap_append, List.length_append]
          omega
        rw [hsn.out, List.length_append] at h1
        have h2 := hlenH.out
        have h3 : x.data.toList.length = x.size := Array.length_toList
        unfold Hid
        rw [List.length_append]
        omega
      have hwr := Lib.hid (write_any HB.out hle.out (Nat.le_trans HB.out.lt.2 (Nat.le_of_lt HB.out.lt.1)))
      have q0 : (0 : Int) ≤ (i : Int) := by omega
      have q1 : (i : Int) < (L : Int) := by omega
      have hltH := Lib.hid hlt
      clear hx2 hlt
      go_wp2_with (go_at_call 38; refine hwr.out.mono ?_; rintro e w1 ⟨rfl, h1, h2, h3⟩; have HB1 := Lib.hid h1; have HS1 := Lib.hid (h3 _ _ _ hsb.out (by decide) HS.out); have HL1 := Lib.hid (HL.out.trans h2); have HK1 := Lib.hid (HK.out.trans h3); clear h1 h2 h3)
      go_roundw
      case rel => exact ⟨i + 1, by go_num, hltH.out, by unfold Hid; rw [hsn.out, ← List.append_assoc]; exact HB1.out, HS1.out, HL1.out, HK1.out⟩
      case measure => have := hltH.out; simp [intOf]; omega
    · have d1 : decide (i < L) = false := decide_eq_false hlt
      have d2 : decide ((i : Int) < (L : Int)) = false := decide_eq_false (by omega)
      have hall : Hid (xs.take i = xs) := by unfold Hid; rw [List.take_of_length_le (by rw [hLH.out]; omega)]
      clear hlt
      go_wp2_with fail
      go_end0
      rw [hall.out] at HB
      exact ⟨by simp, HB.out, HL.out, HK.out⟩
/-- The powers of ten lie where the library lays them. -/
def PowAt (w : World) : Prop := Lib.TabBelow Tryd.prog w.heap.size w "internal/strconv.uint64pow10" .u64 Lib.pow10Tab
theorem PowAt.below {w w' : World} (h : PowAt w) (hb : Below w.heap.size w w') : PowAt w' := fun w2 h2 => h w2 (hb.trans (h2.mono hb.size))
theorem itoa_any (n : Int) (h0 : -9223372036854775808 ≤ n) (h1 : n ≤ 9223372036854775807) (w : World) (hp : PowAt w) :
    Calls Tryd.prog 40 #[.int .i64 n] w fun e w' => e = .returned (.string ⟨(Lib.itoa n).toArray⟩) ∧ Below w.heap.size w w' := by
  refine (Tryd.strconv_Itoa n h0 h1 w hp.here).mono ?_
  rintro e w' ⟨rfl, k, os, rfl⟩
  exact ⟨rfl, below_grow w k os⟩
end Go.Proofs.YtemhiiignamkjaaDoor
