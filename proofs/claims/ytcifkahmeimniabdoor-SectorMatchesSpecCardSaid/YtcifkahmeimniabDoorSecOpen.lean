/-
  What the rows of layer 24 hand the walks: lists of texts, lists of integers; the door's heap meets the listed variables.
-/
import Derived.Test.YtcifkahmeimniabDoorSecW7
import Derived.Test.YtcifkahmeimniabDoorTie
import Derived.ProofKit
import Derived.LaidMore
import Derived.Lay
import Derived.OpenShut
import Derived.SliceStrings
import Derived.ChangeSlices
import Derived.Stop.Joined
import Derived.SevenTiedAt
namespace Go.Proofs.YtcifkahmeimniabDoor
open Go.ChangeShapes Go.WideShapes Go.ChangeAt Go.RowKit

theorem Tryd.own : ownKnob Tryd.prog.godebug = none := by kernel_rfl
/-- The list that the rows of this seat bear. -/
def laidS : List (String × DataW Unit) := [("unicode/utf8.acceptRanges", Rows.laid_unicode_utf8_acceptRanges), ("unicode/utf8.first", Rows.laid_unicode_utf8_first)]
set_option maxRecDepth 100000 in
/-- A world in which the listed variables are laid. -/
theorem laidS_met (os : Os) (args : Array Value) : laidMetH Tryd.prog laidS ((World.laidAll Tryd.prog os laidS).forCall (fun _ _ => 0) ⟨#[], args, []⟩).memory := by
  rw [MakeChecks.laidMetH_plain _ _ _ (by kernel_rfl)]
  exact laidMet_laidAll _ (by kernel_rfl) (by kernel_rfl)

theorem Tryd.laidOut : laidOutB Tryd.prog = true := by kernel_rfl
theorem trodAll_below {P : Program} (hl : laidOutB P = true) {H : Type} {enc : TypeId × Value → H} {W W' : World} (hb : Below W.heap.size W W') : ∀ {ts : List TypeId} {vs : List Value} {ds : List (DataW H)} {ps : List MemPlace}, (ts.all fun t => P.readableRec t && decide (t < P.types.size)) = true →
    DataW.TrodAll enc P W 0 (fun _ => true) true ts vs ds ps → (∀ x ∈ ps, x.block < W.heap.size) → DataW.TrodAll enc P W' 0 (fun b => decide (b < W.heap.size)) true ts vs ds ps := by
  intro ts
  induction ts with
  | nil =>
    intro vs ds ps _ h _
    obtain ⟨rfl, rfl, rfl⟩ := trodAll_nil h
    exact rfl
  | cons t ts ih =>
    intro vs ds ps ht h hlt
    obtain ⟨v, vs', d, ds', p, q, rfl, rfl, rfl, h0, h1⟩ := trodAll_cons h
    rw [List.all_cons, Bool.and_eq_true, Bool.and_eq_true] at ht
    exact trodAll_cons_mk (Below.trod hl ht.1.1 (of_decide_eq_true ht.1.2) h0 hb (fun x hx => hlt x (List.mem_append_left _ hx))) (ih ht.2 h1 (fun x hx => hlt x (List.mem_append_right _ hx)))
theorem cell_spot {w : World} {a : Addr} {v : Value} (h : w.cell? a = some v) : a = ⟨a.block, a.off, none⟩ ∧ a.block < w.heap.size := by
  obtain ⟨b, o, sp⟩ := a
  unfold World.cell? at h
  split at h
  · rename_i c e f hh
    split at h
    · cases h
    · rename_i hsp
      have hs : sp = none := by
        cases sp with
        | none => rfl
        | some x => simp at hsp
      subst hs
      refine ⟨rfl, ?_⟩
      exact (Array.getElem?_eq_some_iff.1 hh).1
  · cases h

theorem oneCellS : Tryd.prog.cellsOf 9 = 1 := by kernel_rfl
theorem open_texts {H : Type} {enc : TypeId × Value → H} {W : World} {base : Nat} {v : Value} {d : DataW H} {ps : List MemPlace} (hv : Value.okWide Tryd.prog W .any base 23 v)
    (h : DataW.Trod enc Tryd.prog W 0 (fun _ => true) true 23 v d ps) : ∃ l : List ByteArray, StrsAt W v l := by
  obtain ⟨a0, len, cap, rfl⟩ := okWide_slice Tryd.underlying23 hv
  obtain ⟨fuel, hf⟩ := h
  rcases open_strings Tryd.underlying23 Tryd.underlying9 oneCellS hf with ⟨hcs, _⟩ | ⟨a, len', cap', ss, hcs, _, hl, hm, hss, _, hat, _⟩
  · simp [Value.cells] at hcs
    obtain ⟨rfl, rfl, rfl⟩ := hcs
    exact ⟨[], none, 0, rfl, Nat.le_refl _, Nat.zero_le _, fun h => by cases h⟩
  · simp [Value.cells] at hcs
    obtain ⟨rfl, rfl, rfl⟩ := hcs
    simp only [if_true] at hss
    refine ⟨ss.take len, some a, cap, by rw [List.length_take]; congr 1; omega, by rw [List.length_take]; omega, hm, fun h0 => ?_⟩
    rw [List.length_take] at h0
    have h00 := hat 0 (by omega)
    have ha0 : a.add 0 = a := by simp [Addr.add]
    rw [ha0] at h00
    obtain ⟨ha, hbl⟩ := cell_spot h00
    rw [ha] at hat ⊢
    refine ⟨_, _, rfl, hbl, fun i t ht => ?_⟩
    rw [List.getElem?_take] at ht
    split at ht
    · have hi := (List.getElem?_eq_some_iff.1 ht).1
      have := hat i hi
      rw [Addr.add_lit, List.getD_eq_getElem?_getD, ht] at this
      exact this
    · cases ht
theorem open_whole {H : Type} {enc : TypeId × Value → H} {W : World} {base : Nat} {v : Value} {d : DataW H} {ps : List MemPlace} (hv : Value.okWide Tryd.prog W .any base 44 v)
    (h : DataW.Trod enc Tryd.prog W 0 (fun _ => true) true 44 v d ps) : ∃ (l : List Int) (A : Option Addr) (c : Nat), v = .slice A l.length c ∧ l.length ≤ c ∧ c ≤ maxLen ∧
      (0 < l.length → ∃ b o, A = some ⟨b, o, none⟩ ∧ b < W.heap.size ∧ ∀ i (t : Int), l[i]? = some t → W.cell? ⟨b, o + i, none⟩ = some (.int .i64 t)) := by
  obtain ⟨a0, len, cap, rfl⟩ := okWide_slice Tryd.underlying44 hv
  obtain ⟨fuel, hf⟩ := h
  rcases open_ints Tryd.underlying44 Tryd.underlying3 (show Tryd.prog.cellsOf 3 = 1 by kernel_rfl) hf with ⟨hcs, _⟩ | ⟨a, len', cap', ss, hcs, _, hl, hm, hss, _, hat, _⟩
  · simp [Value.cells] at hcs
    obtain ⟨rfl, rfl, rfl⟩ := hcs
    exact ⟨[], none, 0, rfl, Nat.le_refl _, Nat.zero_le _, fun h => by cases h⟩
  · simp [Value.cells] at hcs
    obtain ⟨rfl, rfl, rfl⟩ := hcs
    simp only [if_true] at hss
    refine ⟨ss.take len, some a, cap, by rw [List.length_take]; congr 1; omega, by rw [List.length_take]; omega, hm, fun h0 => ?_⟩
    rw [List.length_take] at h0
    have h00 := hat 0 (by omega)
    have ha0 : a.add 0 = a := by simp [Addr.add]
    rw [ha0] at h00
    obtain ⟨ha, hbl⟩ := cell_spot h00
    rw [ha] at hat ⊢
    refine ⟨_, _, rfl, hbl, fun i t ht => ?_⟩
    rw [List.getElem?_take] at ht
    split at ht
    · have hi := (List.getElem?_eq_some_iff.1 ht).1
      have := hat i hi
      rw [Addr.add_lit, List.getD_eq_getElem?_getD, ht] at this
      exact this
    · cases ht
end Go.Proofs.YtcifkahmeimniabDoor
