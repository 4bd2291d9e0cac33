/-
  Layer 33 (zero): numbers that come in as an argument, with their bounds.
-/
import Derived.Test.YtgenifcikfbfhaaDevO1
namespace Go.Proofs.Ytgenifcikfbfhaa
open Go.ChangeShapes Go.WideShapes Go.ChangeAt Go.RowKit Go.Deep

section
variable {H : Type} {enc : TypeId × Value → H} {w : World} {base : Nat} {spare : Nat → Bool} {held : Bool}
theorem open_ints_in {m : Nat} {cs : List Value} {x : DataW H × List MemPlace} (h : DataW.trod enc Try.prog w base spare held m 25 cs = some x) :
    ∃ (pv : Value) (P : List Int), cs = [pv] ∧ IntsAt w pv P ∧ ∀ (i : Nat) (y : Int), P[i]? = some y → -9223372036854775808 ≤ y ∧ y ≤ 9223372036854775807 := by
  rcases open_slice1 Try.underlying25 cellsInt h with ⟨rfl, _⟩ | ⟨a, len, cap, m', n, V, D, Pl, rfl, _, hl, hm, hmm, _, hx⟩
  · exact ⟨_, [], rfl, ⟨none, 0, rfl, Nat.le_refl _, Nat.zero_le _, fun h => absurd h (by simp)⟩, fun i y h => by simp at h⟩
  · have hml : len ≤ m' := by
      cases hsp : spare a.block with
      | true => rw [hmm, hsp]; simpa using hl
      | false => rw [hmm, hsp]; simp
    obtain ⟨T, hT⟩ := choose_lt (α := Int) (n := len) (p := fun i T => w.cell? (a.add i) = some (.int .i64 T) ∧ -9223372036854775808 ≤ T ∧ T ≤ 9223372036854775807) (fun i hi => by
      obtain ⟨h1, h2⟩ := hx i (by omega)
      obtain ⟨k, hk, _, hw⟩ := DataW.trod_int Try.underlying3 h2
      simp at hk
      exact ⟨k, by rw [h1, hk], i64_in hw⟩)
    have hlen : ((List.range len).map T).length = len := by rw [List.length_map, List.length_range]
    have hget : ∀ i y, ((List.range len).map T)[i]? = some y → i < len ∧ T i = y := fun i y hy => by
      rw [List.getElem?_map] at hy
      obtain ⟨i', hi', rfl⟩ := Option.map_eq_some_iff.1 hy
      have hil : i < len := by have := (List.getElem?_eq_some_iff.1 hi').1; simpa using this
      have : i' = i := by rw [List.getElem?_range hil] at hi'; cases hi'; rfl
      subst this
      exact ⟨hil, rfl⟩
    refine ⟨_, (List.range len).map T, rfl, ⟨some a, cap, by rw [hlen], by rw [hlen]; exact hl, hm, fun h0 => ?_⟩, fun i y hy => ?_⟩
    · rw [hlen] at h0
      have h00 := (hT 0 h0).1
      have ha0 : a.add 0 = a := by simp [Addr.add]
      rw [ha0] at h00
      obtain ⟨ha, hbl⟩ := cell_spot h00
      refine ⟨a.block, a.off, by rw [← ha], hbl, fun i y hy => ?_⟩
      obtain ⟨hil, rfl⟩ := hget i y hy
      have := (hT i hil).1
      rw [ha, Addr.add_lit] at this
      exact this
    · obtain ⟨hil, rfl⟩ := hget i y hy
      exact (hT i hil).2
end
set_option maxRecDepth 100000 in
/-- A slice of numbers that comes in as an argument. -/
theorem open_trips {H : Type} {enc : TypeId × Value → H} {W : World} {v : Value} {d : DataW H} {ps : List MemPlace} {base : Nat} (hv : Value.okWide Try.prog W .any base 25 v)
    (h : DataW.Trod enc Try.prog W 0 (fun _ => true) true 25 v d ps) : ∃ P : List Int, IntsAt W v P ∧ ∀ (i : Nat) (y : Int), P[i]? = some y → -9223372036854775808 ≤ y ∧ y ≤ 9223372036854775807 := by
  obtain ⟨a0, len, cap, rfl⟩ := okWide_slice Try.underlying25 hv
  obtain ⟨fuel, hf⟩ := h
  obtain ⟨pv, P, hcs, hP, hb⟩ := open_ints_in hf
  simp [Value.cells] at hcs
  rw [hcs]
  exact ⟨P, hP, hb⟩
section
variable {H : Type} {enc : TypeId × Value → H} {P : Program} {w : World} {base : Nat} {spare : Nat → Bool} {held : Bool}
theorem trodAll_five {t0 t1 t2 t3 t4 : TypeId} {args : Array Value} {ds : List (DataW H)} {ps : List MemPlace} (h : DataW.TrodAll enc P w base spare held [t0, t1, t2, t3, t4] args.toList ds ps) :
    ∃ v0 v1 v2 v3 v4 d0 d1 d2 d3 d4 p0 p1 p2 p3 p4, args = #[v0, v1, v2, v3, v4] ∧ ds = [d0, d1, d2, d3, d4] ∧ ps = p0 ++ p1 ++ p2 ++ p3 ++ p4 ∧ DataW.Trod enc P w base spare held t0 v0 d0 p0 ∧ DataW.Trod enc P w base spare held t1 v1 d1 p1 ∧ DataW.Trod enc P w base spare held t2 v2 d2 p2 ∧ DataW.Trod enc P w base spare held t3 v3 d3 p3 ∧ DataW.Trod enc P w base spare held t4 v4 d4 p4 := by
  obtain ⟨v0, vs0, d0, ds0, p0, q0, hargs, rfl, rfl, hd0, hr0⟩ := trodAll_cons h
  obtain ⟨v1, vs1, d1, ds1, p1, q1, rfl, rfl, rfl, hd1, hr1⟩ := trodAll_cons hr0
  obtain ⟨v2, vs2, d2, ds2, p2, q2, rfl, rfl, rfl, hd2, hr2⟩ := trodAll_cons hr1
  obtain ⟨v3, vs3, d3, ds3, p3, q3, rfl, rfl, rfl, hd3, hr3⟩ := trodAll_cons hr2
  obtain ⟨v4, vs4, d4, ds4, p4, q4, rfl, rfl, rfl, hd4, hr4⟩ := trodAll_cons hr3
  obtain ⟨rfl, rfl, rfl⟩ := trodAll_nil hr4
  exact ⟨v0, v1, v2, v3, v4, d0, d1, d2, d3, d4, p0, p1, p2, p3, p4, by cases args; simp_all, rfl, by simp, hd0, hd1, hd2, hd3, hd4⟩
theorem trodAll_mk5 {t0 t1 t2 t3 t4 : TypeId} {v0 v1 v2 v3 v4 : Value} {d0 d1 d2 d3 d4 : DataW H} {p0 p1 p2 p3 p4 : List MemPlace} (h0 : DataW.Trod enc P w base spare held t0 v0 d0 p0) (h1 : DataW.Trod enc P w base spare held t1 v1 d1 p1) (h2 : DataW.Trod enc P w base spare held t2 v2 d2 p2) (h3 : DataW.Trod enc P w base spare held t3 v3 d3 p3) (h4 : DataW.Trod enc P w base spare held t4 v4 d4 p4) :
    DataW.TrodAll enc P w base spare held [t0, t1, t2, t3, t4] [v0, v1, v2, v3, v4] [d0, d1, d2, d3, d4] (p0 ++ (p1 ++ (p2 ++ (p3 ++ p4)))) := ⟨p0, p1 ++ (p2 ++ (p3 ++ p4)), h0, trodAll_mk4 h1 h2 h3 h4, rfl⟩
end
end Go.Proofs.Ytgenifcikfbfhaa
