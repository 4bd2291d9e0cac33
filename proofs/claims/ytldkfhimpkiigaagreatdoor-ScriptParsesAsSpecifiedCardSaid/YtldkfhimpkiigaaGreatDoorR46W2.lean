/-
  Layer 46 (script), the specification: Name, Kind.
-/
import Derived.Test.YtldkfhimpkiigaaGreatDoorR46W1
namespace Go.Proofs.YtldkfhimpkiigaaGreatDoor
open Go.RowKit ScrP
attribute [local go_sem] Oper.semAt_some

theorem flat_get {α : Type} {f : α → List Value} {k : Nat} (hf : ∀ a, (f a).length = k) : ∀ {l : List α} {i j : Nat} {x : α}, l[i]? = some x → j < k → (l.flatMap f)[i * k + j]? = (f x)[j]?
  | [], _, _, _, h, _ => by cases h
  | a :: l, 0, j, x, h, hj => by
    cases h
    rw [List.flatMap_cons, Nat.zero_mul, Nat.zero_add, List.getElem?_append_left (by rw [hf]; exact hj)]
  | a :: l, i + 1, j, x, h, hj => by
    rw [List.flatMap_cons, List.getElem?_append_right (by rw [hf, Nat.succ_mul]; omega), hf, show (i + 1) * k + j - k = i * k + j by rw [Nat.succ_mul]; omega]
    exact flat_get hf (l := l) h hj
/-- The specification's table at a block. -/
structure RTab (w : World) (b : Nat) : Prop where
  blk : Blk w b 64 rrowC.toArray
theorem RTab.row {w : World} {b k : Nat} {r : KRow} (h : RTab w b) (hr : krows[k + 1]? = some r) :
    w.cell? ⟨b, k * 4, none⟩ = some (.string r.name) ∧ w.cell? ⟨b, k * 4 + 1, none⟩ = some (.int .i64 (r.least : Int)) ∧ w.cell? ⟨b, k * 4 + 2, none⟩ = some (.int .i64 (r.most : Int)) ∧ w.cell? ⟨b, k * 4 + 3, none⟩ = some (.bool r.text) := by
  have hd : (krows.drop 1)[k]? = some r := by rw [List.getElem?_drop, Nat.add_comm]; exact hr
  have g : ∀ j, j < 4 → w.cell? ⟨b, k * 4 + j, none⟩ = ([.string r.name, .int .i64 (r.least : Int), .int .i64 (r.most : Int), .bool r.text] : List Value)[j]? := fun j hj => by
    rw [h.blk.cell, List.getElem?_toArray]
    unfold rrowC
    rw [flat_get (k := 4) (fun _ => rfl) hd hj]
  exact ⟨g 0 (by decide), g 1 (by decide), g 2 (by decide), g 3 (by decide)⟩
theorem RTab.below {w w' : World} {b : Nat} (h : RTab w b) (hb : Below w.heap.size w w') : RTab w' b := ⟨h.blk.below hb h.blk.lt⟩
/-- rows(), as what it leaves. -/
theorem rtab_any (w : World) : Calls Tryz.prog 33 #[] w fun e w' => e = .returned (.slice (some ⟨w.heap.size, 0, none⟩) 23 23) ∧ RTab w' w.heap.size ∧ Below w.heap.size w w' := by
  refine (rrows_any w).mono ?_
  rintro e w' ⟨rfl, rfl⟩
  exact ⟨rfl, ⟨Blk.new _ _ _⟩, (Below.refl _ _).alloc (Nat.le_refl _) _⟩
theorem rName_any (z : Int) (w : World) : Calls Tryz.prog 20 #[.int .i64 z] w fun e w' => e = .returned (.string (nameN z)) ∧ Below w.heap.size w w' := by
  by_cases h1 : z < 1
  · have hR : Hid (nameN z = ⟨#[]⟩) := by unfold Hid nameN isKindB; rw [decide_eq_false (by omega)]; rfl
    have d1 : decide (z < 1) = true := decide_eq_true h1
    go_enter Tryz.func20, Tryz.ntmps20
    go_wp2_with fail
    go_ret
    exact ⟨by rw [hR.out]; rfl, Below.refl _ _⟩
  · by_cases h2 : 23 < z
    · have hR : Hid (nameN z = ⟨#[]⟩) := by unfold Hid nameN isKindB; rw [decide_eq_true (by omega), decide_eq_false (by omega)]; rfl
      have d1 : decide (z < 1) = false := decide_eq_false h1
      have d2 : decide (23 < z) = true := decide_eq_true h2
      go_enter Tryz.func20, Tryz.ntmps20
      go_wp2_with fail
      go_ret
      exact ⟨by rw [hR.out]; rfl, Below.refl _ _⟩
    · obtain ⟨k, hk⟩ : ∃ k : Nat, z = ((k + 1 : Nat) : Int) := ⟨(z - 1).toNat, by omega⟩
      have hR : Hid (nameN z = (rowOf z).name) := by unfold Hid nameN isKindB; rw [decide_eq_true (by omega), decide_eq_true (by omega)]; rfl
      have hr : krows[k + 1]? = some (rowOf z) := by
        have := krow_at (z := z) (by omega) (by omega)
        rwa [show z.toNat = k + 1 by omega] at this
      obtain ⟨r, hrr⟩ : ∃ r, rowOf z = r := ⟨_, rfl⟩
      rw [hrr] at hr hR
      have hrH := Lib.hid hr
      have HT := Lib.hid (rtab_any w)
      have e1 : z - 1 = (k : Int) := by omega
      have k1 : (0 : Int) ≤ (k : Int) := by omega
      have k2 : (k : Int) < 23 := by omega
      have hz1 : -9223372036854775808 ≤ z - 1 := by omega
      have d1 : decide (z < 1) = false := decide_eq_false h1
      have d2 : decide (23 < z) = false := decide_eq_false h2
      clear hk hr hrr
      go_enter Tryz.func20, Tryz.ntmps20
      go_wp2_with fail
      refine HT.out.mono ?_
      rintro e w1 ⟨rfl, ht, hb⟩
      have HB := Lib.hid hb
      obtain ⟨c0, _⟩ := ht.row hrH.out
      clear ht hb HT
      go_wp2_with fail
      go_ret
      exact ⟨by rw [hR.out]; rfl, HB.out⟩
end Go.Proofs.YtldkfhimpkiigaaGreatDoor
