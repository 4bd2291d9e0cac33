/-
  Layer 12 (parse), printing: number, the second closure of Print.
-/
import Derived.Test.YtemhiiignamkjaaDoorParX2
namespace Go.Proofs.YtemhiiignamkjaaDoor
open Go.RowKit LexP ParP
attribute [local go_sem] Oper.semAt_some

set_option maxRecDepth 100000 in
set_option maxHeartbeats 12800000 in
theorem numP_any (w : World) (B b q : Nat) (l : List UInt8) (word : ByteArray) (n : Int) (h0 : -9223372036854775808 ≤ n) (h1 : n ≤ 9223372036854775807) (hb : BIs w B b l)
    (hq : Blk w q 89 #[.func (.func 37) #[] #[.pointer (some ⟨b, 0, none⟩)]]) (hlen : l.length + word.size + (Lib.itoa n).length ≤ 1000000000) (hp : PowAt w) :
    Calls Tryd.prog 39 #[.string word, .int .i64 n, .pointer (some ⟨q, 0, none⟩)] w fun e w' => e = .returned (.tuple #[]) ∧ BIs w' B b (l ++ word.data.toList ++ Lib.itoa n) ∧ Below B w w' ∧ Kept8 w w' b := by
  have HB := Lib.hid hb
  have HQ := Lib.hid hq
  have hlenH := Lib.hid hlen
  have hIt := Lib.hid (itoa_any n h0 h1 w.drew (hp.below (Below.refl _ _).drew))
  have cq : w.cell? ⟨q, 0, none⟩ = some (.func (.func 37) #[] #[.pointer (some ⟨b, 0, none⟩)]) := hq.cell 0
  have hqlt : Hid (q < w.heap.size) := (Array.getElem?_eq_some_iff.1 hq).1
  have hqb : Hid (q ≠ b) := hb.ne hq (by decide)
  have hBle : Hid (B ≤ w.heap.size) := Nat.le_trans HB.out.lt.2 (Nat.le_of_lt HB.out.lt.1)
  have hcat : Hid (cat [word, ⟨(Lib.itoa n).toArray⟩] = word.data.toList ++ Lib.itoa n) := by unfold Hid cat; simp
  have hle : Hid (l.length + (cat [word, ⟨(Lib.itoa n).toArray⟩]).length ≤ 1000000000) := by
    have h1 : word.data.toList.length = word.size := Array.length_toList
    unfold Hid
    rw [hcat.out, List.length_append, h1]
    omega
  clear hb hq hlen
  go_enter Tryd.func39, Tryd.ntmps39
  go_wp2_with fail
  refine wp_region_held_drew (S := (fun w' => w'.cell? ⟨q, 0, none⟩ = some (.func (.func 37) #[] #[.pointer (some ⟨b, 0, none⟩)]))) (by kernel_rfl) cq (fun hHeld => ?_)
  refine' wpAnyH_take (i := 0) (v := ?v0) rfl (by kernel_rfl) (by kernel_rfl) (by kernel_rfl) (fun _ _ _ h => h) (Or.inl ⟨by rfl, ?hy0⟩) hHeld ?rest0
  case hy0 =>
    intro w hSw
    try dsimp only at hSw
    go_simp
    all_goals with_reducible rfl
  try simp only [Act.put, List.setIfInBounds_toArray, List.set_cons_zero, List.set_cons_succ, List.getElem_toArray, List.getElem_cons_zero]
  refine' wpAnyH_take (i := 1) (v := ?v1) rfl (by kernel_rfl) (by kernel_rfl) (by kernel_rfl) (fun _ _ _ h => h) (Or.inl ⟨by rfl, ?hy1⟩) hHeld ?rest1
  case hy1 =>
    intro w hSw
    try dsimp only at hSw
    go_simp
    all_goals with_reducible rfl
  try simp only [Act.put, List.setIfInBounds_toArray, List.set_cons_zero, List.set_cons_succ, List.getElem_toArray, List.getElem_cons_zero, List.getElem_cons_succ]
  refine' wpAnyH_take (i := 2) (v := ?v2) rfl (by kernel_rfl) (by kernel_rfl) (by kernel_rfl) (fun _ _ _ h => h) (Or.inl ⟨by rfl, ?hy2⟩) hHeld ?rest2
  case hy2 =>
    intro w hSw
    try dsimp only at hSw
    go_simp
    all_goals with_reducible rfl
  try simp only [Act.put, List.setIfInBounds_toArray, List.set_cons_zero, List.set_cons_succ, List.getElem_toArray, List.getElem_cons_zero, List.getElem_cons_succ]
  refine wpAnyH_ready (rs := [3]) (by kernel_rfl) (by simp) ?_
  refine AllReadyH.cons rfl (fun K hK => ?_) AllReadyH.nil
  go_simp
  go_at_call 40
  refine hIt.out.mono ?_
  rintro e w1 ⟨rfl, hB1⟩
  have HB1 : Hid (Below w.heap.size w w1) := ((Below.refl _ _).drew).trans hB1
  clear hB1
  refine hK.out _ _ ?_ (fun hHeld2 => ?_)
  · exact (HQ.out.below HB1.out hqlt.out).cell 0
  clear hK K hHeld
  have hHeld := hHeld2
  clear hHeld2
  try simp only [Act.put, List.setIfInBounds_toArray, List.set_cons_zero, List.set_cons_succ, List.getElem_toArray, List.getElem_cons_zero, List.getElem_cons_succ]
  refine wpAnyH_ready (rs := [4]) (by kernel_rfl) (by simp) ?_
  refine AllReadyH.cons rfl (fun K hK => ?_) AllReadyH.nil
  go_simp
  refine world_is (P := fun W => K _ W) (fun W2 hW2 => ?_)
  have HB2 : Hid (Below w.heap.size w W2) := by subst hW2; exact HB1.out.alloc HB1.out.size _
  have HX2 : Hid (Blk W2 w1.heap.size 9 #[.string word, .string ⟨(Lib.itoa n).toArray⟩]) := by subst hW2; exact Blk.new _ _ _
  have hC2 : Hid (W2.cell? ⟨q, 0, none⟩ = some (.func (.func 37) #[] #[.pointer (some ⟨b, 0, none⟩)])) := (HQ.out.below HB2.out hqlt.out).cell 0
  clear hW2
  refine hK.out _ _ ?_ (fun hHeld2 => ?_)
  · exact hC2.out
  clear hK K hHeld
  have hHeld := hHeld2
  clear hHeld2
  try simp only [Act.put, List.setIfInBounds_toArray, List.set_cons_zero, List.set_cons_succ, List.getElem_toArray, List.getElem_cons_zero, List.getElem_cons_succ]
  refine wpAnyH_ready (rs := [5]) (by kernel_rfl) (by simp) ?_
  refine AllReadyH.cons rfl (fun K hK => ?_) AllReadyH.nil
  go_simp
  go_at_call 37
  refine (put_any W2 B b w1.heap.size 2 l [word, ⟨(Lib.itoa n).toArray⟩] (HB.out.below HB2.out) HX2.out hle.out (by simp)).mono ?_
  rintro e w3 ⟨rfl, h1, h2, h3⟩
  have HE := Lib.hid h1
  have HB3 : Hid (Below B w w3) := (HB2.out.mono hBle.out).trans h2
  have HK3 : Hid (Kept8 w w3 b) := (kept_below HB2.out b).trans h3
  clear h1 h2 h3
  rw [hcat.out, ← List.append_assoc] at HE
  go_wp2_with fail
  refine hK.out _ _ ?_ (fun hHeld2 => ?_)
  · exact (HK3.out _ _ _ hqb.out (by decide) HQ.out).cell 0
  clear hK K hHeld
  have hHeld := hHeld2
  clear hHeld2
  try simp only [Act.put, List.setIfInBounds_toArray, List.set_cons_zero, List.set_cons_succ, List.getElem_toArray, List.getElem_cons_zero, List.getElem_cons_succ]
  refine wpAnyH_done (by kernel_rfl) ?_ _
  clear hHeld
  go_wp2_with fail
  go_end0
  exact ⟨by simp, HE.out, HB3.out, HK3.out⟩
end Go.Proofs.YtemhiiignamkjaaDoor
