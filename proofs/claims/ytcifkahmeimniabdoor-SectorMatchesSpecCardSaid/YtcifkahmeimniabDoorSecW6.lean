/-
  The walks of layer 24 (sector): Count, Pack and Open at every argument.
-/
import Derived.Test.YtcifkahmeimniabDoorSecW4
import Derived.Test.YtcifkahmeimniabDoorSecW5
namespace Go.Proofs.YtcifkahmeimniabDoor
open Go.RowKit Go.Shelf
attribute [local go_sem] Oper.semAt_some

/-- What Open answers. -/
def openE (s : ByteArray) : Value × Int :=
  if s.size = 64 then
    match openL s.data.toList with
    | some p => (partVal p.number p.part p.left ⟨p.text.toArray⟩, 0)
    | none => (partVal 0 0 0 ⟨#[]⟩, 7)
  else (partVal 0 0 0 ⟨#[]⟩, 1)
theorem ext_list (s : ByteArray) (a b : Nat) : (s.extract a b).data.toList = (s.data.toList.drop a).take (b - a) := by
  rw [ByteArray.data_extract, Array.toList_extract, List.extract_eq_take_drop]
theorem toList_data (s : ByteArray) : s.toList = s.data.toList := ByteArray.toList_eq s
theorem ext_mk (s : ByteArray) (a b : Nat) : s.extract a b = ⟨((s.data.toList.drop a).take (b - a)).toArray⟩ := by
  rw [← ext_list]
theorem openL_ok {s : ByteArray} {N P L : Nat} (h : Cut s N P L) : openL s.data.toList = if okB s N P L = true then some ⟨N, P, L, ((s.extract 12 56).extract 0 (min L 44)).data.toList⟩ else none := by
  have hsz : s.data.toList.length = 64 := by rw [Array.length_toList]; exact h.size
  have e1 : s.data.toList.take 8 = (s.extract 0 8).data.toList := by rw [ext_list]; rfl
  have e2 : s.data.toList.drop 56 = (s.extract 56 64).data.toList := by rw [ext_list, List.take_of_length_le (by rw [List.length_drop]; omega)]
  have e3 : (s.data.toList.drop 8).take 2 = (s.extract 8 10).data.toList := by rw [ext_list]
  have e4 : (s.data.toList.drop 10).take 2 = (s.extract 10 12).data.toList := by rw [ext_list]
  have e5 : (s.data.toList.drop (12 + min L 44)).take (44 - min L 44) = ((s.extract 12 56).extract (min L 44) 44).data.toList := by
    rw [ext_list, ext_list, List.drop_take, List.drop_drop, List.take_take]
    congr 1
    omega
  have e6 : (s.data.toList.drop 12).take (min L 44) = ((s.extract 12 56).extract 0 (min L 44)).data.toList := by
    rw [ext_list, ext_list, List.drop_zero, List.take_take]
    congr 1
    omega
  unfold openL
  rw [e1, e2, e3, e4, h.num, h.part, h.left, e5, e6]
  unfold okB
  rw [toList_data, toList_data]
  have hiff : ((s.extract 0 8).data.toList = (s.extract 56 64).data.toList ∧ 1 ≤ N ∧ N ≤ mostN ∧ 44 * P + L ≤ 8000 ∧ (0 < P → 0 < L) ∧ (((s.extract 12 56).extract (min L 44) 44).data.toList.all fun x => x == 0) = true) ↔
      (((s.extract 0 8).data.toList == (s.extract 56 64).data.toList) && (decide (1 ≤ N) && (decide (N ≤ mostN) && (decide (P * 44 + L ≤ 8000) && ((decide (P = 0) || decide (0 < L)) && ((s.extract 12 56).extract (min L 44) 44).data.toList.all (· == 0)))))) = true := by
    simp only [Bool.and_eq_true, Bool.or_eq_true, decide_eq_true_eq, beq_iff_eq]
    constructor
    · rintro ⟨a, b, c, d, e, f⟩
      exact ⟨a, b, c, by omega, by omega, f⟩
    · rintro ⟨a, b, c, d, e, f⟩
      exact ⟨a, b, c, by omega, by omega, f⟩
  by_cases hc : (s.extract 0 8).data.toList = (s.extract 56 64).data.toList ∧ 1 ≤ N ∧ N ≤ mostN ∧ 44 * P + L ≤ 8000 ∧ (0 < P → 0 < L) ∧ (((s.extract 12 56).extract (min L 44) 44).data.toList.all fun x => x == 0) = true
  · rw [if_pos hc, if_pos (hiff.1 hc)]
  · rw [if_neg hc, if_neg (fun h => hc (hiff.2 h))]
theorem cut_of {s : ByteArray} (hs : s.size = 64) : ∃ N P L, Cut s N P L := ⟨getL (s.extract 0 8).data.toList, getL (s.extract 8 10).data.toList, getL (s.extract 10 12).data.toList, hs, rfl, rfl, rfl⟩
theorem open_any (s : ByteArray) (w : World) : Calls Tryd.prog 12 #[.string s] w fun e w' => e = .returned (.tuple #[(openE s).1, .int .i64 (openE s).2]) ∧ Below w.heap.size w w' := by
  unfold openE
  by_cases hs : s.size = 64
  · rw [if_pos hs]
    obtain ⟨N, P, L, hc⟩ := cut_of hs
    rw [openL_ok hc]
    refine (open_x s N P L hc w).mono ?_
    rintro e w' ⟨rfl, hB⟩
    refine ⟨?_, hB⟩
    unfold openA openB
    split <;> rfl
  · rw [if_neg hs]
    exact open_size s w hs

/-- What Pack answers. -/
def packE (number : Int) (rec : ByteArray) : List ByteArray × Int :=
  if number < 1 ∨ 4611686018427387904 < number then ([], 1) else if 8000 < rec.size then ([], 2) else ((List.range (countN rec.size)).map (secText number.toNat rec), 0)
theorem newTexts_nil {w w' : World} (h : Below w.heap.size w w') : NewTexts w w' (.slice none 0 0) [] := ⟨World.ownsRow_nil _ _ _ _, by simp, h⟩
set_option maxRecDepth 100000 in
set_option maxHeartbeats 4000000 in
theorem pack_any (w : World) (number : Int) (rec : ByteArray) :
    Calls Tryd.prog 10 #[.int .i64 number, .string rec] w fun e w' => ∃ v, e = .returned (.tuple #[v, .int .i64 (packE number rec).2]) ∧ NewTexts w w' v (packE number rec).1 := by
  unfold packE
  by_cases h1 : number < 1
  · rw [if_pos (.inl h1)]
    have d1 : decide (number < 1) = true := decide_eq_true h1
    go_enter Tryd.func10, Tryd.ntmps10
    go_wp2_with fail
    exact bodyPost_ret (v := .tuple #[.slice none 0 0, .int .i64 1]) (results_list (p := 4) (q := 5) rfl _ _ w.heap.size (.slice none 0 0) rfl ((Blk.new w 23 #[.slice none 0 0]).cell 0)) rfl ⟨_, rfl, newTexts_nil ((Below.refl _ _).alloc (Nat.le_refl _) _)⟩
  have d1 : decide (number < 1) = false := decide_eq_false h1
  by_cases h2 : 4611686018427387904 < number
  · rw [if_pos (.inr h2)]
    have d2 : decide (4611686018427387904 < number) = true := decide_eq_true h2
    go_enter Tryd.func10, Tryd.ntmps10
    go_wp2_with fail
    exact bodyPost_ret (v := .tuple #[.slice none 0 0, .int .i64 1]) (results_list (p := 4) (q := 5) rfl _ _ w.heap.size (.slice none 0 0) rfl ((Blk.new w 23 #[.slice none 0 0]).cell 0)) rfl ⟨_, rfl, newTexts_nil ((Below.refl _ _).alloc (Nat.le_refl _) _)⟩
  have d2 : decide (4611686018427387904 < number) = false := decide_eq_false h2
  rw [if_neg (by omega)]
  by_cases h3 : 8000 < rec.size
  · rw [if_pos h3]
    have d3 : decide (8000 < (rec.size : Int)) = true := decide_eq_true (by omega)
    go_enter Tryd.func10, Tryd.ntmps10
    go_wp2_with fail
    exact bodyPost_ret (v := .tuple #[.slice none 0 0, .int .i64 2]) (results_list (p := 4) (q := 5) rfl _ _ w.heap.size (.slice none 0 0) rfl ((Blk.new w 23 #[.slice none 0 0]).cell 0)) rfl ⟨_, rfl, newTexts_nil ((Below.refl _ _).alloc (Nat.le_refl _) _)⟩
  · rw [if_neg h3]
    obtain ⟨n, rfl⟩ := Int.eq_ofNat_of_zero_le (show 0 ≤ number by omega)
    have := pack_in w n rec (by omega) (by unfold mostN; omega) (by omega)
    simpa using this
end Go.Proofs.YtcifkahmeimniabDoor
