/-
  The walks of layer 24 (sector): the specification's Open.
-/
import Derived.Test.YtcifkahmeimniabDoorSecW8
namespace Go.Proofs.YtcifkahmeimniabDoor
open Go.RowKit Go.Shelf
attribute [local go_sem] Oper.semAt_some

set_option maxRecDepth 100000 in
set_option maxHeartbeats 4000000 in
theorem ropen_size (s : ByteArray) (w : World) (hs : s.size ≠ 64) :
    Calls Tryd.prog 13 #[.string s] w fun e w' => e = .returned (.tuple #[partVal 0 0 0 ⟨#[]⟩, .int .i64 1]) ∧ Below w.heap.size w w' := by
  have h1 : ((s.size : Int) != 64) = true := bne_t (by omega)
  clear hs
  go_enter Tryd.func13, Tryd.ntmps13
  go_wp2_with fail
  exact bodyPost_ret (v := .tuple #[partVal 0 0 0 ⟨#[]⟩, .int .i64 1]) (results_ct (p := 2) (q := 3) rfl _ _ w.heap.size 28 #[.int .i64 0, .int .i64 0, .int .i64 0, .string ⟨#[]⟩] _ rfl (Blk.new _ _ _) Tryd.underlying28 rfl (by kernel_rfl)) rfl ⟨rfl, (Below.refl _ _).alloc (Nat.le_refl _) _⟩
theorem okB_num {s : ByteArray} {N P L : Nat} (h : ¬ (1 ≤ N ∧ N ≤ mostN)) : okB s N P L = false := by
  unfold okB
  by_cases h1 : 1 ≤ N
  · rw [decide_eq_false (show ¬ N ≤ mostN from fun e => h ⟨h1, e⟩)]; simp
  · rw [decide_eq_false h1]; simp
theorem rest_all {s : ByteArray} {n : Nat} (hs : s.size = 64) (hn : n ≤ 44) : ((s.extract 12 56).extract n 44).data.toList.all (· == 0) = true ↔ ∀ u, 12 + n ≤ u → u < 56 → s.data.toList[u]? = some 0 := by
  have hl : s.data.toList.length = 64 := by rw [Array.length_toList]; exact hs
  rw [ext_list, ext_list, List.all_eq_true]
  constructor
  · intro h u h1 h2
    have hu : s.data.toList[u]? = some s.data.toList[u] := List.getElem?_eq_getElem (by omega)
    have hm : s.data.toList[u] ∈ (((s.data.toList.drop 12).take (56 - 12)).drop n).take (44 - n) := by
      refine List.mem_of_getElem? (i := u - 12 - n) ?_
      rw [List.getElem?_take_of_lt (by omega), List.getElem?_drop, List.getElem?_take_of_lt (by omega), List.getElem?_drop, ← hu]
      congr 1; omega
    rw [hu]
    have := h _ hm
    simpa using this
  · intro h x hx
    obtain ⟨i, hi⟩ := List.mem_iff_getElem?.1 hx
    have hil := (List.getElem?_eq_some_iff.1 hi).1
    rw [List.length_take, List.length_drop, List.length_take, List.length_drop] at hil
    rw [List.getElem?_take_of_lt (by omega), List.getElem?_drop, List.getElem?_take_of_lt (by omega), List.getElem?_drop, h _ (by omega) (by omega)] at hi
    cases hi
    rfl
theorem okB_byte {s : ByteArray} {N P L n k : Nat} {b : UInt8} (hs : s.size = 64) (hn : n = min L 44) (h1 : 12 + n ≤ k) (h2 : k < 56) (hb : s.data.toList[k]? = some b) (hz : b ≠ 0) : okB s N P L = false := by
  unfold okB
  have : ((s.extract 12 56).extract (min L 44) 44).data.toList.all (· == 0) = false := by
    rw [← hn, Bool.eq_false_iff]
    intro h
    have := (rest_all hs (by omega)).1 h k h1 h2
    rw [hb] at this
    cases this
    exact hz rfl
  rw [this]
  simp
theorem okB_good {s : ByteArray} {N P L n : Nat} (hs : s.size = 64) (hn : n = min L 44) (he : ((s.extract 0 8).toList == (s.extract 56 64).toList) = true) (h1 : 1 ≤ N) (h2 : N ≤ mostN) (h3 : P * 44 + L ≤ 8000) (h4 : ¬ (0 < P ∧ L = 0)) (h : ∀ u, 12 + n ≤ u → u < 56 → s.data.toList[u]? = some 0) : okB s N P L = true := by
  have hall := (rest_all hs (by omega)).2 h
  rw [hn] at hall
  unfold okB
  rw [he, hall, decide_eq_true h1, decide_eq_true h2, decide_eq_true h3]
  rcases Nat.eq_zero_or_pos P with h0 | h0
  · rw [decide_eq_true h0]; rfl
  · rw [decide_eq_true (show 0 < L by omega)]; simp
theorem ext_ext (s : ByteArray) (n : Nat) (hn : n ≤ 44) : s.extract 12 (12 + n) = (s.extract 12 56).extract 0 n := by
  rw [ext_mk s, ext_mk (s.extract 12 56), ext_list, List.drop_zero, List.take_take]
  congr 3
  omega
/-- The specification reads a number that is too great as -1. -/
def numZ (N : Nat) : Int := if N ≤ mostN then N else -1
theorem getZ_num {l : List UInt8} {N : Nat} (h : getL l = N) : getZ l = numZ N := by unfold getZ numZ; rw [h]
theorem getZ_small {l : List UInt8} {N : Nat} (h : getL l = N) (hN : N < 65536) : getZ l = N := by unfold getZ; rw [h, if_pos (by unfold mostN; omega)]

set_option maxRecDepth 100000 in
set_option maxHeartbeats 4000000 in
theorem ropen_x (s : ByteArray) (N P L : Nat) (h : Cut s N P L) (w : World) :
    Calls Tryd.prog 13 #[.string s] w fun e w' => e = .returned (.tuple #[openA s N P L, .int .i64 (openB s N P L)]) ∧ Below w.heap.size w w' := by
  have h64 := h.size
  obtain ⟨NZ, hNZ⟩ : ∃ NZ, numZ N = NZ := ⟨_, rfl⟩
  have HG1 : ∀ w, Hid (Calls Tryd.prog 25 #[.string (s.extract 0 8)] w fun e w' => e = .returned (.int .i64 NZ) ∧ w = w') := fun w => by
    have := rget_any w (s.extract 0 8) (by rw [ByteArray.size_extract]; omega)
    rw [getZ_num h.num, hNZ] at this
    exact this
  have HG2 : ∀ w, Hid (Calls Tryd.prog 25 #[.string (s.extract 8 10)] w fun e w' => e = .returned (.int .i64 P) ∧ w = w') := fun w => by
    have := rget_any w (s.extract 8 10) (by rw [ByteArray.size_extract]; omega)
    rw [getZ_small h.part h.lt2] at this
    exact this
  have HG3 : ∀ w, Hid (Calls Tryd.prog 25 #[.string (s.extract 10 12)] w fun e w' => e = .returned (.int .i64 L) ∧ w = w') := fun w => by
    have := rget_any w (s.extract 10 12) (by rw [ByteArray.size_extract]; omega)
    rw [getZ_small h.left h.lt3] at this
    exact this
  have H := Lib.hid h
  have HNZ := Lib.hid hNZ
  clear h hNZ
  go_enter Tryd.func13, Tryd.ntmps13
  go_wp2_with fail
  have b0 := Blk.new w 28 #[.int .i64 0, .int .i64 0, .int .i64 0, .string ⟨#[]⟩]
  have hBW : Below w.heap.size w (w.alloc (.cells #[.int .i64 0, .int .i64 0, .int .i64 0, .string ⟨#[]⟩] 28)) := ((Below.refl _ _).alloc (Nat.le_refl _) _)
  have hsz : (w.alloc (.cells #[.int .i64 0, .int .i64 0, .int .i64 0, .string ⟨#[]⟩] 28)).heap.size = w.heap.size + 1 := by simp
  generalize w.alloc (.cells #[.int .i64 0, .int .i64 0, .int .i64 0, .string ⟨#[]⟩] 28) = W at b0 hBW hsz ⊢
  have Hsz := Lib.hid hsz
  clear hsz
  refine' meet_up (fun hgo => ?body) ?rest
  case body =>
    go_region_held3 (fun _ => True) (trivial) (first
      | (go_at_call_of 25 (ByteArray.extract s 0 8); refine (HG1 _).out.mono ?_; rintro e w1 ⟨rfl, rfl⟩)
      | (go_at_call_of 25 (ByteArray.extract s 8 10); refine (HG2 _).out.mono ?_; rintro e w1 ⟨rfl, rfl⟩)
      | (go_at_call_of 25 (ByteArray.extract s 10 12); refine (HG3 _).out.mono ?_; rintro e w1 ⟨rfl, rfl⟩))
    all_goals exact hgo
  have b1 := (Blk.new W 28 #[.int .i64 NZ, .int .i64 P, .int .i64 L, .string ⟨#[]⟩]).drew
  have b2 := (b0.alloc (.cells #[.int .i64 NZ, .int .i64 P, .int .i64 L, .string ⟨#[]⟩] 28)).drew
  have hB2 : Below w.heap.size w ((W.alloc (.cells #[.int .i64 NZ, .int .i64 P, .int .i64 L, .string ⟨#[]⟩] 28)).drew) := (hBW.alloc hBW.size _).drew
  rw [Hsz.out] at b1 ⊢
  generalize (W.alloc (.cells #[.int .i64 NZ, .int .i64 P, .int .i64 L, .string ⟨#[]⟩] 28)).drew = W2 at b1 b2 hB2 ⊢
  clear b0 hBW Hsz HG1 HG2 HG3
  have hP16 := H.out.lt2
  have hL16 := H.out.lt3
  have x0 := b1.cell 0
  have x1 := b1.cell 1
  have x2 := b1.cell 2
  obtain ⟨eb, heb⟩ : ∃ eb, ((s.extract 0 8).toList == (s.extract 56 64).toList) = eb := ⟨_, rfl⟩
  have Heb := Lib.hid heb
  have hnz : (1 ≤ NZ ↔ 1 ≤ N ∧ N ≤ mostN) ∧ (1 ≤ NZ → NZ = (N : Int)) := by
    have := HNZ.out
    unfold numZ at this
    unfold mostN at *
    split at this <;> omega
  have HN := Lib.hid hnz
  clear hnz
  by_cases h1 : NZ < 1
  · have d1 : decide (NZ < 1) = true := decide_eq_true h1
    have hok := open_corrupt (s := s) (N := N) (P := P) (L := L) (okB_num (fun h => by have := HN.out.1.2 h; omega))
    have Hok := Lib.hid hok
    clear hok
    go_wp2_with fail
    go_quiet (fail)
    have b3 := b1.drewN nq
    have b4 := b2.drewN nq
    have hB3 := below_drewN hB2 nq
    generalize W2.drewN nq = W3 at b3 b4 hB3 ⊢
    have z0 := b4.cell 0
    have z1 := b4.cell 1
    have z2 := b4.cell 2
    have z3 := b4.cell 3
    have zf0 := b4.frozen 0
    have zf1 := b4.frozen 1
    have zf2 := b4.frozen 2
    have zf3 := b4.frozen 3
    have c0 := b3.cell 0
    have c1 := b3.cell 1
    have c2 := b3.cell 2
    have c3 := b3.cell 3
    have cf0 := b3.frozen 0
    have cf1 := b3.frozen 1
    have cf2 := b3.frozen 2
    have cf3 := b3.frozen 3
    go_wp2_with fail
    exact bodyPost_ret (v := .tuple #[partVal 0 0 0 ⟨#[]⟩, .int .i64 7]) (results_ct (p := 2) (q := 3) rfl _ _ w.heap.size 28 #[.int .i64 0, .int .i64 0, .int .i64 0, .string ⟨#[]⟩] _ rfl ((((b4.set_ 0 (.int .i64 0)).set_ 1 (.int .i64 0)).set_ 2 (.int .i64 0)).set_ 3 (.string ⟨#[]⟩)) Tryd.underlying28 rfl (by kernel_rfl)) rfl ⟨tuple_pair Hok.out, (((hB3.setCell (p := ⟨w.heap.size, 0, none⟩) (Nat.le_refl _) _).setCell (p := ⟨w.heap.size, 1, none⟩) (Nat.le_refl _) _).setCell (p := ⟨w.heap.size, 2, none⟩) (Nat.le_refl _) _).setCell (p := ⟨w.heap.size, 3, none⟩) (Nat.le_refl _) _⟩
  have d1 : decide (NZ < 1) = false := decide_eq_false h1
  obtain ⟨hN1, hN2⟩ := HN.out.1.1 (by omega)
  have hNN := HN.out.2 (by omega)
  subst hNN
  cases eb with
  | false =>
    have hok := open_corrupt (s := s) (N := N) (P := P) (L := L) (by unfold okB; rw [Heb.out]; rfl)
    have Hok := Lib.hid hok
    clear hok
    go_wp2_with fail
    go_quiet (fail)
    have b3 := b1.drewN nq
    have b4 := b2.drewN nq
    have hB3 := below_drewN hB2 nq
    generalize W2.drewN nq = W3 at b3 b4 hB3 ⊢
    have z0 := b4.cell 0
    have z1 := b4.cell 1
    have z2 := b4.cell 2
    have z3 := b4.cell 3
    have zf0 := b4.frozen 0
    have zf1 := b4.frozen 1
    have zf2 := b4.frozen 2
    have zf3 := b4.frozen 3
    have c0 := b3.cell 0
    have c1 := b3.cell 1
    have c2 := b3.cell 2
    have c3 := b3.cell 3
    have cf0 := b3.frozen 0
    have cf1 := b3.frozen 1
    have cf2 := b3.frozen 2
    have cf3 := b3.frozen 3
    go_wp2_with fail
    exact bodyPost_ret (v := .tuple #[partVal 0 0 0 ⟨#[]⟩, .int .i64 7]) (results_ct (p := 2) (q := 3) rfl _ _ w.heap.size 28 #[.int .i64 0, .int .i64 0, .int .i64 0, .string ⟨#[]⟩] _ rfl ((((b4.set_ 0 (.int .i64 0)).set_ 1 (.int .i64 0)).set_ 2 (.int .i64 0)).set_ 3 (.string ⟨#[]⟩)) Tryd.underlying28 rfl (by kernel_rfl)) rfl ⟨tuple_pair Hok.out, (((hB3.setCell (p := ⟨w.heap.size, 0, none⟩) (Nat.le_refl _) _).setCell (p := ⟨w.heap.size, 1, none⟩) (Nat.le_refl _) _).setCell (p := ⟨w.heap.size, 2, none⟩) (Nat.le_refl _) _).setCell (p := ⟨w.heap.size, 3, none⟩) (Nat.le_refl _) _⟩
  | true =>
    by_cases h3 : 8000 < P * 44 + L
    · have HH3 := Lib.hid h3
      by_cases h3' : 8000 < L
      · have d3 : decide (8000 < (L : Int)) = true := decide_eq_true (by omega)
        have hok := open_corrupt (s := s) (N := N) (P := P) (L := L) (by unfold okB; rw [decide_eq_false (show ¬ P * 44 + L ≤ 8000 by have := HH3.out; omega)]; simp)
        have Hok := Lib.hid hok
        clear hok
        go_wp2_with fail
        go_quiet (fail)
        have b3 := b1.drewN nq
        have b4 := b2.drewN nq
        have hB3 := below_drewN hB2 nq
        generalize W2.drewN nq = W3 at b3 b4 hB3 ⊢
        have z0 := b4.cell 0
        have z1 := b4.cell 1
        have z2 := b4.cell 2
        have z3 := b4.cell 3
        have zf0 := b4.frozen 0
        have zf1 := b4.frozen 1
        have zf2 := b4.frozen 2
        have zf3 := b4.frozen 3
        have c0 := b3.cell 0
        have c1 := b3.cell 1
        have c2 := b3.cell 2
        have c3 := b3.cell 3
        have cf0 := b3.frozen 0
        have cf1 := b3.frozen 1
        have cf2 := b3.frozen 2
        have cf3 := b3.frozen 3
        go_wp2_with fail
        exact bodyPost_ret (v := .tuple #[partVal 0 0 0 ⟨#[]⟩, .int .i64 7]) (results_ct (p := 2) (q := 3) rfl _ _ w.heap.size 28 #[.int .i64 0, .int .i64 0, .int .i64 0, .string ⟨#[]⟩] _ rfl ((((b4.set_ 0 (.int .i64 0)).set_ 1 (.int .i64 0)).set_ 2 (.int .i64 0)).set_ 3 (.string ⟨#[]⟩)) Tryd.underlying28 rfl (by kernel_rfl)) rfl ⟨tuple_pair Hok.out, (((hB3.setCell (p := ⟨w.heap.size, 0, none⟩) (Nat.le_refl _) _).setCell (p := ⟨w.heap.size, 1, none⟩) (Nat.le_refl _) _).setCell (p := ⟨w.heap.size, 2, none⟩) (Nat.le_refl _) _).setCell (p := ⟨w.heap.size, 3, none⟩) (Nat.le_refl _) _⟩
      · have d3 : decide (8000 < (L : Int)) = false := decide_eq_false (by omega)
        have d3' : decide (8000 < 44 * (P : Int) + L) = true := decide_eq_true (by omega)
        have hok := open_corrupt (s := s) (N := N) (P := P) (L := L) (by unfold okB; rw [decide_eq_false (show ¬ P * 44 + L ≤ 8000 by have := HH3.out; omega)]; simp)
        have Hok := Lib.hid hok
        clear hok
        go_wp2_with fail
        go_quiet (fail)
        have b3 := b1.drewN nq
        have b4 := b2.drewN nq
        have hB3 := below_drewN hB2 nq
        generalize W2.drewN nq = W3 at b3 b4 hB3 ⊢
        have z0 := b4.cell 0
        have z1 := b4.cell 1
        have z2 := b4.cell 2
        have z3 := b4.cell 3
        have zf0 := b4.frozen 0
        have zf1 := b4.frozen 1
        have zf2 := b4.frozen 2
        have zf3 := b4.frozen 3
        have c0 := b3.cell 0
        have c1 := b3.cell 1
        have c2 := b3.cell 2
        have c3 := b3.cell 3
        have cf0 := b3.frozen 0
        have cf1 := b3.frozen 1
        have cf2 := b3.frozen 2
        have cf3 := b3.frozen 3
        go_wp2_with fail
        exact bodyPost_ret (v := .tuple #[partVal 0 0 0 ⟨#[]⟩, .int .i64 7]) (results_ct (p := 2) (q := 3) rfl _ _ w.heap.size 28 #[.int .i64 0, .int .i64 0, .int .i64 0, .string ⟨#[]⟩] _ rfl ((((b4.set_ 0 (.int .i64 0)).set_ 1 (.int .i64 0)).set_ 2 (.int .i64 0)).set_ 3 (.string ⟨#[]⟩)) Tryd.underlying28 rfl (by kernel_rfl)) rfl ⟨tuple_pair Hok.out, (((hB3.setCell (p := ⟨w.heap.size, 0, none⟩) (Nat.le_refl _) _).setCell (p := ⟨w.heap.size, 1, none⟩) (Nat.le_refl _) _).setCell (p := ⟨w.heap.size, 2, none⟩) (Nat.le_refl _) _).setCell (p := ⟨w.heap.size, 3, none⟩) (Nat.le_refl _) _⟩
    have d3 : decide (8000 < (L : Int)) = false := decide_eq_false (by omega)
    have d3' : decide (8000 < 44 * (P : Int) + L) = false := decide_eq_false (by omega)
    have HH3 := Lib.hid h3
    clear h3
    by_cases h4 : 0 < P ∧ L = 0
    · have d4 : 0 < P := h4.1
      have d4' : decide (0 < (P : Int)) = true := decide_eq_true (by omega)
      have d5 : ((L : Int) == 0) = true := beq_t (by omega)
      have HH4 := Lib.hid h4
      clear h4
      have hok := open_corrupt (s := s) (N := N) (P := P) (L := L) (by unfold okB; rw [decide_eq_false (show ¬ P = 0 by have := HH4.out; omega), decide_eq_false (show ¬ 0 < L by have := HH4.out; omega)]; simp)
      have Hok := Lib.hid hok
      clear hok
      go_wp2_with fail
      go_quiet (fail)
      have b3 := b1.drewN nq
      have b4 := b2.drewN nq
      have hB3 := below_drewN hB2 nq
      generalize W2.drewN nq = W3 at b3 b4 hB3 ⊢
      have z0 := b4.cell 0
      have z1 := b4.cell 1
      have z2 := b4.cell 2
      have z3 := b4.cell 3
      have zf0 := b4.frozen 0
      have zf1 := b4.frozen 1
      have zf2 := b4.frozen 2
      have zf3 := b4.frozen 3
      have c0 := b3.cell 0
      have c1 := b3.cell 1
      have c2 := b3.cell 2
      have c3 := b3.cell 3
      have cf0 := b3.frozen 0
      have cf1 := b3.frozen 1
      have cf2 := b3.frozen 2
      have cf3 := b3.frozen 3
      go_wp2_with fail
      exact bodyPost_ret (v := .tuple #[partVal 0 0 0 ⟨#[]⟩, .int .i64 7]) (results_ct (p := 2) (q := 3) rfl _ _ w.heap.size 28 #[.int .i64 0, .int .i64 0, .int .i64 0, .string ⟨#[]⟩] _ rfl ((((b4.set_ 0 (.int .i64 0)).set_ 1 (.int .i64 0)).set_ 2 (.int .i64 0)).set_ 3 (.string ⟨#[]⟩)) Tryd.underlying28 rfl (by kernel_rfl)) rfl ⟨tuple_pair Hok.out, (((hB3.setCell (p := ⟨w.heap.size, 0, none⟩) (Nat.le_refl _) _).setCell (p := ⟨w.heap.size, 1, none⟩) (Nat.le_refl _) _).setCell (p := ⟨w.heap.size, 2, none⟩) (Nat.le_refl _) _).setCell (p := ⟨w.heap.size, 3, none⟩) (Nat.le_refl _) _⟩
    have HH4 := Lib.hid h4
    obtain ⟨n, hn⟩ : ∃ n : Nat, min (L : Int) 44 = n := ⟨min L 44, by omega⟩
    have hnL : n = min L 44 := by omega
    have hn44 : n ≤ 44 := by omega
    have HnL := Lib.hid hnL
    clear hnL
    by_cases h5 : 0 < P
    · have d5 : ((L : Int) == 0) = false := beq_f (by omega)
      have d4' : decide (0 < (P : Int)) = true := decide_eq_true (by omega)
      go_wp2_with fail
      go_quiet (fail)
      have b3 := b1.drewN nq
      have b4 := b2.drewN nq
      have hB3 := below_drewN hB2 nq
      generalize W2.drewN nq = W3 at b3 b4 hB3 ⊢
      have z0 := b4.cell 0
      have z1 := b4.cell 1
      have z2 := b4.cell 2
      have z3 := b4.cell 3
      have zf0 := b4.frozen 0
      have zf1 := b4.frozen 1
      have zf2 := b4.frozen 2
      have zf3 := b4.frozen 3
      have c0 := b3.cell 0
      have c1 := b3.cell 1
      have c2 := b3.cell 2
      have c3 := b3.cell 3
      have cf0 := b3.frozen 0
      have cf1 := b3.frozen 1
      have cf2 := b3.frozen 2
      have cf3 := b3.frozen 3
      clear b1 b2 hB2 x0 x1 x2
      go_wp2_with fail
      go_loop [6] (fun i => ∃ k : Nat, 12 + n ≤ k ∧ k ≤ 56 ∧ i = .int .i64 k ∧ ∀ u, 12 + n ≤ u → u < k → s.data.toList[u]? = some 0) (fun i => 56 - (intOf i).toNat)
      case atStart => exact ⟨12 + n, Nat.le_refl _, by omega, by go_num, fun u h1 h2 => by omega⟩
      case round =>
        obtain ⟨k, hk1, hk2, rfl, hall⟩ := hrel
        have HAll := Lib.hid hall
        clear hall
        by_cases hlt : k < 56
        · have hks : k < s.size := by omega
          have hsk : s.data.toList[k]? = some s[k] := by rw [List.getElem?_eq_getElem (by rw [Array.length_toList]; exact hks)]; rfl
          have HSK := Lib.hid hsk
          clear hsk
          by_cases hz : s[k] = 0
          · have hz2 : ((s[k].toNat : Int) != 0) = false := by rw [hz]; rfl
            have HZ := Lib.hid hz
            clear hz
            go_wp2_with fail
            go_round
            case rel =>
              refine ⟨k + 1, by omega, by omega, by go_num, fun u h1 h2 => ?_⟩
              by_cases e : u = k
              · subst e; rw [HSK.out, HZ.out]
              · exact HAll.out u h1 (by omega)
            case measure => simp [intOf]; omega
          · have hz2 : ((s[k].toNat : Int) != 0) = true := bne_t (fun e => hz (by have h0 : s[k].toNat = 0 := (by omega); exact UInt8.toNat_inj.1 h0))
            have HZ := Lib.hid hz
            clear hz
            have hok := open_corrupt (s := s) (N := N) (P := P) (L := L) (okB_byte (n := n) H.out.size HnL.out hk1 hlt HSK.out HZ.out)
            have Hok := Lib.hid hok
            clear hok
            go_wp2_with fail
            exact bodyPost_ret (v := .tuple #[partVal 0 0 0 ⟨#[]⟩, .int .i64 7]) (results_ct (p := 2) (q := 3) rfl _ _ w.heap.size 28 #[.int .i64 0, .int .i64 0, .int .i64 0, .string ⟨#[]⟩] _ rfl ((((b4.set_ 0 (.int .i64 0)).set_ 1 (.int .i64 0)).set_ 2 (.int .i64 0)).set_ 3 (.string ⟨#[]⟩)) Tryd.underlying28 rfl (by kernel_rfl)) rfl ⟨tuple_pair Hok.out, (((hB3.setCell (p := ⟨w.heap.size, 0, none⟩) (Nat.le_refl _) _).setCell (p := ⟨w.heap.size, 1, none⟩) (Nat.le_refl _) _).setCell (p := ⟨w.heap.size, 2, none⟩) (Nat.le_refl _) _).setCell (p := ⟨w.heap.size, 3, none⟩) (Nat.le_refl _) _⟩
        · have hk56 : k = 56 := by omega
          subst hk56
          have hok := open_fine (s := s) (N := N) (P := P) (L := L) HnL.out (okB_good H.out.size HnL.out Heb.out hN1 hN2 (by have := HH3.out; omega) HH4.out HAll.out)
          have Hok := Lib.hid hok
          clear hok
          have hne : w.heap.size ≠ w.heap.size + 1 := by omega
          have hT : s.extract 12 (12 + n) = (s.extract 12 56).extract 0 n := ext_ext s n hn44
          have HT := Lib.hid hT
          clear hT
          go_wp2_with fail
          exact bodyPost_ret (v := .tuple #[partVal N P L ((s.extract 12 56).extract 0 n), .int .i64 0]) (results_ct (p := 2) (q := 3) rfl _ _ w.heap.size 28 #[.int .i64 N, .int .i64 P, .int .i64 L, .string ((s.extract 12 56).extract 0 n)] _ rfl (by
            rw [HT.out]
            exact (((((b4.other (a := ⟨w.heap.size + 1, 3, none⟩) hne (.string ((s.extract 12 56).extract 0 n))).set_ 0 (.int .i64 N)).set_ 1 (.int .i64 P)).set_ 2 (.int .i64 L)).set_ 3 (.string ((s.extract 12 56).extract 0 n)))) Tryd.underlying28 rfl (by kernel_rfl)) rfl ⟨tuple_pair Hok.out, ((((hB3.setCell (p := ⟨w.heap.size + 1, 3, none⟩) (Nat.le_succ _) _).setCell (p := ⟨w.heap.size, 0, none⟩) (Nat.le_refl _) _).setCell (p := ⟨w.heap.size, 1, none⟩) (Nat.le_refl _) _).setCell (p := ⟨w.heap.size, 2, none⟩) (Nat.le_refl _) _).setCell (p := ⟨w.heap.size, 3, none⟩) (Nat.le_refl _) _⟩
    · have d4' : decide (0 < (P : Int)) = false := decide_eq_false (by omega)
      go_wp2_with fail
      go_quiet (fail)
      have b3 := b1.drewN nq
      have b4 := b2.drewN nq
      have hB3 := below_drewN hB2 nq
      generalize W2.drewN nq = W3 at b3 b4 hB3 ⊢
      have z0 := b4.cell 0
      have z1 := b4.cell 1
      have z2 := b4.cell 2
      have z3 := b4.cell 3
      have zf0 := b4.frozen 0
      have zf1 := b4.frozen 1
      have zf2 := b4.frozen 2
      have zf3 := b4.frozen 3
      have c0 := b3.cell 0
      have c1 := b3.cell 1
      have c2 := b3.cell 2
      have c3 := b3.cell 3
      have cf0 := b3.frozen 0
      have cf1 := b3.frozen 1
      have cf2 := b3.frozen 2
      have cf3 := b3.frozen 3
      clear b1 b2 hB2 x0 x1 x2
      go_wp2_with fail
      go_loop [6] (fun i => ∃ k : Nat, 12 + n ≤ k ∧ k ≤ 56 ∧ i = .int .i64 k ∧ ∀ u, 12 + n ≤ u → u < k → s.data.toList[u]? = some 0) (fun i => 56 - (intOf i).toNat)
      case atStart => exact ⟨12 + n, Nat.le_refl _, by omega, by go_num, fun u h1 h2 => by omega⟩
      case round =>
        obtain ⟨k, hk1, hk2, rfl, hall⟩ := hrel
        have HAll := Lib.hid hall
        clear hall
        by_cases hlt : k < 56
        · have hks : k < s.size := by omega
          have hsk : s.data.toList[k]? = some s[k] := by rw [List.getElem?_eq_getElem (by rw [Array.length_toList]; exact hks)]; rfl
          have HSK := Lib.hid hsk
          clear hsk
          by_cases hz : s[k] = 0
          · have hz2 : ((s[k].toNat : Int) != 0) = false := by rw [hz]; rfl
            have HZ := Lib.hid hz
            clear hz
            go_wp2_with fail
            go_round
            case rel =>
              refine ⟨k + 1, by omega, by omega, by go_num, fun u h1 h2 => ?_⟩
              by_cases e : u = k
              · subst e; rw [HSK.out, HZ.out]
              · exact HAll.out u h1 (by omega)
            case measure => simp [intOf]; omega
          · have hz2 : ((s[k].toNat : Int) != 0) = true := bne_t (fun e => hz (by have h0 : s[k].toNat = 0 := (by omega); exact UInt8.toNat_inj.1 h0))
            have HZ := Lib.hid hz
            clear hz
            have hok := open_corrupt (s := s) (N := N) (P := P) (L := L) (okB_byte (n := n) H.out.size HnL.out hk1 hlt HSK.out HZ.out)
            have Hok := Lib.hid hok
            clear hok
            go_wp2_with fail
            exact bodyPost_ret (v := .tuple #[partVal 0 0 0 ⟨#[]⟩, .int .i64 7]) (results_ct (p := 2) (q := 3) rfl _ _ w.heap.size 28 #[.int .i64 0, .int .i64 0, .int .i64 0, .string ⟨#[]⟩] _ rfl ((((b4.set_ 0 (.int .i64 0)).set_ 1 (.int .i64 0)).set_ 2 (.int .i64 0)).set_ 3 (.string ⟨#[]⟩)) Tryd.underlying28 rfl (by kernel_rfl)) rfl ⟨tuple_pair Hok.out, (((hB3.setCell (p := ⟨w.heap.size, 0, none⟩) (Nat.le_refl _) _).setCell (p := ⟨w.heap.size, 1, none⟩) (Nat.le_refl _) _).setCell (p := ⟨w.heap.size, 2, none⟩) (Nat.le_refl _) _).setCell (p := ⟨w.heap.size, 3, none⟩) (Nat.le_refl _) _⟩
        · have hk56 : k = 56 := by omega
          subst hk56
          have hok := open_fine (s := s) (N := N) (P := P) (L := L) HnL.out (okB_good H.out.size HnL.out Heb.out hN1 hN2 (by have := HH3.out; omega) HH4.out HAll.out)
          have Hok := Lib.hid hok
          clear hok
          have hne : w.heap.size ≠ w.heap.size + 1 := by omega
          have hT : s.extract 12 (12 + n) = (s.extract 12 56).extract 0 n := ext_ext s n hn44
          have HT := Lib.hid hT
          clear hT
          go_wp2_with fail
          exact bodyPost_ret (v := .tuple #[partVal N P L ((s.extract 12 56).extract 0 n), .int .i64 0]) (results_ct (p := 2) (q := 3) rfl _ _ w.heap.size 28 #[.int .i64 N, .int .i64 P, .int .i64 L, .string ((s.extract 12 56).extract 0 n)] _ rfl (by
            rw [HT.out]
            exact (((((b4.other (a := ⟨w.heap.size + 1, 3, none⟩) hne (.string ((s.extract 12 56).extract 0 n))).set_ 0 (.int .i64 N)).set_ 1 (.int .i64 P)).set_ 2 (.int .i64 L)).set_ 3 (.string ((s.extract 12 56).extract 0 n)))) Tryd.underlying28 rfl (by kernel_rfl)) rfl ⟨tuple_pair Hok.out, ((((hB3.setCell (p := ⟨w.heap.size + 1, 3, none⟩) (Nat.le_succ _) _).setCell (p := ⟨w.heap.size, 0, none⟩) (Nat.le_refl _) _).setCell (p := ⟨w.heap.size, 1, none⟩) (Nat.le_refl _) _).setCell (p := ⟨w.heap.size, 2, none⟩) (Nat.le_refl _) _).setCell (p := ⟨w.heap.size, 3, none⟩) (Nat.le_refl _) _⟩
theorem ropen_any (s : ByteArray) (w : World) : Calls Tryd.prog 13 #[.string s] w fun e w' => e = .returned (.tuple #[(openE s).1, .int .i64 (openE s).2]) ∧ Below w.heap.size w w' := by
  unfold openE
  by_cases hs : s.size = 64
  · rw [if_pos hs]
    obtain ⟨N, P, L, hc⟩ := cut_of hs
    rw [openL_ok hc]
    refine (ropen_x s N P L hc w).mono ?_
    rintro e w' ⟨rfl, hB⟩
    refine ⟨?_, hB⟩
    unfold openA openB
    split <;> rfl
  · rw [if_neg hs]
    exact ropen_size s w hs
end Go.Proofs.YtcifkahmeimniabDoor
