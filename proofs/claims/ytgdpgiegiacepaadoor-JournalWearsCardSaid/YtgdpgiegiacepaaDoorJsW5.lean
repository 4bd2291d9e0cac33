/-
  The walks of layer 24 (sector): Open.
-/
import Derived.Test.YtgdpgiegiacepaaDoorG11
import Derived.Deep.QuietTactic
import Derived.BigQuiet
import Derived.Deep.RegionHeld3
import Derived.Deep.RegionWith
namespace Go.Proofs.YtgdpgiegiacepaaDoor.Sec
open Go.RowKit Go.Shelf
attribute [local go_sem] Oper.semAt_some

def partVal (a b c : Int) (t : ByteArray) : Value := .agg #[.int .i64 a, .int .i64 b, .int .i64 c, .string t]
theorem trim_nil (l : List UInt8) (h : l.all (· == 0) = true) : Lib.trimB l 0 = [] := by
  unfold Lib.trimB Lib.trimRightB Lib.trimLeftB
  have h2 : ∀ m : List UInt8, m.all (· == 0) = true → m.dropWhile (· == 0) = [] := by
    intro m
    induction m with
    | nil => intro _; rfl
    | cons a r ih => intro hm; rw [List.all_cons, Bool.and_eq_true] at hm; rw [List.dropWhile_cons, if_pos hm.1]; exact ih hm.2
  rw [h2 l.reverse (by rw [List.all_reverse]; exact h)]
  rfl
theorem trim_some (l : List UInt8) (h : l.all (· == 0) = false) : Lib.trimB l 0 ≠ [] := by
  have h2 : ∀ m : List UInt8, m.all (· == 0) = false → m.dropWhile (· == 0) ≠ [] ∧ (m.dropWhile (· == 0)).all (· == 0) = false := by
    intro m
    induction m with
    | nil => intro e; cases e
    | cons a r ih =>
      intro hm
      rw [List.dropWhile_cons]
      by_cases ha : (a == 0) = true
      · rw [if_pos ha]
        rw [List.all_cons, ha, Bool.true_and] at hm
        exact ih hm
      · rw [if_neg ha]
        exact ⟨by simp, hm⟩
  unfold Lib.trimB Lib.trimRightB Lib.trimLeftB
  have h3 := (h2 l.reverse (by rw [List.all_reverse]; exact h)).2
  exact (h2 _ (by rw [List.all_reverse]; exact h3)).1
theorem trim_zero (s : ByteArray) (w : World) (hs : s.size ≤ 1000) (h : s.data.toList.all (· == 0) = true) :
    Calls Tryd.prog 77 #[.string s, .string ⟨#[0]⟩] w fun e w' => e = .returned (.string ⟨#[]⟩) ∧ ∃ q, w' = w.drewN q := by
  refine (Tryd.strings_Trim_one s 0 (by decide) w (by omega)).mono ?_
  rintro e w' ⟨rfl, hw⟩
  refine ⟨by rw [trim_nil _ h], ?_⟩
  rcases hw with rfl | rfl
  · exact ⟨0, rfl⟩
  · exact ⟨1, rfl⟩
theorem trim_rest (s : ByteArray) (w : World) (hs : s.size ≤ 1000) (h : s.data.toList.all (· == 0) = false) :
    Calls Tryd.prog 77 #[.string s, .string ⟨#[0]⟩] w fun e w' => ∃ y : ByteArray, e = .returned (.string y) ∧ y.toList.isEmpty = false ∧ ∃ q, w' = w.drewN q := by
  refine (Tryd.strings_Trim_one s 0 (by decide) w (by omega)).mono ?_
  rintro e w' ⟨rfl, hw⟩
  refine ⟨_, rfl, ?_, ?_⟩
  · have := trim_some _ h
    cases hl : Lib.trimB s.data.toList 0 with
    | nil => exact absurd hl this
    | cons a r => simp
  rcases hw with rfl | rfl
  · exact ⟨0, rfl⟩
  · exact ⟨1, rfl⟩
theorem clone_any (s : ByteArray) (w : World) (hs : s.size ≤ 1000) : Calls Tryd.prog 78 #[.string s] w fun e w' => e = .returned (.string s) ∧ Below w.heap.size w w' := by
  go_enter Tryd.func78, Tryd.ntmps78
  go_wp2_with (go_at_call 86; refine (Tryd.stringslite_Clone s _ (by omega)).mono ?_; rintro e w' ⟨rfl, hB⟩)
  go_ret
  exact ⟨rfl, hB⟩

set_option maxRecDepth 100000 in
set_option maxHeartbeats 4000000 in
theorem open_size (s : ByteArray) (w : World) (hs : s.size ≠ 64) :
    Calls Tryd.prog 70 #[.string s] w fun e w' => e = .returned (.tuple #[partVal 0 0 0 ⟨#[]⟩, .int .i64 1]) ∧ Below w.heap.size w w' := by
  have h1 : ((s.size : Int) != 64) = true := bne_t (by omega)
  clear hs
  go_enter Tryd.func70, Tryd.ntmps70
  go_wp2_with fail
  exact bodyPost_ret (v := .tuple #[partVal 0 0 0 ⟨#[]⟩, .int .i64 1]) (results_ct (p := 2) (q := 3) rfl _ _ w.heap.size 126 #[.int .i64 0, .int .i64 0, .int .i64 0, .string ⟨#[]⟩] _ rfl (Blk.new _ _ _) Tryd.underlying126 rfl (by kernel_rfl)) rfl ⟨rfl, (Below.refl _ _).alloc (Nat.le_refl _) _⟩
/-- Several ways that end alike: what they end in is shown once. -/
theorem meet_up {G R : Prop} (h : G → R) (g : G) : R := h g
/-- What the walk of Open knows of its text. -/
structure Cut (s : ByteArray) (N P L : Nat) : Prop where
  size : s.size = 64
  num : getL (s.extract 0 8).data.toList = N
  part : getL (s.extract 8 10).data.toList = P
  left : getL (s.extract 10 12).data.toList = L
theorem Cut.lt2 {s : ByteArray} {N P L : Nat} (h : Cut s N P L) : P < 65536 := by
  have := get_lt (s.extract 8 10).data.toList
  rw [h.part] at this
  have h2 : (s.extract 8 10).data.toList.length = 2 := by rw [Array.length_toList]; show (s.extract 8 10).size = 2; rw [ByteArray.size_extract, h.size]; rfl
  rw [h2] at this
  omega
theorem Cut.lt3 {s : ByteArray} {N P L : Nat} (h : Cut s N P L) : L < 65536 := by
  have := get_lt (s.extract 10 12).data.toList
  rw [h.left] at this
  have h2 : (s.extract 10 12).data.toList.length = 2 := by rw [Array.length_toList]; show (s.extract 10 12).size = 2; rw [ByteArray.size_extract, h.size]; rfl
  rw [h2] at this
  omega
/-- Is a sector well-formed? -/
def okB (s : ByteArray) (N P L : Nat) : Bool :=
  ((s.extract 0 8).toList == (s.extract 56 64).toList) && (decide (1 ≤ N) && (decide (N ≤ mostN) && (decide (P * 44 + L ≤ 8000) && ((decide (P = 0) || decide (0 < L)) && ((s.extract 12 56).extract (min L 44) 44).data.toList.all (· == 0)))))
def openA (s : ByteArray) (N P L : Nat) : Value := if okB s N P L = true then partVal N P L ((s.extract 12 56).extract 0 (min L 44)) else partVal 0 0 0 ⟨#[]⟩
def openB (s : ByteArray) (N P L : Nat) : Int := if okB s N P L = true then 0 else 7
theorem open_corrupt {s : ByteArray} {N P L : Nat} (h : okB s N P L = false) : openA s N P L = partVal 0 0 0 ⟨#[]⟩ ∧ openB s N P L = 7 := by
  unfold openA openB
  rw [h]
  exact ⟨rfl, rfl⟩
theorem open_fine {s : ByteArray} {N P L n : Nat} (hn : n = min L 44) (h : okB s N P L = true) : openA s N P L = partVal N P L ((s.extract 12 56).extract 0 n) ∧ openB s N P L = 0 := by
  unfold openA openB
  rw [h, hn]
  exact ⟨rfl, rfl⟩
theorem tuple_pair {a b : Value} {x y : Int} (h : a = b ∧ x = y) : Ending.returned (.tuple #[b, .int .i64 y]) = .returned (.tuple #[a, .int .i64 x]) := by rw [h.1, h.2]
set_option maxRecDepth 100000 in
set_option maxHeartbeats 4000000 in
theorem open_x (s : ByteArray) (N P L : Nat) (h : Cut s N P L) (w : World) :
    Calls Tryd.prog 70 #[.string s] w fun e w' => e = .returned (.tuple #[openA s N P L, .int .i64 (openB s N P L)]) ∧ Below w.heap.size w w' := by
  have h64 := h.size
  have HG1 : ∀ w, Hid (Calls Tryd.prog 76 #[.string (s.extract 0 8)] w fun e w' => e = .returned (.int .u64 N) ∧ w = w') := fun w => by
    have := get_any w (s.extract 0 8) (by rw [ByteArray.size_extract]; omega)
    rw [h.num] at this
    exact this
  have HG2 : ∀ w, Hid (Calls Tryd.prog 76 #[.string (s.extract 8 10)] w fun e w' => e = .returned (.int .u64 P) ∧ w = w') := fun w => by
    have := get_any w (s.extract 8 10) (by rw [ByteArray.size_extract]; omega)
    rw [h.part] at this
    exact this
  have HG3 : ∀ w, Hid (Calls Tryd.prog 76 #[.string (s.extract 10 12)] w fun e w' => e = .returned (.int .u64 L) ∧ w = w') := fun w => by
    have := get_any w (s.extract 10 12) (by rw [ByteArray.size_extract]; omega)
    rw [h.left] at this
    exact this
  have H := Lib.hid h
  clear h
  go_enter Tryd.func70, Tryd.ntmps70
  go_wp2_with fail
  go_quiet ((go_at_call 76; exact Calls.quiet_of_same (((HG1 _).out).mono fun e w' h => ⟨h.1, h.2.symm⟩)))
  have hwP : IntKind.i64.wrap (P : Int) = P := by have := H.out.lt2; simp [IntKind.wrap, IntKind.bits, IntKind.signed]; omega
  have hwL : IntKind.i64.wrap (L : Int) = L := by have := H.out.lt3; simp [IntKind.wrap, IntKind.bits, IntKind.signed]; omega
  have b0 := (Blk.new w 126 #[.int .i64 0, .int .i64 0, .int .i64 0, .string ⟨#[]⟩]).drewN nq
  have hBW : Below w.heap.size w ((w.alloc (.cells #[.int .i64 0, .int .i64 0, .int .i64 0, .string ⟨#[]⟩] 126)).drewN nq) := below_drewN ((Below.refl _ _).alloc (Nat.le_refl _) _) nq
  have hsz : ((w.alloc (.cells #[.int .i64 0, .int .i64 0, .int .i64 0, .string ⟨#[]⟩] 126)).drewN nq).heap.size = w.heap.size + 1 := by simp [World.drewN]
  generalize (w.alloc (.cells #[.int .i64 0, .int .i64 0, .int .i64 0, .string ⟨#[]⟩] 126)).drewN nq = W at b0 hBW hsz ⊢
  have Hsz := Lib.hid hsz
  clear hsz
  go_wp2_with fail
  refine' meet_up (fun hgo => ?body) ?rest
  case body =>
    go_region_held3 (fun _ => True) (trivial) (first
      | (go_at_call_of 76 (ByteArray.extract s 8 10); refine (HG2 _).out.mono ?_; rintro e w1 ⟨rfl, rfl⟩)
      | (go_at_call_of 76 (ByteArray.extract s 10 12); refine (HG3 _).out.mono ?_; rintro e w1 ⟨rfl, rfl⟩))
    all_goals exact hgo
  have b1 := (Blk.new W 126 #[.int .i64 0, .int .i64 P, .int .i64 L, .string ⟨#[]⟩]).drew
  have b2 := (b0.alloc (.cells #[.int .i64 0, .int .i64 P, .int .i64 L, .string ⟨#[]⟩] 126)).drew
  have hB2 : Below w.heap.size w ((W.alloc (.cells #[.int .i64 0, .int .i64 P, .int .i64 L, .string ⟨#[]⟩] 126)).drew) := (hBW.alloc hBW.size _).drew
  rw [Hsz.out] at b1 ⊢
  generalize (W.alloc (.cells #[.int .i64 0, .int .i64 P, .int .i64 L, .string ⟨#[]⟩] 126)).drew = W2 at b1 b2 hB2 ⊢
  clear b0 hBW Hsz HG1 HG2 HG3 hwP hwL
  obtain ⟨n, hn⟩ : ∃ n : Nat, min (L : Int) 44 = n := ⟨min L 44, by omega⟩
  have hnL : n = min L 44 := by omega
  have hn44 : n ≤ 44 := by omega
  have HnL := Lib.hid hnL
  clear hnL
  obtain ⟨eb, heb⟩ : ∃ eb, ((s.extract 0 8).toList == (s.extract 56 64).toList) = eb := ⟨_, rfl⟩
  have Heb := Lib.hid heb
  have c2 := b1.cell 2
  go_wp2_with fail
  go_quiet (fail)
  have b3 := b1.drewN nq
  have b4 := b2.drewN nq
  have hB3 := below_drewN hB2 nq
  generalize W2.drewN nq = W3 at b3 b4 hB3 ⊢
  clear b1 b2 hB2 c2
  have c1 := b3.cell 1
  have c2 := b3.cell 2
  have z0 := b4.cell 0
  have z1 := b4.cell 1
  have z2 := b4.cell 2
  have z3 := b4.cell 3
  have zf0 := b4.frozen 0
  have zf1 := b4.frozen 1
  have zf2 := b4.frozen 2
  have zf3 := b4.frozen 3
  have hP16 := H.out.lt2
  have hL16 := H.out.lt3
  have hTs : (s.extract 12 56).size = 44 := by rw [ByteArray.size_extract, h64]; rfl
  cases eb with
  | false =>
    have hok := open_corrupt (s := s) (N := N) (P := P) (L := L) (by unfold okB; rw [Heb.out]; rfl)
    have Hok := Lib.hid hok
    clear hok
    go_wp2_with fail
    exact bodyPost_ret (v := .tuple #[partVal 0 0 0 ⟨#[]⟩, .int .i64 7]) (results_ct (p := 2) (q := 3) rfl _ _ w.heap.size 126 #[.int .i64 0, .int .i64 0, .int .i64 0, .string ⟨#[]⟩] _ rfl ((((b4.set_ 0 (.int .i64 0)).set_ 1 (.int .i64 0)).set_ 2 (.int .i64 0)).set_ 3 (.string ⟨#[]⟩)) Tryd.underlying126 rfl (by kernel_rfl)) rfl ⟨tuple_pair Hok.out, (((hB3.setCell (p := ⟨w.heap.size, 0, none⟩) (Nat.le_refl _) _).setCell (p := ⟨w.heap.size, 1, none⟩) (Nat.le_refl _) _).setCell (p := ⟨w.heap.size, 2, none⟩) (Nat.le_refl _) _).setCell (p := ⟨w.heap.size, 3, none⟩) (Nat.le_refl _) _⟩
  | true =>
    by_cases h1 : N < 1
    · have d1 : decide ((N : Int) < 1) = true := decide_eq_true (by omega)
      have hok := open_corrupt (s := s) (N := N) (P := P) (L := L) (by unfold okB; rw [decide_eq_false (show ¬ 1 ≤ N by omega)]; simp)
      have Hok := Lib.hid hok
      clear hok
      go_wp2_with fail
      exact bodyPost_ret (v := .tuple #[partVal 0 0 0 ⟨#[]⟩, .int .i64 7]) (results_ct (p := 2) (q := 3) rfl _ _ w.heap.size 126 #[.int .i64 0, .int .i64 0, .int .i64 0, .string ⟨#[]⟩] _ rfl ((((b4.set_ 0 (.int .i64 0)).set_ 1 (.int .i64 0)).set_ 2 (.int .i64 0)).set_ 3 (.string ⟨#[]⟩)) Tryd.underlying126 rfl (by kernel_rfl)) rfl ⟨tuple_pair Hok.out, (((hB3.setCell (p := ⟨w.heap.size, 0, none⟩) (Nat.le_refl _) _).setCell (p := ⟨w.heap.size, 1, none⟩) (Nat.le_refl _) _).setCell (p := ⟨w.heap.size, 2, none⟩) (Nat.le_refl _) _).setCell (p := ⟨w.heap.size, 3, none⟩) (Nat.le_refl _) _⟩
    have d1 : decide ((N : Int) < 1) = false := decide_eq_false (by omega)
    by_cases h2 : mostN < N
    · have d2 : decide (4611686018427387904 < (N : Int)) = true := decide_eq_true (by unfold mostN at h2; omega)
      have hok := open_corrupt (s := s) (N := N) (P := P) (L := L) (by unfold okB; rw [decide_eq_false (show ¬ N ≤ mostN by omega)]; simp)
      have Hok := Lib.hid hok
      clear hok
      go_wp2_with fail
      exact bodyPost_ret (v := .tuple #[partVal 0 0 0 ⟨#[]⟩, .int .i64 7]) (results_ct (p := 2) (q := 3) rfl _ _ w.heap.size 126 #[.int .i64 0, .int .i64 0, .int .i64 0, .string ⟨#[]⟩] _ rfl ((((b4.set_ 0 (.int .i64 0)).set_ 1 (.int .i64 0)).set_ 2 (.int .i64 0)).set_ 3 (.string ⟨#[]⟩)) Tryd.underlying126 rfl (by kernel_rfl)) rfl ⟨tuple_pair Hok.out, (((hB3.setCell (p := ⟨w.heap.size, 0, none⟩) (Nat.le_refl _) _).setCell (p := ⟨w.heap.size, 1, none⟩) (Nat.le_refl _) _).setCell (p := ⟨w.heap.size, 2, none⟩) (Nat.le_refl _) _).setCell (p := ⟨w.heap.size, 3, none⟩) (Nat.le_refl _) _⟩
    have d2 : decide (4611686018427387904 < (N : Int)) = false := decide_eq_false (by unfold mostN at h2; omega)
    by_cases h3 : 8000 < P * 44 + L
    · have d3 : decide (8000 < (P : Int) * 44 + L) = true := decide_eq_true (by omega)
      have hok := open_corrupt (s := s) (N := N) (P := P) (L := L) (by unfold okB; rw [decide_eq_false (show ¬ P * 44 + L ≤ 8000 by omega)]; simp)
      have Hok := Lib.hid hok
      clear hok
      go_wp2_with fail
      exact bodyPost_ret (v := .tuple #[partVal 0 0 0 ⟨#[]⟩, .int .i64 7]) (results_ct (p := 2) (q := 3) rfl _ _ w.heap.size 126 #[.int .i64 0, .int .i64 0, .int .i64 0, .string ⟨#[]⟩] _ rfl ((((b4.set_ 0 (.int .i64 0)).set_ 1 (.int .i64 0)).set_ 2 (.int .i64 0)).set_ 3 (.string ⟨#[]⟩)) Tryd.underlying126 rfl (by kernel_rfl)) rfl ⟨tuple_pair Hok.out, (((hB3.setCell (p := ⟨w.heap.size, 0, none⟩) (Nat.le_refl _) _).setCell (p := ⟨w.heap.size, 1, none⟩) (Nat.le_refl _) _).setCell (p := ⟨w.heap.size, 2, none⟩) (Nat.le_refl _) _).setCell (p := ⟨w.heap.size, 3, none⟩) (Nat.le_refl _) _⟩
    have d3 : decide (8000 < (P : Int) * 44 + L) = false := decide_eq_false (by omega)
    by_cases h4 : 0 < P ∧ L = 0
    · have d4 : 0 < P := h4.1
      have d5 : ((L : Int) == 0) = true := beq_t (by omega)
      have HH4 := Lib.hid h4
      clear h4
      have hok := open_corrupt (s := s) (N := N) (P := P) (L := L) (by unfold okB; rw [decide_eq_false (show ¬ P = 0 by have := HH4.out; omega), decide_eq_false (show ¬ 0 < L by have := HH4.out; omega)]; simp)
      have Hok := Lib.hid hok
      clear hok
      go_wp2_with fail
      exact bodyPost_ret (v := .tuple #[partVal 0 0 0 ⟨#[]⟩, .int .i64 7]) (results_ct (p := 2) (q := 3) rfl _ _ w.heap.size 126 #[.int .i64 0, .int .i64 0, .int .i64 0, .string ⟨#[]⟩] _ rfl ((((b4.set_ 0 (.int .i64 0)).set_ 1 (.int .i64 0)).set_ 2 (.int .i64 0)).set_ 3 (.string ⟨#[]⟩)) Tryd.underlying126 rfl (by kernel_rfl)) rfl ⟨tuple_pair Hok.out, (((hB3.setCell (p := ⟨w.heap.size, 0, none⟩) (Nat.le_refl _) _).setCell (p := ⟨w.heap.size, 1, none⟩) (Nat.le_refl _) _).setCell (p := ⟨w.heap.size, 2, none⟩) (Nat.le_refl _) _).setCell (p := ⟨w.heap.size, 3, none⟩) (Nat.le_refl _) _⟩
    have HH4 := Lib.hid h4
    have hTn : ((s.extract 12 56).extract n 44).size ≤ 1000 := by rw [ByteArray.size_extract]; omega
    have hTc : ((s.extract 12 56).extract 0 n).size ≤ 1000 := by rw [ByteArray.size_extract]; omega
    cases hz : ((s.extract 12 56).extract n 44).data.toList.all (· == 0) with
    | false =>
      have HT := fun w => Lib.hid (trim_rest _ w hTn hz)
      have Hz := Lib.hid hz
      clear hz hTn hTc
      by_cases h5 : 0 < P
      · have d5 : ((L : Int) == 0) = false := beq_f (by omega)
        have hok := open_corrupt (s := s) (N := N) (P := P) (L := L) (by unfold okB; rw [← HnL.out, Hz.out]; simp)
        have Hok := Lib.hid hok
        clear hok
        go_wp2_with (go_at_call 77; refine (HT _).out.mono ?_; rintro e w4 ⟨y, rfl, hy, q, rfl⟩)
        exact bodyPost_ret (v := .tuple #[partVal 0 0 0 ⟨#[]⟩, .int .i64 7]) (results_ct (p := 2) (q := 3) rfl _ _ w.heap.size 126 #[.int .i64 0, .int .i64 0, .int .i64 0, .string ⟨#[]⟩] _ rfl (((((b4.drewN q).set_ 0 (.int .i64 0)).set_ 1 (.int .i64 0)).set_ 2 (.int .i64 0)).set_ 3 (.string ⟨#[]⟩)) Tryd.underlying126 rfl (by kernel_rfl)) rfl ⟨tuple_pair Hok.out, ((((below_drewN hB3 q).setCell (p := ⟨w.heap.size, 0, none⟩) (Nat.le_refl _) _).setCell (p := ⟨w.heap.size, 1, none⟩) (Nat.le_refl _) _).setCell (p := ⟨w.heap.size, 2, none⟩) (Nat.le_refl _) _).setCell (p := ⟨w.heap.size, 3, none⟩) (Nat.le_refl _) _⟩
      · have d5 := h5
        have hok := open_corrupt (s := s) (N := N) (P := P) (L := L) (by unfold okB; rw [← HnL.out, Hz.out]; simp)
        have Hok := Lib.hid hok
        clear hok
        go_wp2_with (go_at_call 77; refine (HT _).out.mono ?_; rintro e w4 ⟨y, rfl, hy, q, rfl⟩)
        exact bodyPost_ret (v := .tuple #[partVal 0 0 0 ⟨#[]⟩, .int .i64 7]) (results_ct (p := 2) (q := 3) rfl _ _ w.heap.size 126 #[.int .i64 0, .int .i64 0, .int .i64 0, .string ⟨#[]⟩] _ rfl (((((b4.drewN q).set_ 0 (.int .i64 0)).set_ 1 (.int .i64 0)).set_ 2 (.int .i64 0)).set_ 3 (.string ⟨#[]⟩)) Tryd.underlying126 rfl (by kernel_rfl)) rfl ⟨tuple_pair Hok.out, ((((below_drewN hB3 q).setCell (p := ⟨w.heap.size, 0, none⟩) (Nat.le_refl _) _).setCell (p := ⟨w.heap.size, 1, none⟩) (Nat.le_refl _) _).setCell (p := ⟨w.heap.size, 2, none⟩) (Nat.le_refl _) _).setCell (p := ⟨w.heap.size, 3, none⟩) (Nat.le_refl _) _⟩
    | true =>
      have HT := fun w => Lib.hid (trim_zero _ w hTn hz)
      have Hz := Lib.hid hz
      clear hz hTn
      by_cases h5 : 0 < P
      · have d5 : ((L : Int) == 0) = false := beq_f (by omega)
        have hne : w.heap.size ≠ w.heap.size + 1 := by omega
        have hok := open_fine (s := s) (N := N) (P := P) (L := L) HnL.out (by
          unfold okB
          rw [← HnL.out, Hz.out, Heb.out, decide_eq_true (show 1 ≤ N by omega), decide_eq_true (show N ≤ mostN by omega), decide_eq_true (show P * 44 + L ≤ 8000 by omega)]
          have := HH4.out
          rcases Nat.eq_zero_or_pos P with h0 | h0
          · rw [decide_eq_true h0]; rfl
          · rw [decide_eq_true (show 0 < L by omega)]; simp)
        have Hok := Lib.hid hok
        clear hok
        have hwN : IntKind.i64.wrap (N : Int) = N := by unfold mostN at h2; simp [IntKind.wrap, IntKind.bits, IntKind.signed]; omega
        go_wp2_with (first | (go_at_call 77; refine (HT _).out.mono ?_; rintro e w4 ⟨rfl, q, rfl⟩) | (go_at_call 78; refine (clone_any _ _ (by omega)).mono ?_; rintro e w5 ⟨rfl, hB5⟩; have b5 := (b3.drewN q).below hB5 (b3.drewN q).lt; have b6 := (b4.drewN q).below hB5 (b4.drewN q).lt; have hB6 := (below_drewN hB3 q).trans (hB5.mono (below_drewN hB3 q).size); have y0 := b5.cell 0; have y1 := b5.cell 1; have y2 := b5.cell 2; have y3 := b5.cell 3; have yf0 := b5.frozen 0; have yf1 := b5.frozen 1; have yf2 := b5.frozen 2; have yf3 := b5.frozen 3; have x0 := b6.cell 0; have x1 := b6.cell 1; have x2 := b6.cell 2; have x3 := b6.cell 3; have xf0 := b6.frozen 0; have xf1 := b6.frozen 1; have xf2 := b6.frozen 2; have xf3 := b6.frozen 3))
        exact bodyPost_ret (v := .tuple #[partVal N P L ((s.extract 12 56).extract 0 n), .int .i64 0]) (results_ct (p := 2) (q := 3) rfl _ _ w.heap.size 126 #[.int .i64 N, .int .i64 P, .int .i64 L, .string ((s.extract 12 56).extract 0 n)] _ rfl ((((((b6.other (a := ⟨w.heap.size + 1, 0, none⟩) hne (.int .i64 N)).other (a := ⟨w.heap.size + 1, 3, none⟩) hne (.string ((s.extract 12 56).extract 0 n))).set_ 0 (.int .i64 N)).set_ 1 (.int .i64 P)).set_ 2 (.int .i64 L)).set_ 3 (.string ((s.extract 12 56).extract 0 n))) Tryd.underlying126 rfl (by kernel_rfl)) rfl ⟨tuple_pair Hok.out, (((((hB6.setCell (p := ⟨w.heap.size + 1, 0, none⟩) (Nat.le_succ _) _).setCell (p := ⟨w.heap.size + 1, 3, none⟩) (Nat.le_succ _) _).setCell (p := ⟨w.heap.size, 0, none⟩) (Nat.le_refl _) _).setCell (p := ⟨w.heap.size, 1, none⟩) (Nat.le_refl _) _).setCell (p := ⟨w.heap.size, 2, none⟩) (Nat.le_refl _) _).setCell (p := ⟨w.heap.size, 3, none⟩) (Nat.le_refl _) _⟩
      · have d5 := h5
        have hne : w.heap.size ≠ w.heap.size + 1 := by omega
        have hok := open_fine (s := s) (N := N) (P := P) (L := L) HnL.out (by
          unfold okB
          rw [← HnL.out, Hz.out, Heb.out, decide_eq_true (show 1 ≤ N by omega), decide_eq_true (show N ≤ mostN by omega), decide_eq_true (show P * 44 + L ≤ 8000 by omega)]
          have := HH4.out
          rcases Nat.eq_zero_or_pos P with h0 | h0
          · rw [decide_eq_true h0]; rfl
          · rw [decide_eq_true (show 0 < L by omega)]; simp)
        have Hok := Lib.hid hok
        clear hok
        have hwN : IntKind.i64.wrap (N : Int) = N := by unfold mostN at h2; simp [IntKind.wrap, IntKind.bits, IntKind.signed]; omega
        go_wp2_with (first | (go_at_call 77; refine (HT _).out.mono ?_; rintro e w4 ⟨rfl, q, rfl⟩) | (go_at_call 78; refine (clone_any _ _ (by omega)).mono ?_; rintro e w5 ⟨rfl, hB5⟩; have b5 := (b3.drewN q).below hB5 (b3.drewN q).lt; have b6 := (b4.drewN q).below hB5 (b4.drewN q).lt; have hB6 := (below_drewN hB3 q).trans (hB5.mono (below_drewN hB3 q).size); have y0 := b5.cell 0; have y1 := b5.cell 1; have y2 := b5.cell 2; have y3 := b5.cell 3; have yf0 := b5.frozen 0; have yf1 := b5.frozen 1; have yf2 := b5.frozen 2; have yf3 := b5.frozen 3; have x0 := b6.cell 0; have x1 := b6.cell 1; have x2 := b6.cell 2; have x3 := b6.cell 3; have xf0 := b6.frozen 0; have xf1 := b6.frozen 1; have xf2 := b6.frozen 2; have xf3 := b6.frozen 3))
        exact bodyPost_ret (v := .tuple #[partVal N P L ((s.extract 12 56).extract 0 n), .int .i64 0]) (results_ct (p := 2) (q := 3) rfl _ _ w.heap.size 126 #[.int .i64 N, .int .i64 P, .int .i64 L, .string ((s.extract 12 56).extract 0 n)] _ rfl ((((((b6.other (a := ⟨w.heap.size + 1, 0, none⟩) hne (.int .i64 N)).other (a := ⟨w.heap.size + 1, 3, none⟩) hne (.string ((s.extract 12 56).extract 0 n))).set_ 0 (.int .i64 N)).set_ 1 (.int .i64 P)).set_ 2 (.int .i64 L)).set_ 3 (.string ((s.extract 12 56).extract 0 n))) Tryd.underlying126 rfl (by kernel_rfl)) rfl ⟨tuple_pair Hok.out, (((((hB6.setCell (p := ⟨w.heap.size + 1, 0, none⟩) (Nat.le_succ _) _).setCell (p := ⟨w.heap.size + 1, 3, none⟩) (Nat.le_succ _) _).setCell (p := ⟨w.heap.size, 0, none⟩) (Nat.le_refl _) _).setCell (p := ⟨w.heap.size, 1, none⟩) (Nat.le_refl _) _).setCell (p := ⟨w.heap.size, 2, none⟩) (Nat.le_refl _) _).setCell (p := ⟨w.heap.size, 3, none⟩) (Nat.le_refl _) _⟩
end Go.Proofs.YtgdpgiegiacepaaDoor.Sec
