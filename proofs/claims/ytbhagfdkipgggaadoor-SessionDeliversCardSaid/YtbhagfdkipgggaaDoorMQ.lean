/-
  Layer 29 (session), the specification: bounds, bits of the window, fresh numbers.
  Layer 29 (session), the specification: a number is marked.
  Layer 29 (session), the specification: whether a session is valid.
-/
import Derived.Test.YtbhagfdkipgggaaDoorMK
import Derived.Test.YtbhagfdkipgggaaDoorMB
namespace Go.Proofs.YtbhagfdkipgggaaDoor
open Go.RowKit Go.Shelf
attribute [local go_sem] Oper.semAt_some
theorem rwithin_any (w : World) (n a b : Int) : Calls Tryd.prog 44 #[.int .i64 n, .int .i64 a, .int .i64 b] w fun e w' => e = .returned (.bool (decide (a ≤ n ∧ n ≤ b))) ∧ w = w' := by
  by_cases h1 : a ≤ n
  · have d1 : decide (a ≤ n) = true := decide_eq_true h1
    by_cases h2 : n ≤ b
    · have d2 : decide (n ≤ b) = true := decide_eq_true h2
      have d3 : decide (a ≤ n ∧ n ≤ b) = true := decide_eq_true ⟨h1, h2⟩
      rw [d3]
      go_enter Tryd.func44, Tryd.ntmps44
      go_wp2_with fail
      go_ret
      exact ⟨rfl, rfl⟩
    · have d2 : decide (n ≤ b) = false := decide_eq_false h2
      have d3 : decide (a ≤ n ∧ n ≤ b) = false := decide_eq_false (fun h => h2 h.2)
      rw [d3]
      go_enter Tryd.func44, Tryd.ntmps44
      go_wp2_with fail
      go_ret
      exact ⟨rfl, rfl⟩
  · have d1 : decide (a ≤ n) = false := decide_eq_false h1
    have d3 : decide (a ≤ n ∧ n ≤ b) = false := decide_eq_false (fun h => h1 h.1)
    rw [d3]
    go_enter Tryd.func44, Tryd.ntmps44
    go_wp2_with fail
    go_ret
    exact ⟨rfl, rfl⟩
theorem seenBit_eq (seen d : Nat) : (((seen / 2 ^ d % 2 : Nat) : Int) == 1) = seenBit seen d := mod2_one _
theorem rbit_any (w : World) (seen d : Nat) (hs : seen < 18446744073709551616) (hd : d < 64) :
    Calls Tryd.prog 53 #[.int .u64 (seen : Int), .int .i64 (d : Int)] w fun e w' => e = .returned (.bool (seenBit seen d)) ∧ w = w' := by
  have d1 : decide ((0 : Int) ≤ (d : Int)) = true := decide_eq_true (by omega)
  have d2 : decide ((d : Int) < 64) = true := decide_eq_true (by omega)
  have hq : seen / 2 ^ d < 18446744073709551616 := Nat.lt_of_le_of_lt (Nat.div_le_self _ _) hs
  have a1 := and_one (seen / 2 ^ d) hq
  have a2 : (seen : Int) / 2 ^ d = ((seen / 2 ^ d : Nat) : Int) := int_div seen d
  rw [← seenBit_eq]
  obtain ⟨q, hq2⟩ : ∃ q, seen / 2 ^ d = q := ⟨_, rfl⟩
  rw [hq2] at a1 a2 ⊢
  clear hq hq2
  go_enter Tryd.func53, Tryd.ntmps53
  go_wp2_with fail
  go_ret
  exact ⟨rfl, rfl⟩
theorem rfresh_any (w : World) (s : Ses) (n : Int) (hs : s.Fits) (hn : -9223372036854775808 ≤ n ∧ n < 9223372036854775808) :
    Calls Tryd.prog 26 #[sesV s, .int .i64 n] w fun e w' => e = .returned (.bool (freshP s n)) ∧ Below w.heap.size w w' := by
  obtain ⟨_, _, _, _, htop, hseen, _⟩ := hs
  obtain ⟨id, role, side, key, sent, top, seen⟩ := s
  dsimp only at htop hseen
  unfold sesV sesC freshP
  dsimp only
  have HW : Hid (∀ (wx : World), Calls Tryd.prog 44 #[.int .i64 n, .int .i64 1, .int .i64 4294967296] wx fun e w' => e = .returned (.bool (decide (1 ≤ n ∧ n ≤ 4294967296))) ∧ wx = w') := fun wx => rwithin_any wx n 1 4294967296
  by_cases h1 : 1 ≤ n ∧ n ≤ 4294967296
  · have d1 := decide_eq_true h1
    rw [d1] at HW ⊢
    rw [Bool.true_and]
    clear d1
    by_cases h3 : top < n
    · have d3 : decide (top < n) = true := decide_eq_true h3
      rw [d3, Bool.true_or]
      go_enter Tryd.func26, Tryd.ntmps26
      go_wp2_with (first | (go_at_call 44; refine (HW.out _).mono ?_; rintro e w1 ⟨rfl, rfl⟩) | fail)
      go_ret
      exact ⟨rfl, (Below.refl _ w).alloc (Nat.le_refl _) _⟩
    · have d3 : decide (top < n) = false := decide_eq_false h3
      rw [d3, Bool.false_or]
      obtain ⟨d, hd⟩ : ∃ d : Nat, top - n = (d : Int) := ⟨(top - n).toNat, by omega⟩
      have w0 : IntKind.u64.wrap top = top := by rw [IntKind.wrap_u64]; omega
      have w2 : IntKind.u64.wrap n = n := by rw [IntKind.wrap_u64]; omega
      have w1 : IntKind.u64.wrap (top - n) = (d : Int) := by rw [hd, IntKind.wrap_u64]; omega
      have w3 : IntKind.i64.wrap (d : Int) = (d : Int) := i64_is d (by omega)
      rw [hd, Int.toNat_natCast]
      by_cases h4 : d < 64
      · have d4 : decide ((d : Int) < 64) = true := decide_eq_true (by omega)
        rw [d4, Bool.true_and]
        have HBI : Hid (∀ (wx : World), Calls Tryd.prog 53 #[.int .u64 (seen : Int), .int .i64 (d : Int)] wx fun e w' => e = .returned (.bool (seenBit seen d)) ∧ wx = w') := fun wx => rbit_any wx seen d hseen h4
        go_enter Tryd.func26, Tryd.ntmps26
        go_wp2_with (first | (go_at_call 53; refine (HBI.out _).mono ?_; rintro e w1 ⟨rfl, rfl⟩) | (go_at_call 44; refine (HW.out _).mono ?_; rintro e w1 ⟨rfl, rfl⟩) | fail)
        go_ret
        exact ⟨rfl, (Below.refl _ w).alloc (Nat.le_refl _) _⟩
      · have d4 : decide ((d : Int) < 64) = false := decide_eq_false (by omega)
        rw [d4, Bool.false_and]
        go_enter Tryd.func26, Tryd.ntmps26
        go_wp2_with (first | (go_at_call 44; refine (HW.out _).mono ?_; rintro e w1 ⟨rfl, rfl⟩) | fail)
        go_ret
        exact ⟨rfl, (Below.refl _ w).alloc (Nat.le_refl _) _⟩
  · have d1 := decide_eq_false h1
    rw [d1] at HW ⊢
    rw [Bool.false_and]
    clear d1
    go_enter Tryd.func26, Tryd.ntmps26
    go_wp2_with (first | (go_at_call 44; refine (HW.out _).mono ?_; rintro e w1 ⟨rfl, rfl⟩) | fail)
    go_ret
    exact ⟨rfl, (Below.refl _ w).alloc (Nat.le_refl _) _⟩
end Go.Proofs.YtbhagfdkipgggaaDoor
namespace Go.Proofs.YtbhagfdkipgggaaDoor
open Go.RowKit Go.Shelf
attribute [local go_sem] Oper.semAt_some
theorem blk7_56 {w : World} {g : Nat} {t : TypeId} {x0 x1 x2 x3 x4 x5 x6 : Value} (h : Blk w g t #[x0, x1, x2, x3, x4, x5, x6]) (a b : Value) : Blk ((w.setCell ⟨g, 5, none⟩ a).setCell ⟨g, 6, none⟩ b) g t #[x0, x1, x2, x3, x4, a, b] := by
  have h1 := (h.set_ 5 a).set_ 6 b
  simpa only [List.setIfInBounds_toArray, List.set_cons_zero, List.set_cons_succ] using h1
theorem blk7_566 {w : World} {g : Nat} {t : TypeId} {x0 x1 x2 x3 x4 x5 x6 : Value} (h : Blk w g t #[x0, x1, x2, x3, x4, x5, x6]) (a b c : Value) : Blk (((w.setCell ⟨g, 5, none⟩ a).setCell ⟨g, 6, none⟩ b).setCell ⟨g, 6, none⟩ c) g t #[x0, x1, x2, x3, x4, a, c] := by
  have h1 := ((h.set_ 5 a).set_ 6 b).set_ 6 c
  simpa only [List.setIfInBounds_toArray, List.set_cons_zero, List.set_cons_succ] using h1
set_option maxHeartbeats 1600000 in
theorem rmark_any (w : World) (s : Ses) (n : Int) (hs : s.Fits) (hn : -9223372036854775808 ≤ n ∧ n < 9223372036854775808) :
    Calls Tryd.prog 24 #[sesV s, .int .i64 n] w fun e w' => e = .returned (sesV (markP s n)) ∧ Below w.heap.size w w' := by
  have HF : Hid (∀ wx, Calls Tryd.prog 26 #[sesV s, .int .i64 n] wx fun e w' => e = .returned (.bool (freshP s n)) ∧ Below wx.heap.size wx w') := fun wx => rfresh_any wx s n hs hn
  clear hn
  obtain ⟨_, _, _, _, htop, hseen, _⟩ := hs
  by_cases hf : freshP s n = true
  · have hm : markP s n = if s.top < n then { s with top := n, seen := if n - s.top < 64 then (s.seen * 2 ^ (n - s.top).toNat % 18446744073709551616) ||| 1 else 1 } else { s with seen := s.seen ||| 2 ^ (s.top - n).toNat } := by unfold markP; rw [if_pos hf]
    have hrange : 1 ≤ n ∧ n ≤ 4294967296 ∧ (s.top < n ∨ s.top - n < 64) := by
      unfold freshP at hf
      rw [Bool.and_eq_true, decide_eq_true_eq] at hf
      obtain ⟨⟨a1, a2⟩, a3⟩ := hf
      rw [Bool.or_eq_true, decide_eq_true_eq, Bool.and_eq_true, decide_eq_true_eq] at a3
      exact ⟨a1, a2, a3.imp id (fun h => h.1)⟩
    rw [hf] at HF
    rw [hm]
    clear hf hm
    obtain ⟨id, role, side, key, sent, top, seen⟩ := s
    unfold sesV sesC at HF ⊢
    dsimp only at HF htop hseen hrange ⊢
    by_cases ht : top < n
    · rw [if_pos ht]
      dsimp only
      have d1 : decide (top < n) = true := decide_eq_true ht
      have w2 : IntKind.u64.wrap n = n := by rw [IntKind.wrap_u64]; omega
      obtain ⟨d, hd⟩ : ∃ d : Nat, n - top = (d : Int) := ⟨(n - top).toNat, by omega⟩
      have w3 : IntKind.u64.wrap (n - IntKind.u64.wrap top) = (d : Int) := by
        rw [IntKind.wrap_u64, IntKind.wrap_u64]
        omega
      by_cases h64 : d < 64
      · have d2 : decide ((d : Int) < 64) = true := decide_eq_true (by omega)
        have hval := mark_val seen n top hseen (by omega) (by omega)
        obtain ⟨X, hX⟩ : ∃ X : Nat, (if n - top < 64 then (seen * 2 ^ (n - top).toNat % 18446744073709551616) ||| 1 else 1) = X := ⟨_, rfl⟩
        rw [hX] at hval ⊢
        rw [w3, Int.toNat_natCast, Nat.min_eq_left (by omega)] at hval
        have hvalH := Lib.hid hval
        clear hX hval
        go_enter Tryd.func24, Tryd.ntmps24
        go_upto_region 11 with (first | (go_at_call 26; refine (HF.out _).mono ?_; rintro e w1 ⟨rfl, hB⟩; have hsb : Blk w1 w.heap.size 32 #[.int .i64 id, .int .i64 role, .int .i64 side, .string key, .int .i64 sent, .int .i64 top, .int .u64 (seen : Int)] := (((Blk.new w 32 #[.int .i64 id, .int .i64 role, .int .i64 side, .string key, .int .i64 sent, .int .i64 top, .int .u64 (seen : Int)]).alloc (.cells #[.int .i64 0, .int .i64 0, .int .i64 0, .string ⟨#[]⟩, .int .i64 0, .int .i64 0, .int .u64 0] 32)).below hB (by rw [World.size_alloc, World.size_alloc]; omega)); have hrb : Blk w1 (w.heap.size + 1) 32 #[.int .i64 0, .int .i64 0, .int .i64 0, .string ⟨#[]⟩, .int .i64 0, .int .i64 0, .int .u64 0] := ((blk_new2 w (.cells #[.int .i64 id, .int .i64 role, .int .i64 side, .string key, .int .i64 sent, .int .i64 top, .int .u64 (seen : Int)] 32) 32 #[.int .i64 0, .int .i64 0, .int .i64 0, .string ⟨#[]⟩, .int .i64 0, .int .i64 0, .int .u64 0]).below hB (by rw [World.size_alloc, World.size_alloc]; omega)); have HSB := Lib.hid hsb; have HRB := Lib.hid hrb; have c0 := hsb.cell 0; have z0 := hrb.cell 0; have g0 := hrb.frozen 0; have c1 := hsb.cell 1; have z1 := hrb.cell 1; have g1 := hrb.frozen 1; have c2 := hsb.cell 2; have z2 := hrb.cell 2; have g2 := hrb.frozen 2; have c3 := hsb.cell 3; have z3 := hrb.cell 3; have g3 := hrb.frozen 3; have c4 := hsb.cell 4; have z4 := hrb.cell 4; have g4 := hrb.frozen 4; have c5 := hsb.cell 5; have z5 := hrb.cell 5; have g5 := hrb.frozen 5; have c6 := hsb.cell 6; have z6 := hrb.cell 6; have g6 := hrb.frozen 6; have f5 := hsb.frozen 5; have f6 := hsb.frozen 6; have HB1 : Hid (Below w.heap.size w w1) := ((((Below.refl w.heap.size w).alloc (Nat.le_refl _) (.cells #[.int .i64 id, .int .i64 role, .int .i64 side, .string key, .int .i64 sent, .int .i64 top, .int .u64 (seen : Int)] 32)).alloc (by rw [World.size_alloc]; exact Nat.le_succ _) (.cells #[.int .i64 0, .int .i64 0, .int .i64 0, .string ⟨#[]⟩, .int .i64 0, .int .i64 0, .int .u64 0] 32)).trans (hB.mono (by rw [World.size_alloc, World.size_alloc]; omega))); clear hB hsb hrb) | fail)
        rw [hvalH.out]
        refine world_is (P := fun W => Code.wp _ _ _ _ W) (fun W2 hW2 => ?_)
        have hsb2 : Hid (Blk W2 w.heap.size 32 #[.int .i64 id, .int .i64 role, .int .i64 side, .string key, .int .i64 sent, .int .i64 n, .int .u64 (X : Int)]) := by unfold Hid; rw [← hW2]; exact blk7_566 HSB.out _ _ _
        have hrb2 : Hid (Blk W2 (w.heap.size + 1) 32 #[.int .i64 0, .int .i64 0, .int .i64 0, .string ⟨#[]⟩, .int .i64 0, .int .i64 0, .int .u64 0]) := by unfold Hid; rw [← hW2]; exact (((HRB.out.other (by show w.heap.size + 1 ≠ w.heap.size; omega) _).other (by show w.heap.size + 1 ≠ w.heap.size; omega) _).other (by show w.heap.size + 1 ≠ w.heap.size; omega) _)
        have hbel2 : Hid (Below w.heap.size w W2) := by unfold Hid; rw [← hW2]; exact (((HB1.out.setCell (p := ⟨w.heap.size, 5, none⟩) (Nat.le_refl _) _).setCell (p := ⟨w.heap.size, 6, none⟩) (Nat.le_refl _) _).setCell (p := ⟨w.heap.size, 6, none⟩) (Nat.le_refl _) _)
        clear hW2 c0 z0 g0 c1 z1 g1 c2 z2 g2 c3 z3 g3 c4 z4 g4 c5 z5 g5 c6 z6 g6 f5 f6 HSB HRB HB1 HF hrange
        clear hvalH
        have b0 := hsb2.out.cell 0
        have y0 := hrb2.out.cell 0
        have x0 := hrb2.out.frozen 0
        have b1 := hsb2.out.cell 1
        have y1 := hrb2.out.cell 1
        have x1 := hrb2.out.frozen 1
        have b2 := hsb2.out.cell 2
        have y2 := hrb2.out.cell 2
        have x2 := hrb2.out.frozen 2
        have b3 := hsb2.out.cell 3
        have y3 := hrb2.out.cell 3
        have x3 := hrb2.out.frozen 3
        have b4 := hsb2.out.cell 4
        have y4 := hrb2.out.cell 4
        have x4 := hrb2.out.frozen 4
        have b5 := hsb2.out.cell 5
        have y5 := hrb2.out.cell 5
        have x5 := hrb2.out.frozen 5
        have b6 := hsb2.out.cell 6
        have y6 := hrb2.out.cell 6
        have x6 := hrb2.out.frozen 6
        go_wp2_with fail
        have hL := blk7_put hrb2.out (.int .i64 id) (.int .i64 role) (.int .i64 side) (.string key) (.int .i64 sent) (.int .i64 n) (.int .u64 (X : Int))
        have hBL := (Below.setCell (p := ⟨w.heap.size + 1, 6, none⟩) (Below.setCell (p := ⟨w.heap.size + 1, 5, none⟩) (Below.setCell (p := ⟨w.heap.size + 1, 4, none⟩) (Below.setCell (p := ⟨w.heap.size + 1, 3, none⟩) (Below.setCell (p := ⟨w.heap.size + 1, 2, none⟩) (Below.setCell (p := ⟨w.heap.size + 1, 1, none⟩) (Below.setCell (p := ⟨w.heap.size + 1, 0, none⟩) hbel2.out (Nat.le_succ _) (.int .i64 id)) (Nat.le_succ _) (.int .i64 role)) (Nat.le_succ _) (.int .i64 side)) (Nat.le_succ _) (.string key)) (Nat.le_succ _) (.int .i64 sent)) (Nat.le_succ _) (.int .i64 n)) (Nat.le_succ _) (.int .u64 (X : Int)))
        exact bodyPost_ret (v := .agg #[.int .i64 id, .int .i64 role, .int .i64 side, .string key, .int .i64 sent, .int .i64 n, .int .u64 (X : Int)]) (results_c (P := Tryd.prog) rfl _ _ (w.heap.size + 1) 32 #[.int .i64 id, .int .i64 role, .int .i64 side, .string key, .int .i64 sent, .int .i64 n, .int .u64 (X : Int)] _ rfl hL Tryd.underlying32 rfl infoSes) rfl ⟨rfl, hBL⟩
      · have d2 : decide ((d : Int) < 64) = false := decide_eq_false (by omega)
        obtain ⟨X, hX⟩ : ∃ X : Nat, (if n - top < 64 then (seen * 2 ^ (n - top).toNat % 18446744073709551616) ||| 1 else 1) = X := ⟨_, rfl⟩
        have hX1 : X = 1 := by rw [← hX]; exact if_neg (by omega)
        rw [hX]
        clear hX
        subst hX1
        go_enter Tryd.func24, Tryd.ntmps24
        go_upto_region 11 with (first | (go_at_call 26; refine (HF.out _).mono ?_; rintro e w1 ⟨rfl, hB⟩; have hsb : Blk w1 w.heap.size 32 #[.int .i64 id, .int .i64 role, .int .i64 side, .string key, .int .i64 sent, .int .i64 top, .int .u64 (seen : Int)] := (((Blk.new w 32 #[.int .i64 id, .int .i64 role, .int .i64 side, .string key, .int .i64 sent, .int .i64 top, .int .u64 (seen : Int)]).alloc (.cells #[.int .i64 0, .int .i64 0, .int .i64 0, .string ⟨#[]⟩, .int .i64 0, .int .i64 0, .int .u64 0] 32)).below hB (by rw [World.size_alloc, World.size_alloc]; omega)); have hrb : Blk w1 (w.heap.size + 1) 32 #[.int .i64 0, .int .i64 0, .int .i64 0, .string ⟨#[]⟩, .int .i64 0, .int .i64 0, .int .u64 0] := ((blk_new2 w (.cells #[.int .i64 id, .int .i64 role, .int .i64 side, .string key, .int .i64 sent, .int .i64 top, .int .u64 (seen : Int)] 32) 32 #[.int .i64 0, .int .i64 0, .int .i64 0, .string ⟨#[]⟩, .int .i64 0, .int .i64 0, .int .u64 0]).below hB (by rw [World.size_alloc, World.size_alloc]; omega)); have HSB := Lib.hid hsb; have HRB := Lib.hid hrb; have c0 := hsb.cell 0; have z0 := hrb.cell 0; have g0 := hrb.frozen 0; have c1 := hsb.cell 1; have z1 := hrb.cell 1; have g1 := hrb.frozen 1; have c2 := hsb.cell 2; have z2 := hrb.cell 2; have g2 := hrb.frozen 2; have c3 := hsb.cell 3; have z3 := hrb.cell 3; have g3 := hrb.frozen 3; have c4 := hsb.cell 4; have z4 := hrb.cell 4; have g4 := hrb.frozen 4; have c5 := hsb.cell 5; have z5 := hrb.cell 5; have g5 := hrb.frozen 5; have c6 := hsb.cell 6; have z6 := hrb.cell 6; have g6 := hrb.frozen 6; have f5 := hsb.frozen 5; have f6 := hsb.frozen 6; have HB1 : Hid (Below w.heap.size w w1) := ((((Below.refl w.heap.size w).alloc (Nat.le_refl _) (.cells #[.int .i64 id, .int .i64 role, .int .i64 side, .string key, .int .i64 sent, .int .i64 top, .int .u64 (seen : Int)] 32)).alloc (by rw [World.size_alloc]; exact Nat.le_succ _) (.cells #[.int .i64 0, .int .i64 0, .int .i64 0, .string ⟨#[]⟩, .int .i64 0, .int .i64 0, .int .u64 0] 32)).trans (hB.mono (by rw [World.size_alloc, World.size_alloc]; omega))); clear hB hsb hrb) | fail)
        refine world_is (P := fun W => Code.wp _ _ _ _ W) (fun W2 hW2 => ?_)
        have hsb2 : Hid (Blk W2 w.heap.size 32 #[.int .i64 id, .int .i64 role, .int .i64 side, .string key, .int .i64 sent, .int .i64 n, .int .u64 ((1 : Nat) : Int)]) := by unfold Hid; rw [← hW2]; exact blk7_56 HSB.out _ _
        have hrb2 : Hid (Blk W2 (w.heap.size + 1) 32 #[.int .i64 0, .int .i64 0, .int .i64 0, .string ⟨#[]⟩, .int .i64 0, .int .i64 0, .int .u64 0]) := by unfold Hid; rw [← hW2]; exact ((HRB.out.other (by show w.heap.size + 1 ≠ w.heap.size; omega) _).other (by show w.heap.size + 1 ≠ w.heap.size; omega) _)
        have hbel2 : Hid (Below w.heap.size w W2) := by unfold Hid; rw [← hW2]; exact ((HB1.out.setCell (p := ⟨w.heap.size, 5, none⟩) (Nat.le_refl _) _).setCell (p := ⟨w.heap.size, 6, none⟩) (Nat.le_refl _) _)
        clear hW2 c0 z0 g0 c1 z1 g1 c2 z2 g2 c3 z3 g3 c4 z4 g4 c5 z5 g5 c6 z6 g6 f5 f6 HSB HRB HB1 HF hrange
        have b0 := hsb2.out.cell 0
        have y0 := hrb2.out.cell 0
        have x0 := hrb2.out.frozen 0
        have b1 := hsb2.out.cell 1
        have y1 := hrb2.out.cell 1
        have x1 := hrb2.out.frozen 1
        have b2 := hsb2.out.cell 2
        have y2 := hrb2.out.cell 2
        have x2 := hrb2.out.frozen 2
        have b3 := hsb2.out.cell 3
        have y3 := hrb2.out.cell 3
        have x3 := hrb2.out.frozen 3
        have b4 := hsb2.out.cell 4
        have y4 := hrb2.out.cell 4
        have x4 := hrb2.out.frozen 4
        have b5 := hsb2.out.cell 5
        have y5 := hrb2.out.cell 5
        have x5 := hrb2.out.frozen 5
        have b6 := hsb2.out.cell 6
        have y6 := hrb2.out.cell 6
        have x6 := hrb2.out.frozen 6
        go_wp2_with fail
        have hL := blk7_put hrb2.out (.int .i64 id) (.int .i64 role) (.int .i64 side) (.string key) (.int .i64 sent) (.int .i64 n) (.int .u64 ((1 : Nat) : Int))
        have hBL := (Below.setCell (p := ⟨w.heap.size + 1, 6, none⟩) (Below.setCell (p := ⟨w.heap.size + 1, 5, none⟩) (Below.setCell (p := ⟨w.heap.size + 1, 4, none⟩) (Below.setCell (p := ⟨w.heap.size + 1, 3, none⟩) (Below.setCell (p := ⟨w.heap.size + 1, 2, none⟩) (Below.setCell (p := ⟨w.heap.size + 1, 1, none⟩) (Below.setCell (p := ⟨w.heap.size + 1, 0, none⟩) hbel2.out (Nat.le_succ _) (.int .i64 id)) (Nat.le_succ _) (.int .i64 role)) (Nat.le_succ _) (.int .i64 side)) (Nat.le_succ _) (.string key)) (Nat.le_succ _) (.int .i64 sent)) (Nat.le_succ _) (.int .i64 n)) (Nat.le_succ _) (.int .u64 ((1 : Nat) : Int)))
        exact bodyPost_ret (v := .agg #[.int .i64 id, .int .i64 role, .int .i64 side, .string key, .int .i64 sent, .int .i64 n, .int .u64 ((1 : Nat) : Int)]) (results_c (P := Tryd.prog) rfl _ _ (w.heap.size + 1) 32 #[.int .i64 id, .int .i64 role, .int .i64 side, .string key, .int .i64 sent, .int .i64 n, .int .u64 ((1 : Nat) : Int)] _ rfl hL Tryd.underlying32 rfl infoSes) rfl ⟨rfl, hBL⟩
    · rw [if_neg ht]
      dsimp only
      have d1 : decide (top < n) = false := decide_eq_false ht
      obtain ⟨d, hd⟩ : ∃ d : Nat, top - n = (d : Int) := ⟨(top - n).toNat, by omega⟩
      obtain ⟨X, hXd⟩ : ∃ X : Nat, seen ||| 2 ^ d = X := ⟨_, rfl⟩
      rw [show (top - n).toNat = d by rw [hd, Int.toNat_natCast], hXd]
      go_enter Tryd.func24, Tryd.ntmps24
      go_upto_region 12 with (first | (go_at_call 26; refine (HF.out _).mono ?_; rintro e w1 ⟨rfl, hB⟩; have hsb : Blk w1 w.heap.size 32 #[.int .i64 id, .int .i64 role, .int .i64 side, .string key, .int .i64 sent, .int .i64 top, .int .u64 (seen : Int)] := (((Blk.new w 32 #[.int .i64 id, .int .i64 role, .int .i64 side, .string key, .int .i64 sent, .int .i64 top, .int .u64 (seen : Int)]).alloc (.cells #[.int .i64 0, .int .i64 0, .int .i64 0, .string ⟨#[]⟩, .int .i64 0, .int .i64 0, .int .u64 0] 32)).below hB (by rw [World.size_alloc, World.size_alloc]; omega)); have hrb : Blk w1 (w.heap.size + 1) 32 #[.int .i64 0, .int .i64 0, .int .i64 0, .string ⟨#[]⟩, .int .i64 0, .int .i64 0, .int .u64 0] := ((blk_new2 w (.cells #[.int .i64 id, .int .i64 role, .int .i64 side, .string key, .int .i64 sent, .int .i64 top, .int .u64 (seen : Int)] 32) 32 #[.int .i64 0, .int .i64 0, .int .i64 0, .string ⟨#[]⟩, .int .i64 0, .int .i64 0, .int .u64 0]).below hB (by rw [World.size_alloc, World.size_alloc]; omega)); have HSB := Lib.hid hsb; have HRB := Lib.hid hrb; have c0 := hsb.cell 0; have z0 := hrb.cell 0; have g0 := hrb.frozen 0; have c1 := hsb.cell 1; have z1 := hrb.cell 1; have g1 := hrb.frozen 1; have c2 := hsb.cell 2; have z2 := hrb.cell 2; have g2 := hrb.frozen 2; have c3 := hsb.cell 3; have z3 := hrb.cell 3; have g3 := hrb.frozen 3; have c4 := hsb.cell 4; have z4 := hrb.cell 4; have g4 := hrb.frozen 4; have c5 := hsb.cell 5; have z5 := hrb.cell 5; have g5 := hrb.frozen 5; have c6 := hsb.cell 6; have z6 := hrb.cell 6; have g6 := hrb.frozen 6; have f5 := hsb.frozen 5; have f6 := hsb.frozen 6; have HB1 : Hid (Below w.heap.size w w1) := ((((Below.refl w.heap.size w).alloc (Nat.le_refl _) (.cells #[.int .i64 id, .int .i64 role, .int .i64 side, .string key, .int .i64 sent, .int .i64 top, .int .u64 (seen : Int)] 32)).alloc (by rw [World.size_alloc]; exact Nat.le_succ _) (.cells #[.int .i64 0, .int .i64 0, .int .i64 0, .string ⟨#[]⟩, .int .i64 0, .int .i64 0, .int .u64 0] 32)).trans (hB.mono (by rw [World.size_alloc, World.size_alloc]; omega))); clear hB hsb hrb) | fail)
      have y1 : IntKind.i64.wrap (top - n) = (d : Int) := by rw [hd]; exact i64_is d (by omega)
      have hd64 : d < 64 := by omega
      have y2 : IntKind.i64.wrap (d : Int) = (d : Int) := i64_is d (by omega)
      have hp : 2 ^ d < 18446744073709551616 := Nat.lt_of_lt_of_le (Nat.pow_lt_pow_right (by decide) hd64) (by decide)
      have y3 : IntKind.u64.wrap ((2 : Int) ^ d) = ((2 ^ d : Nat) : Int) := by
        rw [show ((2 : Int) ^ d) = ((2 ^ d : Nat) : Int) by rw [Int.natCast_pow]; rfl]
        exact u64_is _ hp
      have y4 := u64_or_nat seen (2 ^ d) hseen hp
      rw [hXd] at y4
      clear hp
      refine wp_region_last (S := (fun w' => w'.cell? ⟨w.heap.size, 5, none⟩ = some (.int .i64 top) ∧ w'.cell? ⟨w.heap.size, 6, none⟩ = some (.int .u64 (seen : Int)))) 9 (by kernel_rfl) ⟨c5, c6⟩ (fun hHeld => ?_)
      refine' wpAnyK_take (i := 0) (v := ?v0A) rfl (by kernel_rfl) (by kernel_rfl) (by kernel_rfl) (by kernel_rfl) (by kernel_rfl) (fun _ _ _ h => h) (Or.inl ⟨by rfl, ?hy0A⟩) hHeld ?rest0A
      case hy0A => intro w hSw; (try dsimp only at hSw); go_simp; all_goals with_reducible rfl
      try simp only [sA, gA]
      refine' wpAnyK_take (i := 1) (v := ?v1A) rfl (by kernel_rfl) (by kernel_rfl) (by kernel_rfl) (by kernel_rfl) (by kernel_rfl) (fun _ _ _ h => h) (Or.inl ⟨by rfl, ?hy1A⟩) hHeld ?rest1A
      case hy1A => intro w hSw; (try dsimp only at hSw); go_simp; all_goals with_reducible rfl
      try simp only [sA, gA]
      refine' wpAnyK_take (i := 2) (v := ?v2A) rfl (by kernel_rfl) (by kernel_rfl) (by kernel_rfl) (by kernel_rfl) (by kernel_rfl) (fun _ _ _ h => h) (Or.inl ⟨by rfl, ?hy2A⟩) hHeld ?rest2A
      case hy2A => intro w hSw; (try dsimp only at hSw); go_simp; all_goals with_reducible rfl
      try simp only [sA, gA]
      refine' wpAnyK_take (i := 3) (v := ?v3A) rfl (by kernel_rfl) (by kernel_rfl) (by kernel_rfl) (by kernel_rfl) (by kernel_rfl) (fun _ _ _ h => h) (Or.inl ⟨by rfl, ?hy3A⟩) hHeld ?rest3A
      case hy3A => intro w hSw; (try dsimp only at hSw); go_simp; all_goals with_reducible rfl
      try simp only [sA, gA]
      refine' wpAnyK_take (i := 4) (v := ?v4A) rfl (by kernel_rfl) (by kernel_rfl) (by kernel_rfl) (by kernel_rfl) (by kernel_rfl) (fun _ _ _ h => h) (Or.inl ⟨by rfl, ?hy4A⟩) hHeld ?rest4A
      case hy4A => intro w hSw; (try dsimp only at hSw); go_simp; all_goals with_reducible rfl
      try simp only [sA, gA]
      refine' wpAnyK_take (i := 5) (v := ?v5A) rfl (by kernel_rfl) (by kernel_rfl) (by kernel_rfl) (by kernel_rfl) (by kernel_rfl) (fun _ _ _ h => h) (Or.inl ⟨by rfl, ?hy5A⟩) hHeld ?rest5A
      case hy5A => intro w hSw; (try dsimp only at hSw); go_simp; all_goals with_reducible rfl
      try simp only [sA, gA]
      refine' wpAnyK_take (i := 6) (v := ?v6A) rfl (by kernel_rfl) (by kernel_rfl) (by kernel_rfl) (by kernel_rfl) (by kernel_rfl) (fun _ _ _ h => h) (Or.inl ⟨by rfl, ?hy6A⟩) hHeld ?rest6A
      case hy6A => intro w hSw; (try dsimp only at hSw); go_simp; all_goals with_reducible rfl
      try simp only [sA, gA]
      refine' wpAnyK_take (i := 7) (v := ?v7A) rfl (by kernel_rfl) (by kernel_rfl) (by kernel_rfl) (by kernel_rfl) (by kernel_rfl) (fun _ _ _ h => h) (Or.inl ⟨by rfl, ?hy7A⟩) hHeld ?rest7A
      case hy7A => intro w hSw; (try dsimp only at hSw); go_simp; all_goals with_reducible rfl
      try simp only [sA, gA]
      refine' wpAnyK_take (i := 8) (v := ?v8A) rfl (by kernel_rfl) (by kernel_rfl) (by kernel_rfl) (by kernel_rfl) (by kernel_rfl) (fun _ _ _ h => h) (Or.inl ⟨by rfl, ?hy8A⟩) hHeld ?rest8A
      case hy8A => intro w hSw; (try dsimp only at hSw); go_simp; all_goals with_reducible rfl
      try simp only [sA, gA]
      refine wpAnyK_ready (rs := [9]) (by kernel_rfl) (by simp) ?_
      refine AllReadyK.last rfl (fun K hK => ?_)
      go_simp
      refine hK.out _ _ ?_
      clear hK K
      try simp only [sA, gA]
      refine wpAnyK_done (by kernel_rfl) ?_ _
      clear hHeld
      go_wp2_with fail
      have y5 : bits .or .u64 (seen : Int) ((2 : Int) ^ d) = (X : Int) := by
        rw [← y4, Int.natCast_pow]
        rfl
      rw [y5]
      have hL := (blk7_put (HRB.out.other (a := ⟨w.heap.size, 6, none⟩) (by show w.heap.size + 1 ≠ w.heap.size; omega) (.int .u64 (X : Int))) (.int .i64 id) (.int .i64 role) (.int .i64 side) (.string key) (.int .i64 sent) (.int .i64 top) (.int .u64 (X : Int))).drew
      have hBL := (Below.setCell (p := ⟨w.heap.size + 1, 6, none⟩) (Below.setCell (p := ⟨w.heap.size + 1, 5, none⟩) (Below.setCell (p := ⟨w.heap.size + 1, 4, none⟩) (Below.setCell (p := ⟨w.heap.size + 1, 3, none⟩) (Below.setCell (p := ⟨w.heap.size + 1, 2, none⟩) (Below.setCell (p := ⟨w.heap.size + 1, 1, none⟩) (Below.setCell (p := ⟨w.heap.size + 1, 0, none⟩) (HB1.out.setCell (p := ⟨w.heap.size, 6, none⟩) (Nat.le_refl _) (.int .u64 (X : Int))) (Nat.le_succ _) (.int .i64 id)) (Nat.le_succ _) (.int .i64 role)) (Nat.le_succ _) (.int .i64 side)) (Nat.le_succ _) (.string key)) (Nat.le_succ _) (.int .i64 sent)) (Nat.le_succ _) (.int .i64 top)) (Nat.le_succ _) (.int .u64 (X : Int))).drew
      exact bodyPost_ret (v := .agg #[.int .i64 id, .int .i64 role, .int .i64 side, .string key, .int .i64 sent, .int .i64 top, .int .u64 (X : Int)]) (results_c (P := Tryd.prog) rfl _ _ (w.heap.size + 1) 32 #[.int .i64 id, .int .i64 role, .int .i64 side, .string key, .int .i64 sent, .int .i64 top, .int .u64 (X : Int)] _ rfl hL Tryd.underlying32 rfl infoSes) rfl ⟨rfl, hBL⟩
  · have hf2 : freshP s n = false := by simpa using hf
    have hm : markP s n = s := by unfold markP; rw [if_neg hf]
    rw [hf2] at HF
    rw [hm]
    clear hf hf2 hm
    obtain ⟨id, role, side, key, sent, top, seen⟩ := s
    unfold sesV sesC at HF ⊢
    dsimp only at HF ⊢
    go_enter Tryd.func24, Tryd.ntmps24
    go_wp2_with (first | (go_at_call 26; refine (HF.out _).mono ?_; rintro e w1 ⟨rfl, hB⟩; have hsb : Blk w1 w.heap.size 32 #[.int .i64 id, .int .i64 role, .int .i64 side, .string key, .int .i64 sent, .int .i64 top, .int .u64 (seen : Int)] := (((Blk.new w 32 #[.int .i64 id, .int .i64 role, .int .i64 side, .string key, .int .i64 sent, .int .i64 top, .int .u64 (seen : Int)]).alloc (.cells #[.int .i64 0, .int .i64 0, .int .i64 0, .string ⟨#[]⟩, .int .i64 0, .int .i64 0, .int .u64 0] 32)).below hB (by rw [World.size_alloc, World.size_alloc]; omega)); have hrb : Blk w1 (w.heap.size + 1) 32 #[.int .i64 0, .int .i64 0, .int .i64 0, .string ⟨#[]⟩, .int .i64 0, .int .i64 0, .int .u64 0] := ((blk_new2 w (.cells #[.int .i64 id, .int .i64 role, .int .i64 side, .string key, .int .i64 sent, .int .i64 top, .int .u64 (seen : Int)] 32) 32 #[.int .i64 0, .int .i64 0, .int .i64 0, .string ⟨#[]⟩, .int .i64 0, .int .i64 0, .int .u64 0]).below hB (by rw [World.size_alloc, World.size_alloc]; omega)); have HSB := Lib.hid hsb; have HRB := Lib.hid hrb; have c0 := hsb.cell 0; have z0 := hrb.cell 0; have g0 := hrb.frozen 0; have c1 := hsb.cell 1; have z1 := hrb.cell 1; have g1 := hrb.frozen 1; have c2 := hsb.cell 2; have z2 := hrb.cell 2; have g2 := hrb.frozen 2; have c3 := hsb.cell 3; have z3 := hrb.cell 3; have g3 := hrb.frozen 3; have c4 := hsb.cell 4; have z4 := hrb.cell 4; have g4 := hrb.frozen 4; have c5 := hsb.cell 5; have z5 := hrb.cell 5; have g5 := hrb.frozen 5; have c6 := hsb.cell 6; have z6 := hrb.cell 6; have g6 := hrb.frozen 6; have f5 := hsb.frozen 5; have f6 := hsb.frozen 6; have HB1 : Hid (Below w.heap.size w w1) := ((((Below.refl w.heap.size w).alloc (Nat.le_refl _) (.cells #[.int .i64 id, .int .i64 role, .int .i64 side, .string key, .int .i64 sent, .int .i64 top, .int .u64 (seen : Int)] 32)).alloc (by rw [World.size_alloc]; exact Nat.le_succ _) (.cells #[.int .i64 0, .int .i64 0, .int .i64 0, .string ⟨#[]⟩, .int .i64 0, .int .i64 0, .int .u64 0] 32)).trans (hB.mono (by rw [World.size_alloc, World.size_alloc]; omega))); clear hB hsb hrb) | fail)
    have hL := blk7_put HRB.out (.int .i64 id) (.int .i64 role) (.int .i64 side) (.string key) (.int .i64 sent) (.int .i64 top) (.int .u64 (seen : Int))
    have hBL := (Below.setCell (p := ⟨w.heap.size + 1, 6, none⟩) (Below.setCell (p := ⟨w.heap.size + 1, 5, none⟩) (Below.setCell (p := ⟨w.heap.size + 1, 4, none⟩) (Below.setCell (p := ⟨w.heap.size + 1, 3, none⟩) (Below.setCell (p := ⟨w.heap.size + 1, 2, none⟩) (Below.setCell (p := ⟨w.heap.size + 1, 1, none⟩) (Below.setCell (p := ⟨w.heap.size + 1, 0, none⟩) HB1.out (Nat.le_succ _) (.int .i64 id)) (Nat.le_succ _) (.int .i64 role)) (Nat.le_succ _) (.int .i64 side)) (Nat.le_succ _) (.string key)) (Nat.le_succ _) (.int .i64 sent)) (Nat.le_succ _) (.int .i64 top)) (Nat.le_succ _) (.int .u64 (seen : Int)))
    exact bodyPost_ret (v := .agg #[.int .i64 id, .int .i64 role, .int .i64 side, .string key, .int .i64 sent, .int .i64 top, .int .u64 (seen : Int)]) (results_c (P := Tryd.prog) rfl _ _ (w.heap.size + 1) 32 #[.int .i64 id, .int .i64 role, .int .i64 side, .string key, .int .i64 sent, .int .i64 top, .int .u64 (seen : Int)] _ rfl hL Tryd.underlying32 rfl infoSes) rfl ⟨rfl, hBL⟩
end Go.Proofs.YtbhagfdkipgggaaDoor
namespace Go.Proofs.YtbhagfdkipgggaaDoor
open Go.RowKit Go.Shelf
attribute [local go_sem] Oper.semAt_some
/-- The window, as the specification says it. -/
def highR (t seen : Nat) : Bool := (List.range 64).all fun j => !(decide (t ≤ j) && seenBit seen j)
def windowR (t seen : Nat) : Bool := highR t seen && (decide (t = 0) || seenBit seen 0)
theorem highR_iff {t seen : Nat} : highR t seen = true ↔ ∀ j, j < 64 → t ≤ j → seenBit seen j = false := by
  unfold highR
  rw [List.all_eq_true]
  constructor
  · intro h j hj ht
    have := h j (List.mem_range.2 hj)
    rw [decide_eq_true ht, Bool.true_and] at this
    simpa using this
  · intro h j hj
    by_cases ht : t ≤ j
    · rw [h j (List.mem_range.1 hj) ht, Bool.and_false]
      rfl
    · rw [decide_eq_false ht, Bool.false_and]
      rfl
theorem windowR_bit {t seen i : Nat} (h1 : i < 64) (h2 : t ≤ i) (h3 : seenBit seen i = true) : windowR t seen = false := by
  unfold windowR
  have : highR t seen = false := by
    rw [← Bool.not_eq_true]
    intro h
    rw [highR_iff.1 h i h1 h2] at h3
    cases h3
  rw [this, Bool.false_and]
theorem windowR_all {t seen : Nat} (h : ∀ j, j < 64 → t ≤ j → seenBit seen j = false) : windowR t seen = (decide (t = 0) || seenBit seen 0) := by
  unfold windowR
  rw [highR_iff.2 h, Bool.true_and]
theorem bit_of {s d : Nat} : seenBit s d = s.testBit d := by
  unfold seenBit
  rw [Nat.testBit_eq_decide_div_mod_eq]
theorem high_zero {t seen : Nat} (hs : seen < 18446744073709551616) : (∀ j, j < 64 → t ≤ j → seenBit seen j = false) ↔ (64 ≤ t ∨ seen / 2 ^ t = 0) := by
  constructor
  · intro h
    by_cases h64 : 64 ≤ t
    · exact .inl h64
    · refine .inr ?_
      apply Nat.eq_of_testBit_eq
      intro i
      rw [Nat.zero_testBit, Nat.testBit_div_two_pow]
      by_cases h2 : i + t < 64
      · rw [← bit_of]
        exact h _ h2 (Nat.le_add_left _ _)
      · exact Nat.testBit_lt_two_pow (Nat.lt_of_lt_of_le hs (Nat.pow_le_pow_right (n := 2) (by decide) (Nat.le_of_not_lt h2)))
  · rintro (h | h) j hj htj
    · omega
    · have := Nat.testBit_div_two_pow seen (j - t) (n := t)
      rw [h, Nat.zero_testBit, Nat.sub_add_cancel htj] at this
      rw [bit_of]
      exact this.symm
theorem window_eq (t seen : Nat) (hs : seen < 18446744073709551616) :
    (if (t : Int) = 0 then decide (seen = 0) else (decide ((64 : Int) ≤ (t : Int)) || decide (seen / 2 ^ t = 0)) && decide (seen % 2 = 1)) = windowR t seen := by
  have hd : highR t seen = (decide ((64 : Int) ≤ (t : Int)) || decide (seen / 2 ^ t = 0)) := by
    rw [← Bool.decide_or, Bool.eq_iff_iff, highR_iff, high_zero hs, decide_eq_true_eq]
    exact ⟨fun h => h.imp (fun h => by omega) id, fun h => h.imp (fun h => by omega) id⟩
  have h0 : seenBit seen 0 = decide (seen % 2 = 1) := by unfold seenBit; rw [Nat.pow_zero, Nat.div_one]
  unfold windowR
  rw [hd, h0]
  by_cases ht : t = 0
  · subst ht
    rw [if_pos (by rfl : ((0 : Nat) : Int) = 0), Nat.pow_zero, Nat.div_one]
    by_cases h : seen = 0
    · subst h; rfl
    · simp [h]
  · rw [if_neg (by omega), decide_eq_false ht, Bool.false_or]
set_option maxHeartbeats 1600000 in
theorem rvalid_any (w : World) (s : Ses) (hs : s.Fits) :
    Calls Tryd.prog 22 #[sesV s] w fun e w' => e = .returned (.bool (validP s)) ∧ Below w.heap.size w w' := by
  obtain ⟨_, _, _, _, _, hseen, hkey⟩ := hs
  obtain ⟨id, role, side, key, sent, top, seen⟩ := s
  dsimp only at hseen hkey
  unfold sesV sesC
  dsimp only
  by_cases h0 : 1 ≤ id ∧ id ≤ 64
  · have HW0 : Hid (∀ (wx : World), Calls Tryd.prog 44 #[.int .i64 id, .int .i64 1, .int .i64 64] wx fun e w' => e = .returned (.bool true) ∧ wx = w') := fun wx => by have h := rwithin_any wx id 1 64; rw [decide_eq_true h0] at h; exact h
    by_cases h1 : 1 ≤ role ∧ role ≤ 3
    · have HW1 : Hid (∀ (wx : World), Calls Tryd.prog 44 #[.int .i64 role, .int .i64 1, .int .i64 3] wx fun e w' => e = .returned (.bool true) ∧ wx = w') := fun wx => by have h := rwithin_any wx role 1 3; rw [decide_eq_true h1] at h; exact h
      by_cases h2 : 1 ≤ side ∧ side ≤ 2
      · have HW2 : Hid (∀ (wx : World), Calls Tryd.prog 44 #[.int .i64 side, .int .i64 1, .int .i64 2] wx fun e w' => e = .returned (.bool true) ∧ wx = w') := fun wx => by have h := rwithin_any wx side 1 2; rw [decide_eq_true h2] at h; exact h
        by_cases h3 : key.size = 32
        · have e3 : ((key.size : Int) != 32) = false := by rw [h3]; rfl
          by_cases h4 : 0 ≤ sent ∧ sent ≤ 4294967296
          · have HW4 : Hid (∀ (wx : World), Calls Tryd.prog 44 #[.int .i64 sent, .int .i64 0, .int .i64 4294967296] wx fun e w' => e = .returned (.bool true) ∧ wx = w') := fun wx => by have h := rwithin_any wx sent 0 4294967296; rw [decide_eq_true h4] at h; exact h
            by_cases h5 : 0 ≤ top ∧ top ≤ 4294967296
            · have HW5 : Hid (∀ (wx : World), Calls Tryd.prog 44 #[.int .i64 top, .int .i64 0, .int .i64 4294967296] wx fun e w' => e = .returned (.bool true) ∧ wx = w') := fun wx => by have h := rwithin_any wx top 0 4294967296; rw [decide_eq_true h5] at h; exact h
              rw [validP_last _ (by dsimp only; omega) (by dsimp only; omega) (by dsimp only; omega)]
              dsimp only
              obtain ⟨t, rfl⟩ : ∃ t : Nat, top = (t : Int) := ⟨top.toNat, by omega⟩
              rw [Int.toNat_natCast, window_eq t seen hseen]
              obtain ⟨R, hR⟩ : ∃ R, windowR t seen = R := ⟨_, rfl⟩
              rw [hR]
              have hR := Lib.hid hR
              have HBI : ∀ i : Nat, i < 64 → Hid (∀ (wx : World), Calls Tryd.prog 53 #[.int .u64 (seen : Int), .int .i64 (i : Int)] wx fun e w' => e = .returned (.bool (seenBit seen i)) ∧ wx = w') := fun i hi wx => rbit_any wx seen i hseen hi
              go_enter Tryd.func22, Tryd.ntmps22
              go_wp2_with (first | (have := done4; clear this; go_at_call 44; refine (HW5.out _).mono ?_; rintro e w5 ⟨rfl, rfl⟩; have done5 := True.intro) | (have := done2; clear this; go_at_call 44; refine (HW4.out _).mono ?_; rintro e w4 ⟨rfl, rfl⟩; have done4 := True.intro) | (have := done1; clear this; go_at_call 44; refine (HW2.out _).mono ?_; rintro e w2 ⟨rfl, rfl⟩; have done2 := True.intro) | (have := done0; clear this; go_at_call 44; refine (HW1.out _).mono ?_; rintro e w1 ⟨rfl, rfl⟩; have done1 := True.intro) | (go_at_call 44; refine (HW0.out _).mono ?_; rintro e w0 ⟨rfl, rfl⟩; have done0 := True.intro) | fail)
              have hN : Hid (Blk (w.alloc (.cells #[.int .i64 id, .int .i64 role, .int .i64 side, .string key, .int .i64 sent, .int .i64 (t : Int), .int .u64 (seen : Int)] 32)) w.heap.size 32 #[.int .i64 id, .int .i64 role, .int .i64 side, .string key, .int .i64 sent, .int .i64 (t : Int), .int .u64 (seen : Int)]) := Blk.new w _ _
              have hB : Hid (Below w.heap.size w (w.alloc (.cells #[.int .i64 id, .int .i64 role, .int .i64 side, .string key, .int .i64 sent, .int .i64 (t : Int), .int .u64 (seen : Int)] 32))) := (Below.refl _ w).alloc (Nat.le_refl _) _
              generalize (w.alloc (.cells #[.int .i64 id, .int .i64 role, .int .i64 side, .string key, .int .i64 sent, .int .i64 (t : Int), .int .u64 (seen : Int)] 32)) = w1 at *
              have c5 := hN.out.cell 5
              have c6 := hN.out.cell 6
              go_loopw [3] (fun v wr => ∃ i : Nat, i ≤ 64 ∧ v = .int .i64 i ∧ (∀ j, j < i → t ≤ j → seenBit seen j = false) ∧ wr = w1) (fun v _ => 64 - (intOf v).toNat)
              case atStart => exact ⟨0, Nat.zero_le _, rfl, fun j hj => absurd hj (Nat.not_lt_zero j), rfl⟩
              case round =>
                obtain ⟨i, hi, rfl, hbits, rfl⟩ := hrel
                by_cases hil : i < 64
                · have d1 : decide ((i : Int) < 64) = true := decide_eq_true (by omega)
                  have HBi := HBI i hil
                  by_cases hti : t ≤ i
                  · have d2 : decide (t ≤ i) = true := decide_eq_true hti
                    by_cases hb : seenBit seen i = true
                    · have hw : windowR t seen = false := windowR_bit hil hti hb
                      rw [hb] at HBi
                      clear hb
                      go_wp2_with (first | (go_at_call 53; refine (HBi.out _).mono ?_; rintro e w2 ⟨rfl, rfl⟩) | fail)
                      go_ret
                      exact ⟨by rw [← hR.out, hw]; rfl, hB.out⟩
                    · have hb2 : seenBit seen i = false := by simpa using hb
                      rw [hb2] at HBi
                      go_wp2_with (first | (go_at_call 53; refine (HBi.out _).mono ?_; rintro e w2 ⟨rfl, rfl⟩) | fail)
                      refine ⟨⟨i + 1, hil, by go_num, fun j hj htj => ?_, trivial⟩, by simp [intOf]; omega⟩
                      rcases Nat.lt_succ_iff_lt_or_eq.1 hj with h | rfl
                      · exact hbits j h htj
                      · exact hb2
                  · have d2 : decide (t ≤ i) = false := decide_eq_false hti
                    go_wp2_with fail
                    refine ⟨⟨i + 1, hil, by go_num, fun j hj htj => ?_, trivial⟩, by simp [intOf]; omega⟩
                    exact hbits j (by omega) htj
                · obtain rfl : i = 64 := by omega
                  have d1 : decide (((64 : Nat) : Int) < 64) = false := rfl
                  have HB0 := HBI 0 (by decide)
                  have hW := hR.out
                  rw [windowR_all hbits] at hW
                  by_cases ht0 : t = 0
                  · have e9 : ((t : Int) == 0) = true := by rw [ht0]; rfl
                    rw [decide_eq_true ht0, Bool.true_or] at hW
                    subst hW
                    go_wp2_with fail
                    go_ret
                    exact ⟨rfl, hB.out⟩
                  · have e9 : ((t : Int) == 0) = false := by rw [beq_eq_false_iff_ne]; omega
                    rw [decide_eq_false ht0, Bool.false_or] at hW
                    subst hW
                    go_wp2_with (first | (go_at_call 53; refine (HB0.out _).mono ?_; rintro e w2 ⟨rfl, rfl⟩) | fail)
                    go_ret
                    exact ⟨rfl, hB.out⟩
            · have HW5 : Hid (∀ (wx : World), Calls Tryd.prog 44 #[.int .i64 top, .int .i64 0, .int .i64 4294967296] wx fun e w' => e = .returned (.bool false) ∧ wx = w') := fun wx => by have h := rwithin_any wx top 0 4294967296; rw [decide_eq_false h5] at h; exact h
              have hv : validP ⟨id, role, side, key, sent, top, seen⟩ = false := validP_v3 _ (by dsimp only; omega)
              rw [hv]
              clear hv
              go_enter Tryd.func22, Tryd.ntmps22
              go_wp2_with (first | (have := done4; clear this; go_at_call 44; refine (HW5.out _).mono ?_; rintro e w5 ⟨rfl, rfl⟩; have done5 := True.intro) | (have := done2; clear this; go_at_call 44; refine (HW4.out _).mono ?_; rintro e w4 ⟨rfl, rfl⟩; have done4 := True.intro) | (have := done1; clear this; go_at_call 44; refine (HW2.out _).mono ?_; rintro e w2 ⟨rfl, rfl⟩; have done2 := True.intro) | (have := done0; clear this; go_at_call 44; refine (HW1.out _).mono ?_; rintro e w1 ⟨rfl, rfl⟩; have done1 := True.intro) | (go_at_call 44; refine (HW0.out _).mono ?_; rintro e w0 ⟨rfl, rfl⟩; have done0 := True.intro) | fail)
              go_ret
              exact ⟨rfl, (Below.refl _ w).alloc (Nat.le_refl _) _⟩
          · have HW4 : Hid (∀ (wx : World), Calls Tryd.prog 44 #[.int .i64 sent, .int .i64 0, .int .i64 4294967296] wx fun e w' => e = .returned (.bool false) ∧ wx = w') := fun wx => by have h := rwithin_any wx sent 0 4294967296; rw [decide_eq_false h4] at h; exact h
            have hv : validP ⟨id, role, side, key, sent, top, seen⟩ = false := validP_v3 _ (by dsimp only; omega)
            rw [hv]
            clear hv
            go_enter Tryd.func22, Tryd.ntmps22
            go_wp2_with (first | (have := done2; clear this; go_at_call 44; refine (HW4.out _).mono ?_; rintro e w4 ⟨rfl, rfl⟩; have done4 := True.intro) | (have := done1; clear this; go_at_call 44; refine (HW2.out _).mono ?_; rintro e w2 ⟨rfl, rfl⟩; have done2 := True.intro) | (have := done0; clear this; go_at_call 44; refine (HW1.out _).mono ?_; rintro e w1 ⟨rfl, rfl⟩; have done1 := True.intro) | (go_at_call 44; refine (HW0.out _).mono ?_; rintro e w0 ⟨rfl, rfl⟩; have done0 := True.intro) | fail)
            go_ret
            exact ⟨rfl, (Below.refl _ w).alloc (Nat.le_refl _) _⟩
        · have e3 : ((key.size : Int) != 32) = true := by rw [bne_iff_ne]; omega
          have hv : validP ⟨id, role, side, key, sent, top, seen⟩ = false := validP_v2 _ (by dsimp only; omega)
          rw [hv]
          clear hv
          go_enter Tryd.func22, Tryd.ntmps22
          go_wp2_with (first | (have := done1; clear this; go_at_call 44; refine (HW2.out _).mono ?_; rintro e w2 ⟨rfl, rfl⟩; have done2 := True.intro) | (have := done0; clear this; go_at_call 44; refine (HW1.out _).mono ?_; rintro e w1 ⟨rfl, rfl⟩; have done1 := True.intro) | (go_at_call 44; refine (HW0.out _).mono ?_; rintro e w0 ⟨rfl, rfl⟩; have done0 := True.intro) | fail)
          go_ret
          exact ⟨rfl, (Below.refl _ w).alloc (Nat.le_refl _) _⟩
      · have HW2 : Hid (∀ (wx : World), Calls Tryd.prog 44 #[.int .i64 side, .int .i64 1, .int .i64 2] wx fun e w' => e = .returned (.bool false) ∧ wx = w') := fun wx => by have h := rwithin_any wx side 1 2; rw [decide_eq_false h2] at h; exact h
        have hv : validP ⟨id, role, side, key, sent, top, seen⟩ = false := validP_v2 _ (by dsimp only; omega)
        rw [hv]
        clear hv
        go_enter Tryd.func22, Tryd.ntmps22
        go_wp2_with (first | (have := done1; clear this; go_at_call 44; refine (HW2.out _).mono ?_; rintro e w2 ⟨rfl, rfl⟩; have done2 := True.intro) | (have := done0; clear this; go_at_call 44; refine (HW1.out _).mono ?_; rintro e w1 ⟨rfl, rfl⟩; have done1 := True.intro) | (go_at_call 44; refine (HW0.out _).mono ?_; rintro e w0 ⟨rfl, rfl⟩; have done0 := True.intro) | fail)
        go_ret
        exact ⟨rfl, (Below.refl _ w).alloc (Nat.le_refl _) _⟩
    · have HW1 : Hid (∀ (wx : World), Calls Tryd.prog 44 #[.int .i64 role, .int .i64 1, .int .i64 3] wx fun e w' => e = .returned (.bool false) ∧ wx = w') := fun wx => by have h := rwithin_any wx role 1 3; rw [decide_eq_false h1] at h; exact h
      have hv : validP ⟨id, role, side, key, sent, top, seen⟩ = false := validP_v1 _ (by dsimp only; omega)
      rw [hv]
      clear hv
      go_enter Tryd.func22, Tryd.ntmps22
      go_wp2_with (first | (have := done0; clear this; go_at_call 44; refine (HW1.out _).mono ?_; rintro e w1 ⟨rfl, rfl⟩; have done1 := True.intro) | (go_at_call 44; refine (HW0.out _).mono ?_; rintro e w0 ⟨rfl, rfl⟩; have done0 := True.intro) | fail)
      go_ret
      exact ⟨rfl, (Below.refl _ w).alloc (Nat.le_refl _) _⟩
  · have HW0 : Hid (∀ (wx : World), Calls Tryd.prog 44 #[.int .i64 id, .int .i64 1, .int .i64 64] wx fun e w' => e = .returned (.bool false) ∧ wx = w') := fun wx => by have h := rwithin_any wx id 1 64; rw [decide_eq_false h0] at h; exact h
    have hv : validP ⟨id, role, side, key, sent, top, seen⟩ = false := validP_v1 _ (by dsimp only; omega)
    rw [hv]
    clear hv
    go_enter Tryd.func22, Tryd.ntmps22
    go_wp2_with (first | (go_at_call 44; refine (HW0.out _).mono ?_; rintro e w0 ⟨rfl, rfl⟩; have done0 := True.intro) | fail)
    go_ret
    exact ⟨rfl, (Below.refl _ w).alloc (Nat.le_refl _) _⟩
end Go.Proofs.YtbhagfdkipgggaaDoor
