/-
  Layer 29 (session): whether a number is fresh.
  Layer 29 (session): whether a session is valid.
  Layer 29 (session): the context of a message.
  Layer 29 (session): a number is marked.
  Layer 29 (session) in plain words: messages.
-/
import Derived.Test.YtbhagfdkipgggaaDoorMJ
import Derived.Test.YtbhagfdkipgggaaDoorMH
import Derived.Test.YtbhagfdkipgggaaDoorMB
namespace Go.Proofs.YtbhagfdkipgggaaDoor
open Go.RowKit Go.Shelf
attribute [local go_sem] Oper.semAt_some
theorem and_one (x : Nat) (h : x < 18446744073709551616) : bits .and .u64 (x : Int) 1 = ((x % 2 : Nat) : Int) := by
  have h1 := u64_and_nat x 1 h (by decide)
  rw [Nat.and_one_is_mod] at h1
  exact h1
theorem fresh_any (w : World) (s : Ses) (n : Int) (hs : s.Fits) :
    Calls Tryd.prog 25 #[sesV s, .int .i64 n] w fun e w' => e = .returned (.bool (freshP s n)) ∧ Below w.heap.size w w' := by
  obtain ⟨_, _, _, _, htop, hseen, _⟩ := hs
  obtain ⟨id, role, side, key, sent, top, seen⟩ := s
  dsimp only at htop hseen
  unfold sesV sesC freshP
  dsimp only
  by_cases h1 : n < 1
  · have d1 : decide (n < 1) = true := decide_eq_true h1
    have hf : decide (1 ≤ n ∧ n ≤ 4294967296) = false := decide_eq_false (by omega)
    rw [hf, Bool.false_and]
    clear hf
    go_enter Tryd.func25, Tryd.ntmps25
    go_wp2_with fail
    go_ret
    exact ⟨rfl, (Below.refl _ w).alloc (Nat.le_refl _) _⟩
  · have d1 : decide (n < 1) = false := decide_eq_false h1
    by_cases h2 : 4294967296 < n
    · have d2 : decide (4294967296 < n) = true := decide_eq_true h2
      have hf : decide (1 ≤ n ∧ n ≤ 4294967296) = false := decide_eq_false (by omega)
      rw [hf, Bool.false_and]
      clear hf
      go_enter Tryd.func25, Tryd.ntmps25
      go_wp2_with fail
      go_ret
      exact ⟨rfl, (Below.refl _ w).alloc (Nat.le_refl _) _⟩
    · have d2 : decide (4294967296 < n) = false := decide_eq_false h2
      have hf : decide (1 ≤ n ∧ n ≤ 4294967296) = true := decide_eq_true (by omega)
      rw [hf, Bool.true_and]
      clear hf
      by_cases h3 : top < n
      · have d3 : decide (top < n) = true := decide_eq_true h3
        rw [d3, Bool.true_or]
        go_enter Tryd.func25, Tryd.ntmps25
        go_wp2_with fail
        go_ret
        exact ⟨rfl, (Below.refl _ w).alloc (Nat.le_refl _) _⟩
      · have d3 : decide (top < n) = false := decide_eq_false h3
        rw [d3, Bool.false_or]
        obtain ⟨d, hd⟩ : ∃ d : Nat, top - n = (d : Int) := ⟨(top - n).toNat, by omega⟩
        have w1 : wrap64 (top - n) = (d : Int) := by rw [hd]; exact w64_is d (by omega)
        rw [hd, Int.toNat_natCast]
        by_cases h4 : d < 64
        · have d4 : decide ((d : Int) < 64) = true := decide_eq_true (by omega)
          rw [d4, Bool.true_and]
          have hq : seen / 2 ^ d < 18446744073709551616 := Nat.lt_of_le_of_lt (Nat.div_le_self _ _) hseen
          have a1 := and_one (seen / 2 ^ d) hq
          have a2 : (seen : Int) / 2 ^ d = ((seen / 2 ^ d : Nat) : Int) := int_div seen d
          have hb : (((seen / 2 ^ d % 2 : Nat) : Int) == 0) = !seenBit seen d := by
            unfold seenBit
            by_cases h : seen / 2 ^ d % 2 = 1
            · rw [h]; rfl
            · have h0 : seen / 2 ^ d % 2 = 0 := by omega
              rw [h0]; rfl
          rw [← hb]
          obtain ⟨q, hq2⟩ : ∃ q, seen / 2 ^ d = q := ⟨_, rfl⟩
          rw [hq2] at a1 a2 ⊢
          clear hb hq hq2
          go_enter Tryd.func25, Tryd.ntmps25
          go_wp2_with fail
          go_ret
          exact ⟨rfl, (Below.refl _ w).alloc (Nat.le_refl _) _⟩
        · have d4 : decide ((d : Int) < 64) = false := decide_eq_false (by omega)
          rw [d4, Bool.false_and]
          go_enter Tryd.func25, Tryd.ntmps25
          go_wp2_with fail
          go_ret
          exact ⟨rfl, (Below.refl _ w).alloc (Nat.le_refl _) _⟩
end Go.Proofs.YtbhagfdkipgggaaDoor
namespace Go.Proofs.YtbhagfdkipgggaaDoor
open Go.RowKit Go.Shelf
attribute [local go_sem] Oper.semAt_some
theorem validP_v1 (s : Ses) (h : ¬ (1 ≤ s.id ∧ s.id ≤ 64 ∧ 1 ≤ s.role ∧ s.role ≤ 3)) : validP s = false := by
  unfold validP
  rw [decide_eq_false h]
  simp
theorem validP_v2 (s : Ses) (h : ¬ ((s.side = 1 ∨ s.side = 2) ∧ s.key.size = 32)) : validP s = false := by
  unfold validP
  rw [decide_eq_false h]
  simp
theorem validP_v3 (s : Ses) (h : ¬ (0 ≤ s.sent ∧ s.sent ≤ 4294967296 ∧ 0 ≤ s.top ∧ s.top ≤ 4294967296)) : validP s = false := by
  unfold validP
  rw [decide_eq_false h]
  simp
theorem validP_last (s : Ses) (h1 : 1 ≤ s.id ∧ s.id ≤ 64 ∧ 1 ≤ s.role ∧ s.role ≤ 3) (h2 : (s.side = 1 ∨ s.side = 2) ∧ s.key.size = 32) (h3 : 0 ≤ s.sent ∧ s.sent ≤ 4294967296 ∧ 0 ≤ s.top ∧ s.top ≤ 4294967296) :
    validP s = (if s.top = 0 then decide (s.seen = 0) else (decide (64 ≤ s.top) || decide (s.seen / 2 ^ s.top.toNat = 0)) && decide (s.seen % 2 = 1)) := by
  unfold validP
  rw [decide_eq_true h1, decide_eq_true h2, decide_eq_true h3]
  rfl
theorem mod2_one (s : Nat) : (((s % 2 : Nat) : Int) == 1) = decide (s % 2 = 1) := by
  by_cases h : s % 2 = 1
  · rw [h]; rfl
  · have h0 : s % 2 = 0 := by omega
    rw [h0]; rfl
theorem nat_zero (s : Nat) : ((s : Int) == 0) = decide (s = 0) := by
  by_cases h : s = 0
  · rw [h]; rfl
  · rw [decide_eq_false h, beq_eq_false_iff_ne]
    omega
set_option maxHeartbeats 800000 in
theorem valid_any (w : World) (s : Ses) (hs : s.Fits) :
    Calls Tryd.prog 21 #[sesV s] w fun e w' => e = .returned (.bool (validP s)) ∧ Below w.heap.size w w' := by
  obtain ⟨_, _, _, _, _, hseen, _⟩ := hs
  obtain ⟨id, role, side, key, sent, top, seen⟩ := s
  dsimp only at hseen
  unfold sesV sesC
  dsimp only
  by_cases h0 : id < 1
  · have e0 : decide (id < 1) = true := decide_eq_true h0
    have hv : validP ⟨id, role, side, key, sent, top, seen⟩ = false := validP_v1 _ (by dsimp only; omega)
    rw [hv]
    clear hv
    go_enter Tryd.func21, Tryd.ntmps21
    go_wp2_with fail
    go_ret
    exact ⟨rfl, (Below.refl _ w).alloc (Nat.le_refl _) _⟩
  · have e0 : decide (id < 1) = false := decide_eq_false h0
    by_cases h1 : 64 < id
    · have e1 : decide (64 < id) = true := decide_eq_true h1
      have hv : validP ⟨id, role, side, key, sent, top, seen⟩ = false := validP_v1 _ (by dsimp only; omega)
      rw [hv]
      clear hv
      go_enter Tryd.func21, Tryd.ntmps21
      go_wp2_with fail
      go_ret
      exact ⟨rfl, (Below.refl _ w).alloc (Nat.le_refl _) _⟩
    · have e1 : decide (64 < id) = false := decide_eq_false h1
      by_cases h2 : role < 1
      · have e2 : decide (role < 1) = true := decide_eq_true h2
        have hv : validP ⟨id, role, side, key, sent, top, seen⟩ = false := validP_v1 _ (by dsimp only; omega)
        rw [hv]
        clear hv
        go_enter Tryd.func21, Tryd.ntmps21
        go_wp2_with fail
        go_ret
        exact ⟨rfl, (Below.refl _ w).alloc (Nat.le_refl _) _⟩
      · have e2 : decide (role < 1) = false := decide_eq_false h2
        by_cases h3 : 3 < role
        · have e3 : decide (3 < role) = true := decide_eq_true h3
          have hv : validP ⟨id, role, side, key, sent, top, seen⟩ = false := validP_v1 _ (by dsimp only; omega)
          rw [hv]
          clear hv
          go_enter Tryd.func21, Tryd.ntmps21
          go_wp2_with fail
          go_ret
          exact ⟨rfl, (Below.refl _ w).alloc (Nat.le_refl _) _⟩
        · have e3 : decide (3 < role) = false := decide_eq_false h3
          by_cases h4 : side ≠ 1 ∧ side ≠ 2
          · have e4 : (side != 1) = true := bne_iff_ne.2 h4.1
            have e4' : (side != 2) = true := bne_iff_ne.2 h4.2
            have hv : validP ⟨id, role, side, key, sent, top, seen⟩ = false := validP_v2 _ (by dsimp only; omega)
            rw [hv]
            clear hv
            go_enter Tryd.func21, Tryd.ntmps21
            go_wp2_with fail
            go_ret
            exact ⟨rfl, (Below.refl _ w).alloc (Nat.le_refl _) _⟩
          · rcases (show side = 1 ∨ side = 2 by omega) with rfl | rfl
            · clear h4
              by_cases h5 : key.size ≠ 32
              · have e5 : ((key.size : Int) != 32) = true := by rw [bne_iff_ne]; omega
                have hv : validP ⟨id, role, 1, key, sent, top, seen⟩ = false := validP_v2 _ (by dsimp only; omega)
                rw [hv]
                clear hv
                go_enter Tryd.func21, Tryd.ntmps21
                go_wp2_with fail
                go_ret
                exact ⟨rfl, (Below.refl _ w).alloc (Nat.le_refl _) _⟩
              · have e5 : ((key.size : Int) != 32) = false := by rw [bne_eq_false_iff_eq]; omega
                by_cases h6 : min sent top < 0
                · have e6 : decide (min sent top < 0) = true := decide_eq_true h6
                  have hv : validP ⟨id, role, 1, key, sent, top, seen⟩ = false := validP_v3 _ (by dsimp only; omega)
                  rw [hv]
                  clear hv
                  go_enter Tryd.func21, Tryd.ntmps21
                  go_wp2_with fail
                  go_ret
                  exact ⟨rfl, (Below.refl _ w).alloc (Nat.le_refl _) _⟩
                · have e6 : decide (min sent top < 0) = false := decide_eq_false h6
                  by_cases h7 : 4294967296 < max sent top
                  · have e7 : decide (4294967296 < max sent top) = true := decide_eq_true h7
                    have hv : validP ⟨id, role, 1, key, sent, top, seen⟩ = false := validP_v3 _ (by dsimp only; omega)
                    rw [hv]
                    clear hv
                    go_enter Tryd.func21, Tryd.ntmps21
                    go_wp2_with fail
                    go_ret
                    exact ⟨rfl, (Below.refl _ w).alloc (Nat.le_refl _) _⟩
                  · have e7 : decide (4294967296 < max sent top) = false := decide_eq_false h7
                    rw [validP_last _ (by dsimp only; omega) (by dsimp only; omega) (by dsimp only; omega)]
                    dsimp only
                    obtain ⟨t, rfl⟩ : ∃ t : Nat, top = (t : Int) := ⟨top.toNat, by omega⟩
                    rw [Int.toNat_natCast]
                    have hone := and_one seen hseen
                    have hb : (((seen % 2 : Nat) : Int) == 1) = decide (seen % 2 = 1) := mod2_one seen
                    by_cases h9 : t = 0
                    · have hz : ((seen : Int) == 0) = decide (seen = 0) := nat_zero seen
                      have e9 : ((t : Int) == 0) = true := by rw [h9]; rfl
                      rw [if_pos (by omega : (t : Int) = 0), ← hz]
                      clear hb hz h9
                      go_enter Tryd.func21, Tryd.ntmps21
                      go_wp2_with fail
                      go_ret
                      exact ⟨rfl, (Below.refl _ w).alloc (Nat.le_refl _) _⟩
                    · have e9 : ((t : Int) == 0) = false := by rw [beq_eq_false_iff_ne]; omega
                      rw [if_neg (by omega : ¬ (t : Int) = 0), ← hb]
                      by_cases h10 : t < 64
                      · have d10 : decide ((64 : Int) ≤ (t : Int)) = false := decide_eq_false (by omega)
                        have e10 : decide ((t : Int) < 64) = true := decide_eq_true (by omega)
                        have a2 : (seen : Int) / 2 ^ t = ((seen / 2 ^ t : Nat) : Int) := int_div seen t
                        rw [d10, Bool.false_or]
                        obtain ⟨q, hq⟩ : ∃ q, seen / 2 ^ t = q := ⟨_, rfl⟩
                        rw [hq] at a2 ⊢
                        by_cases h11 : q = 0
                        · have e11 : ((q : Int) != 0) = false := by rw [h11]; rfl
                          rw [decide_eq_true h11, Bool.true_and]
                          clear hb hq h11 h9 d10
                          go_enter Tryd.func21, Tryd.ntmps21
                          go_wp2_with fail
                          go_ret
                          exact ⟨rfl, (Below.refl _ w).alloc (Nat.le_refl _) _⟩
                        · have e11 : ((q : Int) != 0) = true := by rw [bne_iff_ne]; omega
                          rw [decide_eq_false h11, Bool.false_and]
                          clear hb hq h11 h9 d10 hone
                          go_enter Tryd.func21, Tryd.ntmps21
                          go_wp2_with fail
                          go_ret
                          exact ⟨rfl, (Below.refl _ w).alloc (Nat.le_refl _) _⟩
                      · have d10 : decide ((64 : Int) ≤ (t : Int)) = true := decide_eq_true (by omega)
                        have e10 : decide ((t : Int) < 64) = false := decide_eq_false (by omega)
                        rw [d10, Bool.true_or, Bool.true_and]
                        clear hb h9 d10
                        go_enter Tryd.func21, Tryd.ntmps21
                        go_wp2_with fail
                        go_ret
                        exact ⟨rfl, (Below.refl _ w).alloc (Nat.le_refl _) _⟩
            · clear h4
              by_cases h5 : key.size ≠ 32
              · have e5 : ((key.size : Int) != 32) = true := by rw [bne_iff_ne]; omega
                have hv : validP ⟨id, role, 2, key, sent, top, seen⟩ = false := validP_v2 _ (by dsimp only; omega)
                rw [hv]
                clear hv
                go_enter Tryd.func21, Tryd.ntmps21
                go_wp2_with fail
                go_ret
                exact ⟨rfl, (Below.refl _ w).alloc (Nat.le_refl _) _⟩
              · have e5 : ((key.size : Int) != 32) = false := by rw [bne_eq_false_iff_eq]; omega
                by_cases h6 : min sent top < 0
                · have e6 : decide (min sent top < 0) = true := decide_eq_true h6
                  have hv : validP ⟨id, role, 2, key, sent, top, seen⟩ = false := validP_v3 _ (by dsimp only; omega)
                  rw [hv]
                  clear hv
                  go_enter Tryd.func21, Tryd.ntmps21
                  go_wp2_with fail
                  go_ret
                  exact ⟨rfl, (Below.refl _ w).alloc (Nat.le_refl _) _⟩
                · have e6 : decide (min sent top < 0) = false := decide_eq_false h6
                  by_cases h7 : 4294967296 < max sent top
                  · have e7 : decide (4294967296 < max sent top) = true := decide_eq_true h7
                    have hv : validP ⟨id, role, 2, key, sent, top, seen⟩ = false := validP_v3 _ (by dsimp only; omega)
                    rw [hv]
                    clear hv
                    go_enter Tryd.func21, Tryd.ntmps21
                    go_wp2_with fail
                    go_ret
                    exact ⟨rfl, (Below.refl _ w).alloc (Nat.le_refl _) _⟩
                  · have e7 : decide (4294967296 < max sent top) = false := decide_eq_false h7
                    rw [validP_last _ (by dsimp only; omega) (by dsimp only; omega) (by dsimp only; omega)]
                    dsimp only
                    obtain ⟨t, rfl⟩ : ∃ t : Nat, top = (t : Int) := ⟨top.toNat, by omega⟩
                    rw [Int.toNat_natCast]
                    have hone := and_one seen hseen
                    have hb : (((seen % 2 : Nat) : Int) == 1) = decide (seen % 2 = 1) := mod2_one seen
                    by_cases h9 : t = 0
                    · have hz : ((seen : Int) == 0) = decide (seen = 0) := nat_zero seen
                      have e9 : ((t : Int) == 0) = true := by rw [h9]; rfl
                      rw [if_pos (by omega : (t : Int) = 0), ← hz]
                      clear hb hz h9
                      go_enter Tryd.func21, Tryd.ntmps21
                      go_wp2_with fail
                      go_ret
                      exact ⟨rfl, (Below.refl _ w).alloc (Nat.le_refl _) _⟩
                    · have e9 : ((t : Int) == 0) = false := by rw [beq_eq_false_iff_ne]; omega
                      rw [if_neg (by omega : ¬ (t : Int) = 0), ← hb]
                      by_cases h10 : t < 64
                      · have d10 : decide ((64 : Int) ≤ (t : Int)) = false := decide_eq_false (by omega)
                        have e10 : decide ((t : Int) < 64) = true := decide_eq_true (by omega)
                        have a2 : (seen : Int) / 2 ^ t = ((seen / 2 ^ t : Nat) : Int) := int_div seen t
                        rw [d10, Bool.false_or]
                        obtain ⟨q, hq⟩ : ∃ q, seen / 2 ^ t = q := ⟨_, rfl⟩
                        rw [hq] at a2 ⊢
                        by_cases h11 : q = 0
                        · have e11 : ((q : Int) != 0) = false := by rw [h11]; rfl
                          rw [decide_eq_true h11, Bool.true_and]
                          clear hb hq h11 h9 d10
                          go_enter Tryd.func21, Tryd.ntmps21
                          go_wp2_with fail
                          go_ret
                          exact ⟨rfl, (Below.refl _ w).alloc (Nat.le_refl _) _⟩
                        · have e11 : ((q : Int) != 0) = true := by rw [bne_iff_ne]; omega
                          rw [decide_eq_false h11, Bool.false_and]
                          clear hb hq h11 h9 d10 hone
                          go_enter Tryd.func21, Tryd.ntmps21
                          go_wp2_with fail
                          go_ret
                          exact ⟨rfl, (Below.refl _ w).alloc (Nat.le_refl _) _⟩
                      · have d10 : decide ((64 : Int) ≤ (t : Int)) = true := decide_eq_true (by omega)
                        have e10 : decide ((t : Int) < 64) = false := decide_eq_false (by omega)
                        rw [d10, Bool.true_or, Bool.true_and]
                        clear hb h9 d10
                        go_enter Tryd.func21, Tryd.ntmps21
                        go_wp2_with fail
                        go_ret
                        exact ⟨rfl, (Below.refl _ w).alloc (Nat.le_refl _) _⟩
end Go.Proofs.YtbhagfdkipgggaaDoor
namespace Go.Proofs.YtbhagfdkipgggaaDoor
open Go.RowKit Go.Shelf
attribute [local go_sem] Oper.semAt_some
theorem nats3 (w : World) (x y z : Nat) : NatsAt (w.alloc (.cells #[.int .i64 (x : Int), .int .i64 (y : Int), .int .i64 (z : Int)] 3)) w.heap.size 0 [x, y, z] := by
  refine ⟨by rw [World.size_alloc]; exact Nat.lt_succ_self _, fun i u hu => ?_⟩
  match i, hu with
  | 0, hu => cases hu; exact (Blk.new w 3 _).cell 0
  | 1, hu => cases hu; exact (Blk.new w 3 _).cell 1
  | 2, hu => cases hu; exact (Blk.new w 3 _).cell 2
theorem context_any (w : World) (a b c : Nat) (ha : a < 9223372036854775808) (hb : b < 9223372036854775808) (hc : c < 9223372036854775808) :
    Calls Tryd.prog 48 #[.int .i64 a, .int .i64 b, .int .i64 c] w fun e w' => e = .returned (.string (txt (intsL [a, b, c]))) ∧ Below w.heap.size w w' := by
  have HI : Hid (Calls Tryd.prog 63 #[.slice (some ⟨w.heap.size, 0, none⟩) 3 3] (w.alloc (.cells #[.int .i64 (a : Int), .int .i64 (b : Int), .int .i64 (c : Int)] 3)) fun e w' => ∃ v, e = .returned v ∧ (convert 65 9 v).run Tryd.prog w' = .ok (.string (txt (intsL [a, b, c]))) w' ∧ Below w.heap.size w w') := by
    have hB := (Below.refl w.heap.size w).alloc (Nat.le_refl _) (.cells #[.int .i64 (a : Int), .int .i64 (b : Int), .int .i64 (c : Int)] 3)
    refine (ints_any _ w.heap.size 0 3 3 [a, b, c] rfl (by decide) (by intro x hx; simp at hx; rcases hx with rfl | rfl | rfl <;> assumption) (nats3 w a b c)).mono ?_
    rintro e w' ⟨v, rfl, hR, hB2⟩
    exact ⟨v, rfl, conv_row hR, hB.trans (hB2.mono hB.size)⟩
  clear ha hb hc
  generalize hT : txt (intsL [a, b, c]) = T at *
  have hTH := Lib.hid hT
  clear hT
  go_enter Tryd.func48, Tryd.ntmps48
  go_wp2_with (first | (go_at_call 63; refine HI.out.mono ?_; rintro e w1 ⟨v, rfl, hcv, hB⟩; have HB1 := Lib.hid hB; clear hB) | fail)
  go_ret
  exact ⟨by first | rfl | (rw [hTH.out]; rfl), HB1.out⟩
end Go.Proofs.YtbhagfdkipgggaaDoor
namespace Go.Proofs.YtbhagfdkipgggaaDoor
open Go.RowKit Go.Shelf
attribute [local go_sem] Oper.semAt_some
theorem blk7_put {w : World} {g : Nat} {t : TypeId} {y0 y1 y2 y3 y4 y5 y6 : Value} (h : Blk w g t #[y0, y1, y2, y3, y4, y5, y6]) (x0 x1 x2 x3 x4 x5 x6 : Value) : Blk (((((((w.setCell ⟨g, 0, none⟩ x0).setCell ⟨g, 1, none⟩ x1).setCell ⟨g, 2, none⟩ x2).setCell ⟨g, 3, none⟩ x3).setCell ⟨g, 4, none⟩ x4).setCell ⟨g, 5, none⟩ x5).setCell ⟨g, 6, none⟩ x6) g t #[x0, x1, x2, x3, x4, x5, x6] := by
  have h1 := h.set_ 0 x0
  have h2 := h1.set_ 1 x1
  have h3 := h2.set_ 2 x2
  have h4 := h3.set_ 3 x3
  have h5 := h4.set_ 4 x4
  have h6 := h5.set_ 5 x5
  have h7 := h6.set_ 6 x6
  simpa only [List.setIfInBounds_toArray, List.set_cons_zero, List.set_cons_succ] using h7
theorem blk7_65 {w : World} {g : Nat} {t : TypeId} {x0 x1 x2 x3 x4 x5 x6 : Value} (h : Blk w g t #[x0, x1, x2, x3, x4, x5, x6]) (a b : Value) : Blk ((w.setCell ⟨g, 6, none⟩ a).setCell ⟨g, 5, none⟩ b) g t #[x0, x1, x2, x3, x4, b, a] := by
  have h1 := (h.set_ 6 a).set_ 5 b
  simpa only [List.setIfInBounds_toArray, List.set_cons_zero, List.set_cons_succ] using h1
theorem wrap_nat (x : Nat) : IntKind.u64.wrap (x : Int) = ((x % 18446744073709551616 : Nat) : Int) := by
  rw [IntKind.wrap_u64, Int.natCast_emod]
  rfl
theorem mark_val (seen : Nat) (n top : Int) (_hs : seen < 18446744073709551616) (h1 : 0 < n - top) (h2 : n - top < 18446744073709551616) :
    bits .or .u64 (IntKind.u64.wrap ((seen : Int) * 2 ^ min (IntKind.u64.wrap (n - IntKind.u64.wrap top)).toNat 64)) 1 = (((if n - top < 64 then (seen * 2 ^ (n - top).toNat % 18446744073709551616) ||| 1 else 1) : Nat) : Int) := by
  have e1 : IntKind.u64.wrap (n - IntKind.u64.wrap top) = n - top := by
    rw [IntKind.wrap_u64, IntKind.wrap_u64]
    omega
  rw [e1]
  obtain ⟨d, hd⟩ : ∃ d : Nat, n - top = (d : Int) := ⟨(n - top).toNat, by omega⟩
  rw [hd, Int.toNat_natCast]
  have e2 : ((seen : Int) * 2 ^ min d 64) = ((seen * 2 ^ min d 64 : Nat) : Int) := by
    rw [Int.natCast_mul, Int.natCast_pow]
    rfl
  rw [e2, wrap_nat]
  have h3 := u64_or_nat (seen * 2 ^ min d 64 % 18446744073709551616) 1 (Nat.mod_lt _ (by decide)) (by decide)
  refine h3.trans ?_
  by_cases h4 : d < 64
  · rw [if_pos (by omega : (d : Int) < 64), Nat.min_eq_left (by omega)]
  · rw [if_neg (by omega : ¬ (d : Int) < 64), Nat.min_eq_right (by omega)]
    have : seen * 2 ^ 64 % 18446744073709551616 = 0 := Nat.mul_mod_left seen 18446744073709551616
    rw [this]
    rfl
set_option maxHeartbeats 800000 in
theorem mark_any (w : World) (s : Ses) (n : Int) (hs : s.Fits) :
    Calls Tryd.prog 23 #[sesV s, .int .i64 n] w fun e w' => e = .returned (sesV (markP s n)) ∧ Below w.heap.size w w' := by
  have HF : Hid (∀ wx, Calls Tryd.prog 25 #[sesV s, .int .i64 n] wx fun e w' => e = .returned (.bool (freshP s n)) ∧ Below wx.heap.size wx w') := fun wx => fresh_any wx s n hs
  obtain ⟨_, _, _, _, htop, hseen, _⟩ := hs
  by_cases hf : freshP s n = true
  · have hm : markP s n = if s.top < n then { s with top := n, seen := if n - s.top < 64 then (s.seen * 2 ^ (n - s.top).toNat % 18446744073709551616) ||| 1 else 1 } else { s with seen := s.seen ||| 2 ^ (s.top - n).toNat } := by unfold markP; rw [if_pos hf]
    have hrange : 1 ≤ n ∧ n ≤ 4294967296 ∧ (s.top < n ∨ s.top - n < 64) := by
      unfold freshP at hf
      rw [Bool.and_eq_true, decide_eq_true_eq] at hf
      obtain ⟨⟨a1, a2⟩, a3⟩ := hf
      rw [Bool.or_eq_true, decide_eq_true_eq, Bool.and_eq_true, decide_eq_true_eq] at a3
      exact ⟨a1, a2, a3.imp id (fun h => h.1)⟩
    rw [hf] at HF
    rw [hm]
    clear hf hm
    obtain ⟨id, role, side, key, sent, top, seen⟩ := s
    unfold sesV sesC at HF ⊢
    dsimp only at HF htop hseen hrange ⊢
    by_cases ht : top < n
    · rw [if_pos ht]
      dsimp only
      have d1 : decide (top < n) = true := decide_eq_true ht
      have hval := mark_val seen n top hseen (by omega) (by omega)
      obtain ⟨X, hX⟩ : ∃ X : Nat, (if n - top < 64 then (seen * 2 ^ (n - top).toNat % 18446744073709551616) ||| 1 else 1) = X := ⟨_, rfl⟩
      rw [hX] at hval ⊢
      have hvalH := Lib.hid hval
      clear hX hval
      go_enter Tryd.func23, Tryd.ntmps23
      go_upto_region 6 with (first | (go_at_call 25; refine (HF.out _).mono ?_; rintro e w1 ⟨rfl, hB⟩; have hsb : Blk w1 w.heap.size 32 #[.int .i64 id, .int .i64 role, .int .i64 side, .string key, .int .i64 sent, .int .i64 top, .int .u64 (seen : Int)] := (((Blk.new w 32 #[.int .i64 id, .int .i64 role, .int .i64 side, .string key, .int .i64 sent, .int .i64 top, .int .u64 (seen : Int)]).alloc (.cells #[.int .i64 0, .int .i64 0, .int .i64 0, .string ⟨#[]⟩, .int .i64 0, .int .i64 0, .int .u64 0] 32)).below hB (by rw [World.size_alloc, World.size_alloc]; omega)); have hrb : Blk w1 (w.heap.size + 1) 32 #[.int .i64 0, .int .i64 0, .int .i64 0, .string ⟨#[]⟩, .int .i64 0, .int .i64 0, .int .u64 0] := ((blk_new2 w (.cells #[.int .i64 id, .int .i64 role, .int .i64 side, .string key, .int .i64 sent, .int .i64 top, .int .u64 (seen : Int)] 32) 32 #[.int .i64 0, .int .i64 0, .int .i64 0, .string ⟨#[]⟩, .int .i64 0, .int .i64 0, .int .u64 0]).below hB (by rw [World.size_alloc, World.size_alloc]; omega)); have HSB := Lib.hid hsb; have HRB := Lib.hid hrb; have c0 := hsb.cell 0; have z0 := hrb.cell 0; have g0 := hrb.frozen 0; have c1 := hsb.cell 1; have z1 := hrb.cell 1; have g1 := hrb.frozen 1; have c2 := hsb.cell 2; have z2 := hrb.cell 2; have g2 := hrb.frozen 2; have c3 := hsb.cell 3; have z3 := hrb.cell 3; have g3 := hrb.frozen 3; have c4 := hsb.cell 4; have z4 := hrb.cell 4; have g4 := hrb.frozen 4; have c5 := hsb.cell 5; have z5 := hrb.cell 5; have g5 := hrb.frozen 5; have c6 := hsb.cell 6; have z6 := hrb.cell 6; have g6 := hrb.frozen 6; have f5 := hsb.frozen 5; have f6 := hsb.frozen 6; have HB1 : Hid (Below w.heap.size w w1) := ((((Below.refl w.heap.size w).alloc (Nat.le_refl _) (.cells #[.int .i64 id, .int .i64 role, .int .i64 side, .string key, .int .i64 sent, .int .i64 top, .int .u64 (seen : Int)] 32)).alloc (by rw [World.size_alloc]; exact Nat.le_succ _) (.cells #[.int .i64 0, .int .i64 0, .int .i64 0, .string ⟨#[]⟩, .int .i64 0, .int .i64 0, .int .u64 0] 32)).trans (hB.mono (by rw [World.size_alloc, World.size_alloc]; omega))); clear hB hsb hrb) | fail)
      rw [hvalH.out]
      refine world_is (P := fun W => Code.wp _ _ _ _ W) (fun W2 hW2 => ?_)
      have hsb2 : Hid (Blk W2 w.heap.size 32 #[.int .i64 id, .int .i64 role, .int .i64 side, .string key, .int .i64 sent, .int .i64 n, .int .u64 (X : Int)]) := by unfold Hid; rw [← hW2]; exact blk7_65 HSB.out _ _
      have hrb2 : Hid (Blk W2 (w.heap.size + 1) 32 #[.int .i64 0, .int .i64 0, .int .i64 0, .string ⟨#[]⟩, .int .i64 0, .int .i64 0, .int .u64 0]) := by unfold Hid; rw [← hW2]; exact (HRB.out.other (by show w.heap.size + 1 ≠ w.heap.size; omega) _).other (by show w.heap.size + 1 ≠ w.heap.size; omega) _
      have hbel2 : Hid (Below w.heap.size w W2) := by unfold Hid; rw [← hW2]; exact (HB1.out.setCell (p := ⟨w.heap.size, 6, none⟩) (Nat.le_refl _) _).setCell (p := ⟨w.heap.size, 5, none⟩) (Nat.le_refl _) _
      clear hW2 hvalH c0 z0 g0 c1 z1 g1 c2 z2 g2 c3 z3 g3 c4 z4 g4 c5 z5 g5 c6 z6 g6 f5 f6 HSB HRB HB1 HF hrange
      have b0 := hsb2.out.cell 0
      have y0 := hrb2.out.cell 0
      have x0 := hrb2.out.frozen 0
      have b1 := hsb2.out.cell 1
      have y1 := hrb2.out.cell 1
      have x1 := hrb2.out.frozen 1
      have b2 := hsb2.out.cell 2
      have y2 := hrb2.out.cell 2
      have x2 := hrb2.out.frozen 2
      have b3 := hsb2.out.cell 3
      have y3 := hrb2.out.cell 3
      have x3 := hrb2.out.frozen 3
      have b4 := hsb2.out.cell 4
      have y4 := hrb2.out.cell 4
      have x4 := hrb2.out.frozen 4
      have b5 := hsb2.out.cell 5
      have y5 := hrb2.out.cell 5
      have x5 := hrb2.out.frozen 5
      have b6 := hsb2.out.cell 6
      have y6 := hrb2.out.cell 6
      have x6 := hrb2.out.frozen 6
      go_wp2_with fail
      have hL := blk7_put hrb2.out (.int .i64 id) (.int .i64 role) (.int .i64 side) (.string key) (.int .i64 sent) (.int .i64 n) (.int .u64 (X : Int))
      have hBL := (Below.setCell (p := ⟨w.heap.size + 1, 6, none⟩) (Below.setCell (p := ⟨w.heap.size + 1, 5, none⟩) (Below.setCell (p := ⟨w.heap.size + 1, 4, none⟩) (Below.setCell (p := ⟨w.heap.size + 1, 3, none⟩) (Below.setCell (p := ⟨w.heap.size + 1, 2, none⟩) (Below.setCell (p := ⟨w.heap.size + 1, 1, none⟩) (Below.setCell (p := ⟨w.heap.size + 1, 0, none⟩) hbel2.out (Nat.le_succ _) (.int .i64 id)) (Nat.le_succ _) (.int .i64 role)) (Nat.le_succ _) (.int .i64 side)) (Nat.le_succ _) (.string key)) (Nat.le_succ _) (.int .i64 sent)) (Nat.le_succ _) (.int .i64 n)) (Nat.le_succ _) (.int .u64 (X : Int)))
      exact bodyPost_ret (v := .agg #[.int .i64 id, .int .i64 role, .int .i64 side, .string key, .int .i64 sent, .int .i64 n, .int .u64 (X : Int)]) (results_c (P := Tryd.prog) rfl _ _ (w.heap.size + 1) 32 #[.int .i64 id, .int .i64 role, .int .i64 side, .string key, .int .i64 sent, .int .i64 n, .int .u64 (X : Int)] _ rfl hL Tryd.underlying32 rfl infoSes) rfl ⟨rfl, hBL⟩
    · rw [if_neg ht]
      dsimp only
      have d1 : decide (top < n) = false := decide_eq_false ht
      obtain ⟨d, hd⟩ : ∃ d : Nat, top - n = (d : Int) := ⟨(top - n).toNat, by omega⟩
      obtain ⟨X, hXd⟩ : ∃ X : Nat, seen ||| 2 ^ d = X := ⟨_, rfl⟩
      rw [show (top - n).toNat = d by rw [hd, Int.toNat_natCast], hXd]
      go_enter Tryd.func23, Tryd.ntmps23
      go_upto_region 1 with (first | (go_at_call 25; refine (HF.out _).mono ?_; rintro e w1 ⟨rfl, hB⟩; have hsb : Blk w1 w.heap.size 32 #[.int .i64 id, .int .i64 role, .int .i64 side, .string key, .int .i64 sent, .int .i64 top, .int .u64 (seen : Int)] := (((Blk.new w 32 #[.int .i64 id, .int .i64 role, .int .i64 side, .string key, .int .i64 sent, .int .i64 top, .int .u64 (seen : Int)]).alloc (.cells #[.int .i64 0, .int .i64 0, .int .i64 0, .string ⟨#[]⟩, .int .i64 0, .int .i64 0, .int .u64 0] 32)).below hB (by rw [World.size_alloc, World.size_alloc]; omega)); have hrb : Blk w1 (w.heap.size + 1) 32 #[.int .i64 0, .int .i64 0, .int .i64 0, .string ⟨#[]⟩, .int .i64 0, .int .i64 0, .int .u64 0] := ((blk_new2 w (.cells #[.int .i64 id, .int .i64 role, .int .i64 side, .string key, .int .i64 sent, .int .i64 top, .int .u64 (seen : Int)] 32) 32 #[.int .i64 0, .int .i64 0, .int .i64 0, .string ⟨#[]⟩, .int .i64 0, .int .i64 0, .int .u64 0]).below hB (by rw [World.size_alloc, World.size_alloc]; omega)); have HSB := Lib.hid hsb; have HRB := Lib.hid hrb; have c0 := hsb.cell 0; have z0 := hrb.cell 0; have g0 := hrb.frozen 0; have c1 := hsb.cell 1; have z1 := hrb.cell 1; have g1 := hrb.frozen 1; have c2 := hsb.cell 2; have z2 := hrb.cell 2; have g2 := hrb.frozen 2; have c3 := hsb.cell 3; have z3 := hrb.cell 3; have g3 := hrb.frozen 3; have c4 := hsb.cell 4; have z4 := hrb.cell 4; have g4 := hrb.frozen 4; have c5 := hsb.cell 5; have z5 := hrb.cell 5; have g5 := hrb.frozen 5; have c6 := hsb.cell 6; have z6 := hrb.cell 6; have g6 := hrb.frozen 6; have f5 := hsb.frozen 5; have f6 := hsb.frozen 6; have HB1 : Hid (Below w.heap.size w w1) := ((((Below.refl w.heap.size w).alloc (Nat.le_refl _) (.cells #[.int .i64 id, .int .i64 role, .int .i64 side, .string key, .int .i64 sent, .int .i64 top, .int .u64 (seen : Int)] 32)).alloc (by rw [World.size_alloc]; exact Nat.le_succ _) (.cells #[.int .i64 0, .int .i64 0, .int .i64 0, .string ⟨#[]⟩, .int .i64 0, .int .i64 0, .int .u64 0] 32)).trans (hB.mono (by rw [World.size_alloc, World.size_alloc]; omega))); clear hB hsb hrb) | fail)
      have y1 : IntKind.i64.wrap (top - n) = (d : Int) := by rw [hd]; exact i64_is d (by omega)
      have hd64 : d < 64 := by omega
      have y2 : IntKind.i64.wrap (d : Int) = (d : Int) := i64_is d (by omega)
      have hp : 2 ^ d < 18446744073709551616 := Nat.lt_of_lt_of_le (Nat.pow_lt_pow_right (by decide) hd64) (by decide)
      have y3 : IntKind.u64.wrap ((2 : Int) ^ d) = ((2 ^ d : Nat) : Int) := by
        rw [show ((2 : Int) ^ d) = ((2 ^ d : Nat) : Int) by rw [Int.natCast_pow]; rfl]
        exact u64_is _ hp
      have y4 := u64_or_nat seen (2 ^ d) hseen hp
      rw [hXd] at y4
      clear hp
      refine wp_region_last (S := (fun w' => w'.cell? ⟨w.heap.size, 5, none⟩ = some (.int .i64 top) ∧ w'.cell? ⟨w.heap.size, 6, none⟩ = some (.int .u64 (seen : Int)))) 9 (by kernel_rfl) ⟨c5, c6⟩ (fun hHeld => ?_)
      refine' wpAnyK_take (i := 0) (v := ?v0A) rfl (by kernel_rfl) (by kernel_rfl) (by kernel_rfl) (by kernel_rfl) (by kernel_rfl) (fun _ _ _ h => h) (Or.inl ⟨by rfl, ?hy0A⟩) hHeld ?rest0A
      case hy0A => intro w hSw; (try dsimp only at hSw); go_simp; all_goals with_reducible rfl
      try simp only [sA, gA]
      refine' wpAnyK_take (i := 1) (v := ?v1A) rfl (by kernel_rfl) (by kernel_rfl) (by kernel_rfl) (by kernel_rfl) (by kernel_rfl) (fun _ _ _ h => h) (Or.inl ⟨by rfl, ?hy1A⟩) hHeld ?rest1A
      case hy1A => intro w hSw; (try dsimp only at hSw); go_simp; all_goals with_reducible rfl
      try simp only [sA, gA]
      refine' wpAnyK_take (i := 2) (v := ?v2A) rfl (by kernel_rfl) (by kernel_rfl) (by kernel_rfl) (by kernel_rfl) (by kernel_rfl) (fun _ _ _ h => h) (Or.inl ⟨by rfl, ?hy2A⟩) hHeld ?rest2A
      case hy2A => intro w hSw; (try dsimp only at hSw); go_simp; all_goals with_reducible rfl
      try simp only [sA, gA]
      refine' wpAnyK_take (i := 3) (v := ?v3A) rfl (by kernel_rfl) (by kernel_rfl) (by kernel_rfl) (by kernel_rfl) (by kernel_rfl) (fun _ _ _ h => h) (Or.inl ⟨by rfl, ?hy3A⟩) hHeld ?rest3A
      case hy3A => intro w hSw; (try dsimp only at hSw); go_simp; all_goals with_reducible rfl
      try simp only [sA, gA]
      refine' wpAnyK_take (i := 4) (v := ?v4A) rfl (by kernel_rfl) (by kernel_rfl) (by kernel_rfl) (by kernel_rfl) (by kernel_rfl) (fun _ _ _ h => h) (Or.inl ⟨by rfl, ?hy4A⟩) hHeld ?rest4A
      case hy4A => intro w hSw; (try dsimp only at hSw); go_simp; all_goals with_reducible rfl
      try simp only [sA, gA]
      refine' wpAnyK_take (i := 5) (v := ?v5A) rfl (by kernel_rfl) (by kernel_rfl) (by kernel_rfl) (by kernel_rfl) (by kernel_rfl) (fun _ _ _ h => h) (Or.inl ⟨by rfl, ?hy5A⟩) hHeld ?rest5A
      case hy5A => intro w hSw; (try dsimp only at hSw); go_simp; all_goals with_reducible rfl
      try simp only [sA, gA]
      refine' wpAnyK_take (i := 6) (v := ?v6A) rfl (by kernel_rfl) (by kernel_rfl) (by kernel_rfl) (by kernel_rfl) (by kernel_rfl) (fun _ _ _ h => h) (Or.inl ⟨by rfl, ?hy6A⟩) hHeld ?rest6A
      case hy6A => intro w hSw; (try dsimp only at hSw); go_simp; all_goals with_reducible rfl
      try simp only [sA, gA]
      refine' wpAnyK_take (i := 7) (v := ?v7A) rfl (by kernel_rfl) (by kernel_rfl) (by kernel_rfl) (by kernel_rfl) (by kernel_rfl) (fun _ _ _ h => h) (Or.inl ⟨by rfl, ?hy7A⟩) hHeld ?rest7A
      case hy7A => intro w hSw; (try dsimp only at hSw); go_simp; all_goals with_reducible rfl
      try simp only [sA, gA]
      refine' wpAnyK_take (i := 8) (v := ?v8A) rfl (by kernel_rfl) (by kernel_rfl) (by kernel_rfl) (by kernel_rfl) (by kernel_rfl) (fun _ _ _ h => h) (Or.inl ⟨by rfl, ?hy8A⟩) hHeld ?rest8A
      case hy8A => intro w hSw; (try dsimp only at hSw); go_simp; all_goals with_reducible rfl
      try simp only [sA, gA]
      refine wpAnyK_ready (rs := [9]) (by kernel_rfl) (by simp) ?_
      refine AllReadyK.last rfl (fun K hK => ?_)
      go_simp
      refine hK.out _ _ ?_
      clear hK K
      try simp only [sA, gA]
      refine wpAnyK_done (by kernel_rfl) ?_ _
      clear hHeld
      go_wp2_with fail
      have y5 : bits .or .u64 (seen : Int) ((2 : Int) ^ d) = (X : Int) := by
        rw [← y4, Int.natCast_pow]
        rfl
      rw [y5]
      have hL := (blk7_put (HRB.out.other (a := ⟨w.heap.size, 6, none⟩) (by show w.heap.size + 1 ≠ w.heap.size; omega) (.int .u64 (X : Int))) (.int .i64 id) (.int .i64 role) (.int .i64 side) (.string key) (.int .i64 sent) (.int .i64 top) (.int .u64 (X : Int))).drew
      have hBL := (Below.setCell (p := ⟨w.heap.size + 1, 6, none⟩) (Below.setCell (p := ⟨w.heap.size + 1, 5, none⟩) (Below.setCell (p := ⟨w.heap.size + 1, 4, none⟩) (Below.setCell (p := ⟨w.heap.size + 1, 3, none⟩) (Below.setCell (p := ⟨w.heap.size + 1, 2, none⟩) (Below.setCell (p := ⟨w.heap.size + 1, 1, none⟩) (Below.setCell (p := ⟨w.heap.size + 1, 0, none⟩) (Below.setCell (p := ⟨w.heap.size, 6, none⟩) HB1.out (Nat.le_refl _) (.int .u64 (X : Int))) (Nat.le_succ _) (.int .i64 id)) (Nat.le_succ _) (.int .i64 role)) (Nat.le_succ _) (.int .i64 side)) (Nat.le_succ _) (.string key)) (Nat.le_succ _) (.int .i64 sent)) (Nat.le_succ _) (.int .i64 top)) (Nat.le_succ _) (.int .u64 (X : Int))).drew
      exact bodyPost_ret (v := .agg #[.int .i64 id, .int .i64 role, .int .i64 side, .string key, .int .i64 sent, .int .i64 top, .int .u64 (X : Int)]) (results_c (P := Tryd.prog) rfl _ _ (w.heap.size + 1) 32 #[.int .i64 id, .int .i64 role, .int .i64 side, .string key, .int .i64 sent, .int .i64 top, .int .u64 (X : Int)] _ rfl hL Tryd.underlying32 rfl infoSes) rfl ⟨rfl, hBL⟩
  · have hf2 : freshP s n = false := by simpa using hf
    have hm : markP s n = s := by unfold markP; rw [if_neg hf]
    rw [hf2] at HF
    rw [hm]
    clear hf hf2 hm
    obtain ⟨id, role, side, key, sent, top, seen⟩ := s
    unfold sesV sesC at HF ⊢
    dsimp only at HF ⊢
    go_enter Tryd.func23, Tryd.ntmps23
    go_wp2_with (first | (go_at_call 25; refine (HF.out _).mono ?_; rintro e w1 ⟨rfl, hB⟩; have hsb : Blk w1 w.heap.size 32 #[.int .i64 id, .int .i64 role, .int .i64 side, .string key, .int .i64 sent, .int .i64 top, .int .u64 (seen : Int)] := (((Blk.new w 32 #[.int .i64 id, .int .i64 role, .int .i64 side, .string key, .int .i64 sent, .int .i64 top, .int .u64 (seen : Int)]).alloc (.cells #[.int .i64 0, .int .i64 0, .int .i64 0, .string ⟨#[]⟩, .int .i64 0, .int .i64 0, .int .u64 0] 32)).below hB (by rw [World.size_alloc, World.size_alloc]; omega)); have hrb : Blk w1 (w.heap.size + 1) 32 #[.int .i64 0, .int .i64 0, .int .i64 0, .string ⟨#[]⟩, .int .i64 0, .int .i64 0, .int .u64 0] := ((blk_new2 w (.cells #[.int .i64 id, .int .i64 role, .int .i64 side, .string key, .int .i64 sent, .int .i64 top, .int .u64 (seen : Int)] 32) 32 #[.int .i64 0, .int .i64 0, .int .i64 0, .string ⟨#[]⟩, .int .i64 0, .int .i64 0, .int .u64 0]).below hB (by rw [World.size_alloc, World.size_alloc]; omega)); have HSB := Lib.hid hsb; have HRB := Lib.hid hrb; have c0 := hsb.cell 0; have z0 := hrb.cell 0; have g0 := hrb.frozen 0; have c1 := hsb.cell 1; have z1 := hrb.cell 1; have g1 := hrb.frozen 1; have c2 := hsb.cell 2; have z2 := hrb.cell 2; have g2 := hrb.frozen 2; have c3 := hsb.cell 3; have z3 := hrb.cell 3; have g3 := hrb.frozen 3; have c4 := hsb.cell 4; have z4 := hrb.cell 4; have g4 := hrb.frozen 4; have c5 := hsb.cell 5; have z5 := hrb.cell 5; have g5 := hrb.frozen 5; have c6 := hsb.cell 6; have z6 := hrb.cell 6; have g6 := hrb.frozen 6; have f5 := hsb.frozen 5; have f6 := hsb.frozen 6; have HB1 : Hid (Below w.heap.size w w1) := ((((Below.refl w.heap.size w).alloc (Nat.le_refl _) (.cells #[.int .i64 id, .int .i64 role, .int .i64 side, .string key, .int .i64 sent, .int .i64 top, .int .u64 (seen : Int)] 32)).alloc (by rw [World.size_alloc]; exact Nat.le_succ _) (.cells #[.int .i64 0, .int .i64 0, .int .i64 0, .string ⟨#[]⟩, .int .i64 0, .int .i64 0, .int .u64 0] 32)).trans (hB.mono (by rw [World.size_alloc, World.size_alloc]; omega))); clear hB hsb hrb) | fail)
    have hL := blk7_put HRB.out (.int .i64 id) (.int .i64 role) (.int .i64 side) (.string key) (.int .i64 sent) (.int .i64 top) (.int .u64 (seen : Int))
    have hBL := (Below.setCell (p := ⟨w.heap.size + 1, 6, none⟩) (Below.setCell (p := ⟨w.heap.size + 1, 5, none⟩) (Below.setCell (p := ⟨w.heap.size + 1, 4, none⟩) (Below.setCell (p := ⟨w.heap.size + 1, 3, none⟩) (Below.setCell (p := ⟨w.heap.size + 1, 2, none⟩) (Below.setCell (p := ⟨w.heap.size + 1, 1, none⟩) (Below.setCell (p := ⟨w.heap.size + 1, 0, none⟩) HB1.out (Nat.le_succ _) (.int .i64 id)) (Nat.le_succ _) (.int .i64 role)) (Nat.le_succ _) (.int .i64 side)) (Nat.le_succ _) (.string key)) (Nat.le_succ _) (.int .i64 sent)) (Nat.le_succ _) (.int .i64 top)) (Nat.le_succ _) (.int .u64 (seen : Int)))
    exact bodyPost_ret (v := .agg #[.int .i64 id, .int .i64 role, .int .i64 side, .string key, .int .i64 sent, .int .i64 top, .int .u64 (seen : Int)]) (results_c (P := Tryd.prog) rfl _ _ (w.heap.size + 1) 32 #[.int .i64 id, .int .i64 role, .int .i64 side, .string key, .int .i64 sent, .int .i64 top, .int .u64 (seen : Int)] _ rfl hL Tryd.underlying32 rfl infoSes) rfl ⟨rfl, hBL⟩
end Go.Proofs.YtbhagfdkipgggaaDoor
namespace Go.Proofs.YtbhagfdkipgggaaDoor
/-- The context of a message. -/
def ctxP (a b c : Int) : ByteArray := txt (intsL [a.toNat, b.toNat, c.toNat])
theorem ctxP_size (a b c : Int) : (ctxP a b c).size ≤ 1000000 := by
  unfold ctxP intsL
  rw [txt_size]
  have h1 := intL_le a.toNat
  have h2 := intL_le b.toNat
  have h3 := intL_le c.toNat
  have h4 := intL_le [a.toNat, b.toNat, c.toNat].length
  simp only [List.length_append, List.flatMap_cons, List.flatMap_nil, List.length_nil]
  omega
def sealP (s : Ses) (t : ByteArray) : ByteArray := txt (sealL (bl s.key) (bl (ctxP s.id s.side (s.sent + 1))) (bl t))
/-- Send, for a text that is not too long. -/
def sendP (s : Ses) (t : ByteArray) : Ses × Msg × Nat :=
  if validP s then if s.sent = 4294967296 then (noSes, noMsg, 22)
    else ({ s with sent := s.sent + 1 }, ⟨s.id, s.sent + 1, sealP s t⟩, 0)
  else (noSes, noMsg, 1)
def openP (s : Ses) (m : Msg) : List UInt8 × Nat := openL (bl s.key) (bl (ctxP s.id (3 - s.side) m.num)) (bl m.text)
/-- Receive. -/
def receiveP (s : Ses) (m : Msg) : Ses × ByteArray × Nat :=
  if validP s then
    if m.sess = s.id then
      if freshP s m.num then
        if (openP s m).2 = 0 then (markP s m.num, txt (openP s m).1, 0) else (noSes, noT, (openP s m).2)
      else (noSes, noT, 17)
    else (noSes, noT, 11)
  else (noSes, noT, 1)
theorem valid_parts {s : Ses} (h : validP s = true) : 1 ≤ s.id ∧ s.id ≤ 64 ∧ 1 ≤ s.role ∧ s.role ≤ 3 ∧ (s.side = 1 ∨ s.side = 2) ∧ s.key.size = 32 ∧ 0 ≤ s.sent ∧ s.sent ≤ 4294967296 ∧ 0 ≤ s.top ∧ s.top ≤ 4294967296 := by
  unfold validP at h
  simp only [Bool.and_eq_true, decide_eq_true_eq] at h
  obtain ⟨⟨⟨⟨a, b, c, d⟩, e, f⟩, g, i, j, k⟩, _⟩ := h
  exact ⟨a, b, c, d, e, f, g, i, j, k⟩
theorem fresh_parts {s : Ses} {n : Int} (h : freshP s n = true) : 1 ≤ n ∧ n ≤ 4294967296 := by
  unfold freshP at h
  rw [Bool.and_eq_true, decide_eq_true_eq] at h
  exact h.1
end Go.Proofs.YtbhagfdkipgggaaDoor
