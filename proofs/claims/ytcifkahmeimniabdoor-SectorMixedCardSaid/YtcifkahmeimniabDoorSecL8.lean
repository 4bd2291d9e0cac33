/-
  Layer 24 (sector): SectorMixed, every input.
-/
import Derived.Test.YtcifkahmeimniabDoorSecL7
namespace Go.Proofs.YtcifkahmeimniabDoor
open Go.RowKit Go.Shelf
attribute [local go_sem] Oper.semAt_some
section
variable {W : World}
set_option maxRecDepth 100000 in
set_option maxHeartbeats 4000000 in
theorem l24mixed_far (a b : Int) (x y : ByteArray) {v : Value} {cs : List Int} (hv : IntsAt W v cs) (hbad : 2000 < x.size ∨ 2000 < y.size ∨ 60 < cs.length ∨ a = b) :
    Calls Tryd.prog 8 #[.int .i64 a, .string x, .int .i64 b, .string y, v] W fun e w' => e = .returned (.bool true) ∧ Below W.heap.size W w' := by
  obtain ⟨Ac, cc, rfl, hcc, hcm, hcat⟩ := hv
  clear hcat hcc hcm
  have hall : (decide (2000 < (x.size : Int)) = true) ∨ (decide (2000 < (x.size : Int)) = false ∧ decide (2000 < (y.size : Int)) = true) ∨ (decide (2000 < (x.size : Int)) = false ∧ decide (2000 < (y.size : Int)) = false ∧ 60 < cs.length) ∨
      (decide (2000 < (x.size : Int)) = false ∧ decide (2000 < (y.size : Int)) = false ∧ ¬ 60 < cs.length ∧ a = b) := by
    by_cases h1 : 2000 < x.size
    · exact .inl (decide_eq_true (by omega))
    · by_cases h2 : 2000 < y.size
      · exact .inr (.inl ⟨decide_eq_false (by omega), decide_eq_true (by omega)⟩)
      · by_cases h3 : 60 < cs.length
        · exact .inr (.inr (.inl ⟨decide_eq_false (by omega), decide_eq_false (by omega), h3⟩))
        · exact .inr (.inr (.inr ⟨decide_eq_false (by omega), decide_eq_false (by omega), h3, by omega⟩))
  clear hbad
  rcases hall with d1 | ⟨d1, d2⟩ | ⟨d1, d2, d3⟩ | ⟨d1, d2, d3, rfl⟩
  all_goals
    go_enter Tryd.func8, Tryd.ntmps8
    go_wp2_with (first | (go_at_call 9; refine (sanity_true _).mono ?_; rintro e w5 ⟨rfl, hB5⟩))
    go_ret
    exact ⟨rfl, hB5⟩
set_option maxRecDepth 100000 in
set_option maxHeartbeats 4000000 in
theorem l24mixed_bad (a b : Int) (x y : ByteArray) {v : Value} {cs : List Int} (hv : IntsAt W v cs) (hx : x.size ≤ 2000) (hy : y.size ≤ 2000) (hcs : cs.length ≤ 60) (hab : a ≠ b) (l m : List ByteArray) (e f : Int) (h1 : packE a x = (l, e)) (h2 : packE b y = (m, f)) (hbad : e ≠ 0 ∨ e = 0 ∧ f ≠ 0) :
    Calls Tryd.prog 8 #[.int .i64 a, .string x, .int .i64 b, .string y, v] W fun e w' => e = .returned (.bool true) ∧ Below W.heap.size W w' := by
  obtain ⟨Ac, cc, rfl, hcc, hcm, hcat⟩ := hv
  clear hcat hcc hcm
  have HP := fun w => Lib.hid (pack_any w a x)
  have HQ := fun w => Lib.hid (pack_any w b y)
  rw [h1] at HP
  rw [h2] at HQ
  dsimp only at HP HQ
  have d1 : decide (2000 < (x.size : Int)) = false := decide_eq_false (by omega)
  have d2 : decide (2000 < (y.size : Int)) = false := decide_eq_false (by omega)
  have d3 : ¬ 60 < cs.length := by omega
  have d4 : (a == b) = false := beq_f hab
  clear h1 h2 hab
  rcases hbad with h | ⟨rfl, h⟩
  all_goals
    have h' := bne_t h
    clear h
    go_enter Tryd.func8, Tryd.ntmps8
    go_wp2_with (first
      | (go_at_call_of 10 x; refine (HP _).out.mono ?_; rintro e w1 ⟨v1, rfl, hT1⟩; have hB1 := hT1.2.2; clear hT1 HP)
      | (go_at_call_of 10 y; refine (HQ _).out.mono ?_; rintro e w2 ⟨v2, rfl, hT2⟩; have hB2 := hT2.2.2; clear hT2 HQ)
      | (go_at_call 9; refine (sanity_true _).mono ?_; rintro e w5 ⟨rfl, hB5⟩))
    go_ret
    exact ⟨rfl, bel_trans hB1 (bel_trans hB2 hB5)⟩
theorem l24mixed_any (a b : Int) (x y : ByteArray) {v : Value} {cs : List Int} (hv : IntsAt W v cs) :
    Calls Tryd.prog 8 #[.int .i64 a, .string x, .int .i64 b, .string y, v] W fun e w' => e = .returned (.bool true) ∧ Below W.heap.size W w' := by
  by_cases hb : 2000 < x.size ∨ 2000 < y.size ∨ 60 < cs.length ∨ a = b
  · exact l24mixed_far a b x y hv hb
  · obtain ⟨l, hl⟩ : ∃ L, packE a x = L := ⟨_, rfl⟩
    obtain ⟨m, hm⟩ : ∃ L, packE b y = L := ⟨_, rfl⟩
    obtain ⟨l, e⟩ := l
    obtain ⟨m, f⟩ := m
    have hx : x.size ≤ 2000 := Nat.not_lt.1 fun h => hb (.inl h)
    have hy : y.size ≤ 2000 := Nat.not_lt.1 fun h => hb (.inr (.inl h))
    have hc : cs.length ≤ 60 := Nat.not_lt.1 fun h => hb (.inr (.inr (.inl h)))
    have hab : a ≠ b := fun h => hb (.inr (.inr (.inr h)))
    by_cases he : e = 0
    · by_cases hf : f = 0
      · subst he; subst hf
        exact l24mixed_in a b x y hv hx hy hc hab l m hl hm
      · exact l24mixed_bad a b x y hv hx hy hc hab l m e f hl hm (.inr ⟨he, hf⟩)
    · exact l24mixed_bad a b x y hv hx hy hc hab l m e f hl hm (.inl he)
end
end Go.Proofs.YtcifkahmeimniabDoor
