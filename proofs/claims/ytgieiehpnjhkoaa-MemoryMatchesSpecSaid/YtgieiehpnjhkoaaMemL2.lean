/-
  Layer 22 (memory): MemoryMatchesSpec, the walk.
-/
import Derived.Test.YtgieiehpnjhkoaaMemL1
import Derived.Deep.RegionHeld3
namespace Go.Proofs.Ytgieiehpnjhkoaa
open Go.RowKit Go.Shelf
attribute [local go_sem] Oper.semAt_some

section
variable {W : World}
set_option maxRecDepth 100000 in
set_option maxHeartbeats 4000000 in
theorem matches_far (n : Int) (A : Option Addr) (N c : Nat) (h : 64 < n ∨ 60 < N) :
    Calls Try.prog 3 #[.int .i64 n, .slice A N c] W fun e w' => e = .returned (.bool true) ∧ Below W.heap.size W w' := by
  have HN := fun w2 => Lib.hid (New_bad w2 (max n 4097) (by omega))
  by_cases h1 : 64 < n
  · clear h
    go_enter Try.func3, Try.ntmps3
    go_wp2_with (first | (go_at_call 9; refine (HN _).out.mono ?_; rintro e w1 ⟨rfl, rfl⟩) | (go_at_call 10; refine (sanity_true _).mono ?_; rintro e w1 ⟨rfl, hB⟩))
    go_ret
    exact ⟨rfl, hB⟩
  · have h2 : decide (60 < (N : Int)) = true := decide_eq_true (by omega)
    clear h
    go_enter Try.func3, Try.ntmps3
    go_wp2_with (first | (go_at_call 9; refine (HN _).out.mono ?_; rintro e w1 ⟨rfl, rfl⟩) | (go_at_call 10; refine (sanity_true _).mono ?_; rintro e w1 ⟨rfl, hB⟩))
    go_ret
    exact ⟨rfl, hB⟩
set_option maxRecDepth 100000 in
set_option maxHeartbeats 4000000 in
theorem matches_none (n : Int) (A : Option Addr) (N c : Nat) (h : n < 1) (hN : N ≤ 60) :
    Calls Try.prog 3 #[.int .i64 n, .slice A N c] W fun e w' => e = .returned (.bool true) ∧ Below W.heap.size W w' := by
  have HR := fun w2 => Lib.hid (rNew_bad w2 n (.inl h))
  have HP := Lib.hid (players_bad W n (.inl h))
  have h1 : decide (64 < n) = false := decide_eq_false (by omega)
  have h2 : decide (60 < (N : Int)) = false := decide_eq_false (by omega)
  clear h hN
  go_enter Try.func3, Try.ntmps3
  go_wp2_with (first | (go_at_call 11; refine HP.out.mono ?_; rintro e w1 ⟨rfl, hA⟩; have kA := Lib.hid hA; clear hA) | (go_at_call 12; refine (HR _).out.mono ?_; rintro e w2 ⟨rfl, rfl⟩) | (go_at_call 10; refine (sanity_true _).mono ?_; rintro e w3 ⟨rfl, hB⟩; have kB := Lib.hid (kA.out.trans (hB.mono kA.out.size)); clear hB))
  go_ret
  exact ⟨rfl, kB.out⟩
set_option maxRecDepth 100000 in
set_option maxHeartbeats 4000000 in
theorem matches_loop (n : Nat) (v : Value) (ops : List PlainOp) (hv : OpsAt W v ops) (hn1 : 1 ≤ n) (hn : n ≤ 64) (hN : ops.length ≤ 60) :
    Calls Try.prog 3 #[.int .i64 n, v] W fun e w' => e = .returned (.bool true) ∧ Below W.heap.size W w' := by
  obtain ⟨A, c, rfl, hA⟩ := hv
  have HP := Lib.hid (duo_start (W := W) hn1 hn)
  have h1 : decide (64 < (n : Int)) = false := decide_eq_false (by omega)
  have h2 : decide (60 < (ops.length : Int)) = false := decide_eq_false (by omega)
  have HA := Lib.hid hA
  have Hn := Lib.hid (And.intro hn1 (And.intro hn hN))
  clear hA hn1 hn hN
  go_enter Try.func3, Try.ntmps3
  go_wp2_with (first | (go_at_call 11; refine HP.out.mono ?_; rintro e w1 ⟨p, r, b, g, rb, rg, rfl, hl, hd⟩))
  have hd0 : Hid (Duo W w1 p b g r rb rg (upTo n ops 0) (upTo n ops 0)) := hd
  clear hd HP
  go_loopw [52] (fun a wr => ∃ k : Nat, k ≤ ops.length ∧ a = .int .i64 k ∧ Hid (Duo W wr p b g r rb rg (upTo n ops k) (upTo n ops k))) (fun a _ => ops.length - (intOf a).toNat)
  case atStart => exact ⟨0, Nat.zero_le _, rfl, hd0⟩
  case round =>
    obtain ⟨k, hk, rfl, hd⟩ := hrel
    by_cases hkl : k < ops.length
    · obtain ⟨o, ho⟩ : ∃ o, ops[k]? = some o := ⟨_, List.getElem?_eq_getElem hkl⟩
      obtain ⟨B, off, rfl, hbl, hat⟩ := HA.out (by omega)
      obtain ⟨A1, n1, cc, c0, c1, c2, c3, c4, hok⟩ := (hat k o ho).below hbl hd.out.bel
      have Hs := Lib.hid (upTo_sound n ops k hk)
      obtain ⟨er, t, het⟩ : ∃ er t, step o (upTo n ops k) = (er, t) := ⟨_, _, rfl⟩
      have Ht := Lib.hid het
      have Ho := Lib.hid ho
      have Hok := Lib.hid hok
      have Hkk : Hid (upTo n ops (k + 1) = t) := by unfold Hid; rw [upTo_succ n ops k o ho, het]
      have hN := Hn.out.2.2
      clear hat hok het ho hd0
      go_wp2_with fail
      have hop0 : Blk (wr.alloc (.cells #[.int .i64 o.kind, .int .i64 o.i, .int .u8 o.fill, .int .i64 o.size, .slice A1 n1 cc] 37)) wr.heap.size 37 #[.int .i64 o.kind, .int .i64 o.i, .int .u8 o.fill, .int .i64 o.size, .slice A1 n1 cc] := Blk.new wr _ _
      have hdu : Hid (Duo W (wr.alloc (.cells #[.int .i64 o.kind, .int .i64 o.i, .int .u8 o.fill, .int .i64 o.size, .slice A1 n1 cc] 37)) p b g r rb rg (upTo n ops k) (upTo n ops k)) := hd.out.on ((Below.refl _ _).alloc (Nat.le_refl _) _)
      generalize (wr.alloc (.cells #[.int .i64 o.kind, .int .i64 o.i, .int .u8 o.fill, .int .i64 o.size, .slice A1 n1 cc] 37)) = w0 at hop0 hdu ⊢
      have hdd : Hid (Duo W w0.drew p b g r rb rg (upTo n ops k) (upTo n ops k)) := hdu.out.on (Below.refl _ w0).drew
      have Hop := Lib.hid hop0.drew
      obtain ⟨p0, p1, p2, p3, p4⟩ := op_blk hop0
      have z1 := hdd.out.c1
      have z2 := hdd.out.c2
      clear hop0 hdu hd c0 c1 c2 c3 c4
      go_region_held3 (fun w' => w'.cell? ⟨wr.heap.size, 0, none⟩ = some (.int .i64 o.kind) ∧ w'.cell? ⟨wr.heap.size, 1, none⟩ = some (.int .i64 o.i) ∧ w'.cell? ⟨wr.heap.size, 2, none⟩ = some (.int .u8 o.fill) ∧ w'.cell? ⟨wr.heap.size, 3, none⟩ = some (.int .i64 o.size) ∧ w'.cell? ⟨wr.heap.size, 4, none⟩ = some (.slice A1 n1 cc) ∧ w'.cell? ⟨p, 0, none⟩ = some (.pointer (some ⟨b, 0, none⟩)) ∧ w'.cell? ⟨r, 0, none⟩ = some (.pointer (some ⟨rb, 0, none⟩))) (go_keep)
        (first
        | (go_at_call 13; refine (duo_play1 hl.out hdd.out Hs.out Hn.out.2.1 (by have := Hn.out.2.2; omega) o _ Hok.out Ht.out).mono ?_; rintro e w2 ⟨rfl, h1, hop⟩; have hop1 := Lib.hid (hop _ _ Hop.out); clear hop; obtain ⟨q0, q1, q2, q3, q4⟩ := op_blk hop1.out; have y1 := h1.out.c1; have y2 := h1.out.c2)
        | (go_at_call 14; refine (duo_play2 hl.out h1.out Hs.out Hn.out.2.1 (by have := Hn.out.2.2; omega) o _ Hok.out Ht.out).mono ?_; rintro e w3 ⟨rfl, h2, hop⟩; have hop2 := Lib.hid (hop _ _ hop1.out); clear hop; obtain ⟨t0, t1, t2, t3, t4⟩ := op_blk hop2.out; have r1 := h2.out.c1; have r2 := h2.out.c2)
        | (go_at_call 15; refine (duo_same h2.out (by rw [← Hkk.out]; exact upTo_sound n ops (k + 1) (by omega)) Hn.out.2.1).mono ?_; rintro e w4 ⟨rfl, h3, hop⟩; have hop3 := Lib.hid (hop _ _ hop2.out); clear hop; obtain ⟨t0, t1, t2, t3, t4⟩ := op_blk hop3.out; have r1 := h3.out.c1; have r2 := h3.out.c2))
      have h3' : Hid (Duo W w4 p b g r rb rg (upTo n ops (k + 1)) (upTo n ops (k + 1))) := by rw [Hkk.out]; exact h3
      clear h1 hop1 q0 q1 q2 q3 q4 y1 y2 h2 hop2 h3 hop3 t0 t1 t2 t3 t4 r1 r2 z1 z2 p0 p1 p2 p3 p4
      go_wp2_with fail
      go_roundw
      case rel => exact ⟨k + 1, by omega, by go_num, h3'⟩
      case measure => simp [intOf]; omega
    · obtain rfl : k = ops.length := by omega
      have hb := Lib.hid hd.out.bel
      go_wp2_with (first | (go_at_call 10; refine (sanity_true _).mono ?_; rintro e w3 ⟨rfl, hB⟩; have kB := Lib.hid (hb.out.trans (hB.mono hb.out.size)); clear hB))
      go_ret
      exact ⟨rfl, kB.out⟩

/-- The whole: at every number and every script. -/
theorem law_matches (n : Int) (v : Value) (ops : List PlainOp) (hv : OpsAt W v ops) :
    Calls Try.prog 3 #[.int .i64 n, v] W fun e w' => e = .returned (.bool true) ∧ Below W.heap.size W w' := by
  have hv' := hv
  obtain ⟨A, c, rfl, _⟩ := hv
  by_cases h1 : 64 < n ∨ 60 < ops.length
  · exact matches_far n A ops.length c h1
  · by_cases h2 : n < 1
    · exact matches_none n A ops.length c h2 (by omega)
    · obtain ⟨m, rfl⟩ := Int.eq_ofNat_of_zero_le (show 0 ≤ n by omega)
      exact matches_loop m _ ops hv' (by omega) (by omega) (by omega)
end
end Go.Proofs.Ytgieiehpnjhkoaa
