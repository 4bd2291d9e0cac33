/-
  Layer 22 (memory): sanity answers true.
-/
import Derived.Test.YtgieiehpnjhkoaaMemP3
namespace Go.Proofs.Ytgieiehpnjhkoaa
open Go.RowKit Go.Shelf
attribute [local go_sem] Oper.semAt_some

set_option maxRecDepth 100000 in
set_option maxHeartbeats 4000000 in
theorem sanity_true (w : World) : Calls Try.prog 10 #[] w fun e w' => e = .returned (.bool true) ∧ Below w.heap.size w w' := by
  have zs := zeros_size
  have wt := wantT
  go_enter Try.func10, Try.ntmps10
  go_wp2_with (first
    | (go_at_call 9; refine (New_bad wL 0 (by omega)).mono ?_; rintro e w1 ⟨rfl, rfl⟩; have kc := row_cell s4.out.sa.row)
    | (go_at_call 9; refine (c_new _).mono ?_; rintro e w1 ⟨b, g, rfl, h0⟩)
    | (go_at_call 19; refine (rep64 wB).mono ?_; rintro e wZ ⟨rfl, k⟩; have hZ := Lib.hid (hB.out.on k); clear k)
    | (go_at_call 19; refine (repB wA).mono ?_; rintro e wB ⟨rfl, k⟩; have hB := Lib.hid (hA.out.on k); clear k)
    | (go_at_call 19; refine (repA _).mono ?_; rintro e wA ⟨rfl, k⟩; have hA := Lib.hid (h0.out.on k); clear k)
    | (go_at_call 31; refine (c_write 1 tA g7.out (by decide) p7).mono ?_; rintro e w8 ⟨rfl, g8⟩)
    | (go_at_call 31; refine (c_write 0 tB g3.out (by decide) p3).mono ?_; rintro e w4 ⟨rfl, g4⟩)
    | (go_at_call 31; refine (c_write 0 tA hZ.out (by decide) p1).mono ?_; rintro e w1 ⟨rfl, g1⟩)
    | (go_at_call 18; refine (c_read2 0 tB 0 s4.out r8 e8).mono ?_; rintro e w1 ⟨rfl, rfl⟩)
    | (go_at_call 18; have mk' := mk; refine (c_read 2 ⟨#[]⟩ 1 g8.out r6' e6').mono ?_; rintro e w1 ⟨rfl, rfl⟩)
    | (go_at_call 18; refine (c_read 1 zeros 0 g8.out r6 e6).mono ?_; rintro e w1 ⟨rfl, rfl⟩; have mk := True.intro)
    | (go_at_call 18; refine (c_read 0 tT 0 g6.out r5 e5).mono ?_; rintro e w1 ⟨rfl, rfl⟩)
    | (go_at_call 18; refine (c_read 0 tB 0 g5.out r4 e4).mono ?_; rintro e w1 ⟨rfl, rfl⟩)
    | (go_at_call 18; refine (c_read 0 tT 0 g3.out r2 e2).mono ?_; rintro e w1 ⟨rfl, rfl⟩)
    | (go_at_call 18; refine (c_read 0 tA 0 g1.out r1 e1).mono ?_; rintro e w1 ⟨rfl, rfl⟩)
    | (go_at_call 23; refine (c_dirty g1.out (by decide) d1).mono ?_; rintro e w2 ⟨gb, cb, rfl, g2⟩)
    | (go_at_call 21; refine (c_cut w2.heap.size (g2.out.on ((Below.refl _ _).alloc (Nat.le_refl _) _)) fine1 (by decide) (Nat.ne_of_gt g2.out.mem.lt.2) ((Blk.new w2 _ _).cell 0) p2).mono ?_; rintro e w3 ⟨rfl, g3⟩)
    | (go_at_call 20; refine (c_flush g4.out fine3 (by decide) p4).mono ?_; rintro e w5 ⟨rfl, g5⟩)
    | (go_at_call 26; refine (c_stale 0 g5.out (by decide) p5).mono ?_; rintro e w6 ⟨rfl, g6⟩)
    | (go_at_call 24; refine (c_wear 1 g6.out (by decide) p6).mono ?_; rintro e w7 ⟨rfl, g7⟩)
    | (go_at_call 28; refine (c_clone g8.out (by decide)).mono ?_; rintro e w9 ⟨b2, gc, rfl, s1⟩)
    | (go_at_call 25; refine (c_worn s5.out (by decide) d6).mono ?_; rintro e wV ⟨gv, cv, rfl, kv, s6⟩)
    | (go_at_call 25; refine (c_worn s1.out (by decide) d6).mono ?_; rintro e wW ⟨gw, cw, rfl, kw, s2⟩)
    | (go_at_call 22; refine (c_image s4.out (by decide) im6).mono ?_; rintro e wJ ⟨gj, cj, rfl, kj, s5⟩)
    | (go_at_call 22; refine (c_image s2.out (by decide) im6).mono ?_; rintro e wI ⟨gi, ci, rfl, ki, s3⟩)
    | (go_at_call 32; refine (c_load wI.heap.size (s3.out.on ((Below.refl _ _).alloc (Nat.le_refl _) _)) (Blk.new wI _ _) le8 p8).mono ?_; rintro e wL ⟨rfl, s4⟩)
    | (go_at_call 33; refine (c_len (n := 2) s6.out (by decide)).mono ?_; rintro e w1 ⟨rfl, rfl⟩))
  go_ret
  exact ⟨rfl, s6.out.sa.bel⟩
end Go.Proofs.Ytgieiehpnjhkoaa
