/-
  Layer 22 (memory): spec.play at any other kind, at a load, at a save.
-/
import Derived.Test.YtgieiehpnjhkoaaMemA3
namespace Go.Proofs.Ytgieiehpnjhkoaa
open Go.RowKit Go.Shelf
attribute [local go_sem] Oper.semAt_some

section
variable {w : World} {p b g : Nat} {v : Value} {s : St}
set_option maxRecDepth 100000 in
set_option maxHeartbeats 4000000 in
theorem splay_other (h : IsPl 44 77 79 w p b g v s) (k i size : Int) (fill : Nat) (A : Option Addr) (n c : Nat) (hk : k < 1 ∨ 7 < k) :
    Calls Try.prog 14 #[.pointer (some ⟨p, 0, none⟩), .agg #[.int .i64 k, .int .i64 i, .int .u8 fill, .int .i64 size, .slice A n c]] w fun e w' => e = .returned (.int .i64 0) ∧ IsPl 44 77 79 w' p b g v s ∧ Below w.heap.size w w' := by
  have hB : Below w.heap.size w (w.alloc (.cells #[.int .i64 k, .int .i64 i, .int .u8 fill, .int .i64 size, .slice A n c] 37)) := (Below.refl _ w).alloc (Nat.le_refl _) _
  have k1 : (k == 1) = false := beq_f (by omega)
  have k2 : (k == 2) = false := beq_f (by omega)
  have k3 : (k == 3) = false := beq_f (by omega)
  have k4 : (k == 4) = false := beq_f (by omega)
  have k5 : (k == 5) = false := beq_f (by omega)
  have k6 : (k == 6) = false := beq_f (by omega)
  have k7 : (k == 7) = false := beq_f (by omega)
  have H := Lib.hid h
  have HB := Lib.hid hB
  clear hk h hB
  go_enter Try.func14, Try.ntmps14
  go_wp2_with fail
  go_ret
  exact ⟨rfl, H.out.below HB.out, HB.out⟩
end
section
variable {w : World} {p b g : Nat} {v : Value} {s : St}
set_option maxRecDepth 100000 in
set_option maxHeartbeats 4000000 in
theorem splay_load_neg (h : IsPl 44 77 79 w p b g v s) (i size : Int) (hi : i < 0) (fill : Nat) (A : Option Addr) (n c : Nat) (er : Int) (M2 : List Sec)
    (HC : ∀ w2, RMem w2 b g s.M → Calls Try.prog 39 #[.pointer (some ⟨b, 0, none⟩), .slice none 0 0] w2 fun e w' => e = .returned (.int .i64 er) ∧ RMem w' b g M2 ∧ w2.grownBy w' (some g)) :
    Calls Try.prog 14 #[.pointer (some ⟨p, 0, none⟩), .agg #[.int .i64 6, .int .i64 i, .int .u8 fill, .int .i64 size, .slice A n c]] w fun e w' => e = .returned (.int .i64 er) ∧ IsPl 44 77 79 w' p b g v { s with M := M2 } ∧ w.grownBy w' (some g) := by
  have hB : Below w.heap.size w (w.alloc (.cells #[.int .i64 6, .int .i64 i, .int .u8 fill, .int .i64 size, .slice A n c] 37)) := (Below.refl _ w).alloc (Nat.le_refl _) _
  have h1 : IsPl 44 77 79 (w.alloc (.cells #[.int .i64 6, .int .i64 i, .int .u8 fill, .int .i64 size, .slice A n c] 37)) p b g v s := h.below hB
  have hc0 : (w.alloc (.cells #[.int .i64 6, .int .i64 i, .int .u8 fill, .int .i64 size, .slice A n c] 37)).cell? ⟨p, 0, none⟩ = some (.pointer (some ⟨b, 0, none⟩)) := h1.blk.cell 0
  have d0 : decide (0 ≤ i) = false := decide_eq_false (by omega)
  have Hc := Lib.hid HC
  have H1 := Lib.hid h1
  have HB := Lib.hid hB
  clear HC h1 hB
  go_enter Try.func14, Try.ntmps14
  go_wp2_with (first | (go_at_call 39; refine (Hc.out _ (H1.out.below (below_drewN (Below.refl _ _) _)).mem).mono ?_; rintro e w' ⟨rfl, hM, hg⟩) | go_quiet (fail))
  go_ret
  exact ⟨rfl, (H1.out.below (below_drewN (Below.refl _ _) _)).turn hg hM (by decide) (by decide) (by decide), grown_trans (grown_below (below_drewN HB.out _) (Nat.le_refl _) _) hg⟩
set_option maxRecDepth 100000 in
set_option maxHeartbeats 4000000 in
theorem splay_load_far (h : IsPl 44 77 79 w p b g v s) (i size : Int) (hi : 0 ≤ i) (A2 : Option Addr) (n2 c2 : Nat) (hv : v = .slice A2 n2 c2) (hi2 : (n2 : Int) ≤ i) (fill : Nat) (A : Option Addr) (n c : Nat) (er : Int) (M2 : List Sec)
    (HC : ∀ w2, RMem w2 b g s.M → Calls Try.prog 39 #[.pointer (some ⟨b, 0, none⟩), .slice none 0 0] w2 fun e w' => e = .returned (.int .i64 er) ∧ RMem w' b g M2 ∧ w2.grownBy w' (some g)) :
    Calls Try.prog 14 #[.pointer (some ⟨p, 0, none⟩), .agg #[.int .i64 6, .int .i64 i, .int .u8 fill, .int .i64 size, .slice A n c]] w fun e w' => e = .returned (.int .i64 er) ∧ IsPl 44 77 79 w' p b g v { s with M := M2 } ∧ w.grownBy w' (some g) := by
  have hB : Below w.heap.size w (w.alloc (.cells #[.int .i64 6, .int .i64 i, .int .u8 fill, .int .i64 size, .slice A n c] 37)) := (Below.refl _ w).alloc (Nat.le_refl _) _
  have h1 : IsPl 44 77 79 (w.alloc (.cells #[.int .i64 6, .int .i64 i, .int .u8 fill, .int .i64 size, .slice A n c] 37)) p b g v s := h.below hB
  have hc0 : (w.alloc (.cells #[.int .i64 6, .int .i64 i, .int .u8 fill, .int .i64 size, .slice A n c] 37)).cell? ⟨p, 0, none⟩ = some (.pointer (some ⟨b, 0, none⟩)) := h1.blk.cell 0
  have hc1 : (w.alloc (.cells #[.int .i64 6, .int .i64 i, .int .u8 fill, .int .i64 size, .slice A n c] 37)).cell? ⟨p, 1, none⟩ = some (.slice A2 n2 c2) := by rw [← hv]; exact h1.blk.cell 1
  have d0 : decide (0 ≤ i) = true := decide_eq_true hi
  have d1 : decide (i < (n2 : Int)) = false := decide_eq_false (by omega)
  have Hc := Lib.hid HC
  have H1 := Lib.hid h1
  have HB := Lib.hid hB
  clear HC h1 hB
  clear hv
  go_enter Try.func14, Try.ntmps14
  go_wp2_with (first | (go_at_call 39; refine (Hc.out _ (H1.out.below (below_drewN (Below.refl _ _) _)).mem).mono ?_; rintro e w' ⟨rfl, hM, hg⟩) | go_quiet (fail))
  go_ret
  exact ⟨rfl, (H1.out.below (below_drewN (Below.refl _ _) _)).turn hg hM (by decide) (by decide) (by decide), grown_trans (grown_below (below_drewN HB.out _) (Nat.le_refl _) _) hg⟩
end
section
variable {w : World} {p b g : Nat} {v : Value} {s : St}
set_option maxRecDepth 100000 in
set_option maxHeartbeats 4000000 in
theorem splay_load_in (h : IsPl 44 77 79 w p b g v s) (i : Nat) (size : Int) (gb n2 c2 : Nat) (hv : v = .slice (some ⟨gb, 0, none⟩) n2 c2) (hi2 : i < n2) (hm : n2 ≤ maxLen) (u : Value) (hu : w.cell? ⟨gb, i, none⟩ = some u) (hgb : gb < w.heap.size)
    (fill : Nat) (A : Option Addr) (n c : Nat) (er : Int) (M2 : List Sec)
    (HC : ∀ w2, Below w.heap.size w w2 → RMem w2 b g s.M → Calls Try.prog 39 #[.pointer (some ⟨b, 0, none⟩), u] w2 fun e w' => e = .returned (.int .i64 er) ∧ RMem w' b g M2 ∧ w2.grownBy w' (some g)) :
    Calls Try.prog 14 #[.pointer (some ⟨p, 0, none⟩), .agg #[.int .i64 6, .int .i64 i, .int .u8 fill, .int .i64 size, .slice A n c]] w fun e w' => e = .returned (.int .i64 er) ∧ IsPl 44 77 79 w' p b g v { s with M := M2 } ∧ w.grownBy w' (some g) := by
  have hop : Blk (w.alloc (.cells #[.int .i64 6, .int .i64 i, .int .u8 fill, .int .i64 size, .slice A n c] 37)) w.heap.size 37 #[.int .i64 6, .int .i64 i, .int .u8 fill, .int .i64 size, .slice A n c] := Blk.new w _ _
  have hB : Below w.heap.size w (w.alloc (.cells #[.int .i64 6, .int .i64 i, .int .u8 fill, .int .i64 size, .slice A n c] 37)) := (Below.refl _ w).alloc (Nat.le_refl _) _
  have d0 : decide (0 ≤ (i : Int)) = true := decide_eq_true (by omega)
  have d1 : decide ((i : Int) < (n2 : Int)) = true := decide_eq_true (by omega)
  have d2 : decide (i < n2) = true := decide_eq_true hi2
  have hi2' : Hid (i < n2 ∧ n2 ≤ maxLen) := ⟨hi2, hm⟩
  have hun : w.cell? ⟨gb, 0 + i * 1, none⟩ = some u := by rw [← hu]; congr 2; omega
  have Hc := Lib.hid HC
  have hbv : Blk w p 44 #[.pointer (some ⟨b, 0, none⟩), .slice (some ⟨gb, 0, none⟩) n2 c2] := by rw [← hv]; exact h.blk
  have H := Lib.hid h
  clear HC h hv
  go_enter Try.func14, Try.ntmps14
  go_wp2_with fail
  generalize (w.alloc (.cells #[.int .i64 6, .int .i64 i, .int .u8 fill, .int .i64 size, .slice A n c] 37)) = w1 at hop hB ⊢
  have hbv1 := hbv.below hB hbv.lt
  have hc0 : w1.cell? ⟨p, 0, none⟩ = some (.pointer (some ⟨b, 0, none⟩)) := hbv1.cell 0
  have hc2 : w1.cell? ⟨p, 1, none⟩ = some (.slice (some ⟨gb, 0, none⟩) n2 c2) := hbv1.cell 1
  have hc1 : w1.cell? ⟨w.heap.size, 1, none⟩ = some (.int .i64 i) := hop.cell 1
  have hu1 : w1.cell? ⟨gb, i, none⟩ = some u := (hB.cell (p := ⟨gb, i, none⟩) hgb).trans hu
  clear hu hun hgb hbv hbv1 hop
  unfold maxLen at hm
  go_wp2_with (first | go_quiet (fail))
  have hB2 : Below w.heap.size w (w1.drewN nq) := below_drewN hB nq
  replace hc0 : (w1.drewN nq).cell? ⟨p, 0, none⟩ = some (.pointer (some ⟨b, 0, none⟩)) := hc0
  replace hc2 : (w1.drewN nq).cell? ⟨p, 1, none⟩ = some (.slice (some ⟨gb, 0, none⟩) n2 c2) := hc2
  replace hc1 : (w1.drewN nq).cell? ⟨w.heap.size, 1, none⟩ = some (.int .i64 i) := hc1
  replace hu1 : (w1.drewN nq).cell? ⟨gb, i, none⟩ = some u := hu1
  clear hB
  generalize (w1.drewN nq) = w2 at hB2 hc0 hc1 hc2 hu1 ⊢
  go_still_tail 12, (by kernel_rfl)
  change wpList _ _ _ _ _ w2.drew
  have h2 : IsPl 44 77 79 w2.drew p b g v s := H.out.below hB2.drew
  replace hB2 : Below w.heap.size w w2.drew := hB2.drew
  generalize w2.drew = w3 at h2 hB2 ⊢
  clear hc0 hc1 hc2 hu1
  go_wp2_with (go_at_call 39; refine (Hc.out _ hB2 h2.mem).mono ?_; rintro e w' ⟨rfl, hM, hg⟩)
  go_ret
  exact ⟨rfl, h2.turn hg hM (by decide) (by decide) (by decide), grown_trans (grown_below hB2 (Nat.le_refl _) _) hg⟩
end
section
variable {w : World} {p b g : Nat} {v : Value} {s : St}
set_option maxRecDepth 100000 in
set_option maxHeartbeats 4000000 in
theorem splay_save (h : IsPl 44 77 79 w p b g v s) (hL : s.imgs.length ≤ 1048576) (i size : Int) (fill : Nat) (A : Option Addr) (n c : Nat)
    (HC : ∀ w2, RMem w2 b g s.M → Calls Try.prog 40 #[.pointer (some ⟨b, 0, none⟩)] w2 fun e w' => ∃ u, e = .returned u ∧ NewTexts w2 w' u (s.M.map Sec.now)) :
    Calls Try.prog 14 #[.pointer (some ⟨p, 0, none⟩), .agg #[.int .i64 7, .int .i64 i, .int .u8 fill, .int .i64 size, .slice A n c]] w fun e w' => e = .returned (.int .i64 0) ∧ ∃ v', IsPl 44 77 79 w' p b g v' { s with imgs := s.imgs ++ [s.M.map Sec.now] } ∧ Fr w w' p g v v' s.imgs.length := by
  obtain ⟨i0, hi, hz0, hz1, hz2⟩ := info_parts infoStrs
  have hB : Below w.heap.size w (w.alloc (.cells #[.int .i64 7, .int .i64 i, .int .u8 fill, .int .i64 size, .slice A n c] 37)) := (Below.refl _ w).alloc (Nat.le_refl _) _
  obtain ⟨vals, hr, hvl, htx⟩ := h.imgs
  have Hb : Hid (s.imgs.length + 1 ≤ maxLen ∧ (s.imgs.length + 1) * 24 ≤ 140737488355328) := by unfold Hid maxLen; omega
  have hs1 : Hid (w.heap.size ≤ (w.alloc (.cells #[.int .i64 7, .int .i64 i, .int .u8 fill, .int .i64 size, .slice A n c] 37)).heap.size) := hB.size
  clear hL
  have Hc := Lib.hid HC
  clear HC
  go_enter Try.func14, Try.ntmps14
  go_wp2_with fail
  generalize (w.alloc (.cells #[.int .i64 7, .int .i64 i, .int .u8 fill, .int .i64 size, .slice A n c] 37)) = w1 at hB hs1 ⊢
  have h1 : IsPl 44 77 79 w1 p b g v s := h.below hB
  have hc0 : w1.cell? ⟨p, 0, none⟩ = some (.pointer (some ⟨b, 0, none⟩)) := h1.blk.cell 0
  have hc1 : w1.cell? ⟨p, 1, none⟩ = some v := h1.blk.cell 1
  have hf1 : w1.frozen? ⟨p, 1, none⟩ = false := h1.blk.frozen 1
  have lp : p < w1.heap.size := h1.blk.lt
  have hm1 : Hid (RMem w1.drew b g s.M) := h1.mem.below (Below.refl w1.heap.size w1).drew h1.mem.lt.1 h1.mem.lt.2
  have hr1 : Hid (w1.drew.ownsRow 0 54 1 v s.imgs.length vals) := ownsRow_below hr (hB.drew) (Nat.le_refl _)
  have hpv : Hid (v.ownBlock ≠ some p) := own_blk_ne hr h.blk (by decide)
  have H := Lib.hid h
  have HR := Lib.hid hr
  have HT := Lib.hid htx
  have HB := Lib.hid hB
  clear h hr htx h1 hB hvl
  have HB1 := Lib.hid HB.out.drew
  go_region_law (first | (refine step_append_keep _ (by rfl) _ _ _ (by rfl) 0 54 i0 _ 24 Try.underlying40 hi hz0 hz1 hz2 rfl v s.imgs.length vals (by rfl) kr.out _ _ _ (by rfl) ku (by rfl) (by rfl) Hb.out.1 Hb.out.2 (Nat.zero_le _) _ kh.out ?_; intro g' cap' w3 hown hgrow hat hlt hkeep; have c3 := hgrow.cell kc (fun e => hpv.out e.symm); have f3 := (hgrow.frozen_far ⟨p, 1, none⟩ kp.out (fun e => hpv.out e.symm)).trans kf) | (go_simp; go_wp2_with (go_at_call 40; refine (Hc.out _ hm1.out).mono ?_; rintro e w2 ⟨u, rfl, hu⟩; obtain ⟨A1, n1, c1, rfl⟩ := news_slice hu; obtain ⟨kc2, kr, ku, kh, kp, kc, kf⟩ := save_facts hu hr1.out lp hc1 hf1; have Hu := Lib.hid hu; clear hu)))
  all_goals go_wp2
  all_goals go_ret
  all_goals exact ⟨rfl, save_end H.out HB1.out HB1.out.size Hu.out HR.out HT.out hown hgrow hat hkeep (by decide) (by decide) (by decide) (by decide) (by decide) (by decide)⟩
end
end Go.Proofs.Ytgieiehpnjhkoaa
