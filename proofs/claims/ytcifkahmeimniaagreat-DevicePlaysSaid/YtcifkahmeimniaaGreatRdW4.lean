/-
  Layer 23 (device): the specification's Clone.
-/
import Derived.Test.YtcifkahmeimniaaGreatG6
import Derived.Test.YtcifkahmeimniaaGreatDevX2
namespace Go.Proofs.YtcifkahmeimniaaGreat
open Go.RowKit Go.Shelf
attribute [local go_sem] Oper.semAt_some

section
variable {w : World} {a : DAt} {D : Dev}
theorem RDevIs.gblk (h : RDevIs w a D) : ∃ cs, Blk w a.g 92 cs := by
  obtain ⟨L, h⟩ := h
  obtain ⟨_, cur, _, h2, _⟩ := h.mem.body
  exact ⟨cur, h2⟩
theorem RDevIs.mblk (h : RDevIs w a D) : ∃ cs, Blk w a.b 90 cs := by
  obtain ⟨L, h⟩ := h
  obtain ⟨_, cur, h2, _⟩ := h.mem.body
  exact ⟨_, h2⟩
theorem RDevIs.sblk (h : RDevIs w a D) : ∃ cs, Blk w a.sb 9 cs := by obtain ⟨L, h⟩ := h; exact ownsRow_blk h.srow
theorem RDevIs.fblk (h : RDevIs w a D) : ∃ cs, Blk w a.fb 4 cs := by obtain ⟨L, h⟩ := h; exact ownsRow_blk h.frow
theorem RDevIs.dblk (h : RDevIs w a D) : ∃ cs, Blk w a.d 69 cs := by obtain ⟨L, h⟩ := h; exact ⟨_, h.blk⟩
theorem RDevIs.sizes (h : RDevIs w a D) : a.d < w.heap.size ∧ a.g < w.heap.size ∧ a.sb < w.heap.size ∧ a.fb < w.heap.size := by
  obtain ⟨_, q1⟩ := h.dblk
  obtain ⟨_, q2⟩ := h.gblk
  obtain ⟨_, q3⟩ := h.sblk
  obtain ⟨_, q4⟩ := h.fblk
  exact ⟨q1.lt, q2.lt, q3.lt, q4.lt⟩
/-- The cells of a row, as an append asks for them. -/
theorem row_news {w : World} {e : TypeId} {g n c : Nat} {xs : List Value} (h : w.ownsRow 0 e 1 (.slice (some ⟨g, 0, none⟩) n c) n xs) : ∀ j u, xs[j]? = some u → w.drew.cell? ((⟨g, 0, none⟩ : Addr).add j) = some u := by
  intro j u hu
  have hj := (List.getElem?_eq_some_iff.1 hu).1
  have hl := h.1
  have := h.cellAt j (by omega)
  rw [hu] at this
  rw [show w.drew.cell? = w.cell? from rfl, ← this]
  congr 1
  simp [Addr.add]
  intro e; exact e.symm
theorem row_len {w : World} {base : Nat} {e : TypeId} {v : Value} {n : Nat} {xs : List Value} (h : w.ownsRow base e 1 v n xs) : xs.length = n * 1 := h.1
theorem frozen_kept {w w' : World} {k i : Nat} {t : TypeId} {cs : Array Value} {row : Option Nat} (h : Blk w k t cs) (hg : w.grownBy w' row) (hne : some k ≠ row) : w'.frozen? ⟨k, i, none⟩ = false := (h.grown hg hne).frozen i

theorem rcl_grown {W2 w3 : World} {dc i : Nat} {v : Value} (h : W2.drew.grownBy w3 (Value.slice none 0 0).ownBlock) : W2.grownBy (w3.setCell ⟨dc, i, none⟩ v) (some dc) :=
  grown_trans ⟨h.os, h.tape, h.output, h.size, fun k hk _ => h.block k hk (by simp [Value.ownBlock])⟩ (grown_set w3 dc i v)
theorem rcl_size {W2 w3 : World} {dc i : Nat} {v : Value} (h : W2.drew.grownBy w3 (Value.slice none 0 0).ownBlock) (hs : W2.heap.size = dc + 1) : dc + 1 ≤ (w3.setCell ⟨dc, i, none⟩ v).heap.size := by
  have h1 := (rcl_grown (dc := dc) (i := i) (v := v) h).size
  omega
/-- A copy under way: block dc, its memory, what else is kept. -/
structure RCl (w W : World) (a : DAt) (L : Int) (D : Dev) (dc b' g' : Nat) (s2 s3 : Value) : Prop where
  k : Blk W dc 69 #[.pointer (some ⟨b', 0, none⟩), s2, s3, .int .i64 D.counter, .int .i64 D.clock, .bool (!D.down), .bool (decide (0 ≤ D.left)), .int .i64 L]
  h : IsRDev W a L D
  m : RMem W b' g' D.M
  bel : Below w.heap.size w W
  ge : w.heap.size ≤ dc
  ad : a.d ≠ dc
theorem RCl.next {w W w3 : World} {L : Int} {dc b' g' i : Nat} {s2 s3 s2' s3' v : Value} (h : RCl w W a L D dc b' g' s2 s3) (hg : W.drew.grownBy w3 (Value.slice none 0 0).ownBlock)
    (hk : (#[.pointer (some ⟨b', 0, none⟩), s2, s3, .int .i64 D.counter, .int .i64 D.clock, .bool (!D.down), .bool (decide (0 ≤ D.left)), .int .i64 L] : Array Value).setIfInBounds i v = #[.pointer (some ⟨b', 0, none⟩), s2', s3', .int .i64 D.counter, .int .i64 D.clock, .bool (!D.down), .bool (decide (0 ≤ D.left)), .int .i64 L]) :
    RCl w (w3.setCell ⟨dc, i, none⟩ v) a L D dc b' g' s2' s3' := by
  have hG := rcl_grown (dc := dc) (i := i) (v := v) hg
  obtain ⟨_, _, m1, m2, _⟩ := h.m.body
  obtain ⟨_, _, p1, p2, _⟩ := h.h.mem.body
  obtain ⟨_, q3⟩ := RDevIs.sblk ⟨L, h.h⟩
  obtain ⟨_, q4⟩ := RDevIs.fblk ⟨L, h.h⟩
  have k3 : Blk w3 dc 69 _ := Blk.grown (w := W.drew) h.k hg (by simp [Value.ownBlock])
  refine ⟨?_, ⟨h.h.blk.grown hG (fun e => h.ad (Option.some.inj e)), h.h.mem.grown hG (fun e => p1.ne_ h.k (by decide) (Option.some.inj e)) (fun e => p2.ne_ h.k (by decide) (Option.some.inj e)), h.h.srow.kept hG (.inr (fun e => q3.ne_ h.k (by decide) (Option.some.inj e))), h.h.frow.kept hG (.inr (fun e => q4.ne_ h.k (by decide) (Option.some.inj e))), h.h.lf⟩,
    h.m.grown hG (fun e => m1.ne_ h.k (by decide) (Option.some.inj e)) (fun e => m2.ne_ h.k (by decide) (Option.some.inj e)), h.bel.grown hG h.bel.size (fun k e => by have := h.ge; cases e; omega), h.ge, h.ad⟩
  have := k3.set_ i v
  rw [hk] at this
  exact this

set_option maxRecDepth 100000 in
set_option maxHeartbeats 4000000 in
theorem rdClone_any (h : RDevIs w a D) (hN : D.M.length ≤ 1048576) (hs : 0 < D.slots.length ∧ D.slots.length ≤ 1048576) (hf : 0 < D.fuses.length ∧ D.fuses.length ≤ 1048576) :
    Calls Tryz.prog 9 #[.pointer (some ⟨a.d, 0, none⟩)] w fun e w' => ∃ c : DAt, e = .returned (.pointer (some ⟨c.d, 0, none⟩)) ∧ RDevIs w' c D ∧ (w.heap.size ≤ c.d ∧ w.heap.size ≤ c.g ∧ w.heap.size ≤ c.sb ∧ w.heap.size ≤ c.fb) ∧ Below w.heap.size w w' := by
  obtain ⟨i0, hi, hz0, hz1, hz2⟩ := info_parts infoString
  obtain ⟨j0, hj, hy0, hy1, hy2⟩ := info_parts infoBool
  obtain ⟨L, h⟩ := h
  obtain ⟨c0, c1, c2, c3, c4, c5, c6, c7⟩ := h.cells
  have h0 : IsRDev w.drew a L D := h.below (Below.refl _ w).drew
  have HS := Lib.hid hs
  have HF := Lib.hid hf
  have HM := Lib.hid (rClone_any h0.mem hN)
  have H0 := Lib.hid h0
  have hlt := (RDevIs.sizes ⟨L, h⟩).1
  have Hlt := Lib.hid (RDevIs.sizes ⟨L, h⟩)
  clear h h0 hN hs hf
  go_enter Tryz.func9, Tryz.ntmps9
  go_wp2_with fail
  go_region_held3 (fun w' => w'.cell? ⟨a.d, 0, none⟩ = some (.pointer (some ⟨a.b, 0, none⟩)) ∧ w'.cell? ⟨a.d, 3, none⟩ = some (.int .i64 D.counter) ∧ w'.cell? ⟨a.d, 4, none⟩ = some (.int .i64 D.clock) ∧ w'.cell? ⟨a.d, 5, none⟩ = some (.bool (!D.down)) ∧ w'.cell? ⟨a.d, 6, none⟩ = some (.bool (decide (0 ≤ D.left))) ∧ w'.cell? ⟨a.d, 7, none⟩ = some (.int .i64 L)) (go_keep)
    (first | (go_at_call 34; refine HM.out.mono ?_; rintro e w1 ⟨b', g', rfl, l1, l2, hM, hB⟩; have h1 := H0.out.below hB; obtain ⟨v0, v1, v2, v3, v4, v5, v6, v7⟩ := h1.cells; have hlt1 : a.d < w1.heap.size := h1.blk.lt; have H1 := Lib.hid h1; have HB1 := Lib.hid hB; have HM1 := Lib.hid hM; clear h1 hB hM))
  have kc := Blk.new w1 69 #[.pointer (some ⟨b', 0, none⟩), .slice none 0 0, .slice none 0 0, .int .i64 D.counter, .int .i64 D.clock, .bool (!D.down), .bool (decide (0 ≤ D.left)), .int .i64 L]
  have hBa : Below w1.heap.size w1 (w1.alloc (.cells #[.pointer (some ⟨b', 0, none⟩), .slice none 0 0, .slice none 0 0, .int .i64 D.counter, .int .i64 D.clock, .bool (!D.down), .bool (decide (0 ≤ D.left)), .int .i64 L] 69)) := (Below.refl _ _).alloc (Nat.le_refl _) _
  have hs2 : (w1.alloc (.cells #[.pointer (some ⟨b', 0, none⟩), .slice none 0 0, .slice none 0 0, .int .i64 D.counter, .int .i64 D.clock, .bool (!D.down), .bool (decide (0 ≤ D.left)), .int .i64 L] 69)).heap.size = w1.heap.size + 1 := by simp
  have hBw : Below w.heap.size w w1 := (Below.refl _ w).drew.trans HB1.out
  have Hdc : Hid (w.heap.size ≤ w1.heap.size) := HB1.out.size
  generalize w1.alloc (.cells #[.pointer (some ⟨b', 0, none⟩), .slice none 0 0, .slice none 0 0, .int .i64 D.counter, .int .i64 D.clock, .bool (!D.down), .bool (decide (0 ≤ D.left)), .int .i64 L] 69) = W2 at kc hBa hs2 ⊢
  have hne : a.d ≠ w1.heap.size := by omega
  have hcl : RCl w W2 a L D w1.heap.size b' g' (.slice none 0 0) (.slice none 0 0) := ⟨kc, H1.out.below hBa, HM1.out.below hBa HM1.out.lt.1 HM1.out.lt.2, hBw.trans (hBa.mono hBw.size), Hdc.out, hne⟩
  have Hg0 : Hid (w.heap.size ≤ g') := Nat.le_trans (Nat.le_refl _) l2
  generalize w1.heap.size = dc at hcl kc hs2 Hdc hne hlt1 ⊢
  have h2 := hcl.h
  have y1 : W2.cell? ⟨dc, 1, none⟩ = some (.slice none 0 0) := kc.cell 1
  have v1' : W2.cell? ⟨a.d, 1, none⟩ = some (.slice (some ⟨a.sb, 0, none⟩) D.slots.length a.sc) := h2.blk.cell 1
  have hf1 := kc.frozen 1
  have Hnews := Lib.hid (row_news h2.srow)
  have hl := row_len h2.srow
  have hm1 := one_str D.slots
  have hp := HS.out.1
  have hle : Hid (0 + D.slots.length ≤ maxLen) := by have := HS.out.2; unfold Hid maxLen; omega
  have hb16 : (0 + D.slots.length) * 16 ≤ 140737488355328 := by have := HS.out.2; omega
  have H2 := Lib.hid h2
  have Hcl := Lib.hid hcl
  have Hs2 := Lib.hid hs2
  clear h2 kc hcl hne hBa hBw H0 HM H1 HM1 HB1 v0 v1 v2 v3 v4 v5 v6 v7 c0 c1 c2 c3 c4 c5 c6 c7 hlt hlt1 l1 l2
  go_wp2_with fail
  go_region_law ((refine step_append_lies _ (by rfl) _ _ _ (by rfl) (dc + 1) 9 i0 _ 1 16 Tryz.underlying36 hi hz0 hz1 hz2 rfl (by omega) (.slice none 0 0) 0 [] (by rfl) (World.ownsRow_nil _ _ _ _) ⟨a.sb, 0, none⟩ D.slots.length a.sc (strCells D.slots) (by rfl) hl Hnews.out hm1 hp hle.out hb16 (by simp; omega) (dc + 1) (by simpa using hs2) ?_; intro g2 cap2 w3 hown1 hgrow hat hlt3; have hc3 := hgrow.cell y1 (by simp [Value.ownBlock]); have hf3 := frozen_on hgrow hf1 (by simp; omega)))
  all_goals rw [Nat.zero_add, List.nil_append] at hown1
  all_goals have hc2 := Hcl.out.next (i := 1) (v := .slice (some ⟨g2, 0, none⟩) D.slots.length cap2) (s2' := .slice (some ⟨g2, 0, none⟩) D.slots.length cap2) (s3' := .slice none 0 0) hgrow rfl
  all_goals have hk3 : Blk w3 dc 69 _ := Blk.grown (w := W2.drew) Hcl.out.k hgrow (by simp [Value.ownBlock])
  all_goals have hrow := Lib.hid (hown1.kept (grown_set w3 dc 1 (.slice (some ⟨g2, 0, none⟩) D.slots.length cap2)) (.inr (own_blk_ne hown1 hk3 (by decide))))
  all_goals have hsz3 := rcl_size (i := 1) (v := .slice (some ⟨g2, 0, none⟩) D.slots.length cap2) hgrow Hs2.out
  all_goals clear hk3 hown1 hgrow hat hlt3 hc3 hf3 y1 v1' hf1 Hnews hl hm1 hp hle hb16 Hcl
  all_goals generalize w3.setCell ⟨dc, 1, none⟩ (.slice (some ⟨g2, 0, none⟩) D.slots.length cap2) = W3 at hc2 hrow hsz3 ⊢
  all_goals have y2 : W3.cell? ⟨dc, 2, none⟩ = some (.slice none 0 0) := hc2.k.cell 2
  all_goals have v2' : W3.cell? ⟨a.d, 2, none⟩ = some (.slice (some ⟨a.fb, 0, none⟩) D.fuses.length a.fc) := hc2.h.blk.cell 2
  all_goals have hf2 := hc2.k.frozen 2
  all_goals have Hnews := Lib.hid (row_news hc2.h.frow)
  all_goals have hl := row_len hc2.h.frow
  all_goals have hm1 := one_bool D.fuses
  all_goals have hp := HF.out.1
  all_goals have hle : Hid (0 + D.fuses.length ≤ maxLen) := by have := HF.out.2; unfold Hid maxLen; omega
  all_goals have hb1 : (0 + D.fuses.length) * 1 ≤ 140737488355328 := by have := HF.out.2; omega
  all_goals have Hc2 := Lib.hid hc2
  all_goals have Hsz3 := Lib.hid hsz3
  all_goals obtain ⟨H3, hH3⟩ : ∃ H3, W3.heap.size = H3 := ⟨_, rfl⟩
  all_goals rw [hH3] at hsz3
  all_goals clear hc2
  all_goals go_wp2_with fail
  all_goals go_region_law ((refine step_append_lies _ (by rfl) _ _ _ (by rfl) (dc + 1) 4 j0 _ 1 1 Tryz.underlying60 hj hy0 hy1 hy2 rfl (by omega) (.slice none 0 0) 0 [] (by rfl) (World.ownsRow_nil _ _ _ _) ⟨a.fb, 0, none⟩ D.fuses.length a.fc (boolCells D.fuses) (by rfl) hl Hnews.out hm1 hp hle.out hb1 (by simp; omega) H3 (by simpa using hH3) ?_; intro g3 cap3 w4 hown2 hgrow2 hat2 hlt4; have hc3 := hgrow2.cell y2 (by simp [Value.ownBlock]); have hf3 := frozen_on hgrow2 hf2 (by simp; omega)))
  all_goals rw [Nat.zero_add, List.nil_append] at hown2
  all_goals have hc4 := Hc2.out.next (i := 2) (v := .slice (some ⟨g3, 0, none⟩) D.fuses.length cap3) (s2' := .slice (some ⟨g2, 0, none⟩) D.slots.length cap2) (s3' := .slice (some ⟨g3, 0, none⟩) D.fuses.length cap3) hgrow2 rfl
  all_goals have hk4 : Blk w4 dc 69 _ := Blk.grown (w := W3.drew) Hc2.out.k hgrow2 (by simp [Value.ownBlock])
  all_goals have hfrow := Lib.hid (hown2.kept (grown_set w4 dc 2 (.slice (some ⟨g3, 0, none⟩) D.fuses.length cap3)) (.inr (own_blk_ne hown2 hk4 (by decide))))
  all_goals have hsrow := Lib.hid (hrow.out.kept (rcl_grown (dc := dc) (i := 2) (v := .slice (some ⟨g3, 0, none⟩) D.fuses.length cap3) hgrow2) (.inr (own_blk_ne hrow.out Hc2.out.k (by decide))))
  all_goals have Hc4 := Lib.hid hc4
  all_goals clear hc4 hk4 hown2 hgrow2 hat2 hlt4 hc3 hf3 y2 v2' hf2 Hnews hl hm1 hp hle hb1 hH3 hsz3
  all_goals generalize w4.setCell ⟨dc, 2, none⟩ (.slice (some ⟨g3, 0, none⟩) D.fuses.length cap3) = W4 at hsrow hfrow Hc4 ⊢
  all_goals go_wp2_with fail
  all_goals go_ret
  all_goals
    have e1 := (hsrow.out.lt g2 rfl).1
    have e2 := (hfrow.out.lt g3 rfl).1
    have e3 := Hdc.out
    exact ⟨⟨dc, b', g', g2, cap2, g3, cap3⟩, rfl, ⟨L, Hc4.out.k, Hc4.out.m, ownsRow_zero hsrow.out, ownsRow_zero hfrow.out, Hc4.out.h.lf⟩, ⟨e3, Hg0.out, by dsimp only; omega, by dsimp only; omega⟩, Hc4.out.bel⟩
end
end Go.Proofs.YtcifkahmeimniaaGreat
