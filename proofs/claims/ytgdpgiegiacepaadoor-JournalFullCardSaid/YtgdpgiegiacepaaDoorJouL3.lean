/-
  Layer 25 (journal): a history's image; a history's step, whatever it is.
-/
import Derived.Test.YtgdpgiegiacepaaDoorJouL2
namespace Go.Proofs.YtgdpgiegiacepaaDoor
open Go.RowKit Go.Shelf
open Sec (mostN countN)
attribute [local go_sem] Oper.semAt_some

section
variable {W w w' : World} {a : DAt} {n k jb hb : Nat} {v u : Value} {J : Jrn} {D : Dev}
set_option maxRecDepth 100000 in
set_option maxHeartbeats 4000000 in
theorem hput_compact (h : JSt W w a n k jb v J D) (hh : HIs w a hb (J.l.map Prod.snd) (lastN J.l) u) (hW : W.heap.size ≤ hb) (hk1 : k + 1 ≤ 100) (m size : Int) (fill : Nat) (hfill : fill < 256) (A : Option Addr) (pn pc : Nat) :
    Calls Tryd.prog 18 #[.pointer (some ⟨hb, 0, none⟩), .pointer (some ⟨jb, 0, none⟩), .agg #[.int .i64 2, .int .i64 m, .int .i64 size, .int .u8 fill, .slice A pn pc]] w (HPost W a n k jb hb) := by
  obtain ⟨hx, hB⟩ := stepBox_new w 2 m size fill (.slice A pn pc)
  have hxn : hb ≠ w.heap.size := fun e => by have := hh.blk.lt; omega
  have H := Lib.hid (h.on hB)
  have HH := Lib.hid (hh.below hB)
  generalize hxb : w.heap.size = xb at *
  obtain ⟨t, ht⟩ : ∃ t, jtext fill (jlen size) = t := ⟨_, rfl⟩
  have HT := Lib.hid (fun wq => jText_any wq 2 m size fill hfill A pn pc)
  rw [ht] at HT
  have htl : t.size ≤ 8000 := by rw [← ht, jtext_size]; exact Nat.le_trans (jlen_le size) (by decide)
  clear h hh
  obtain ⟨num, er, J', M', hR, hcase⟩ := compact_cases (n / 2) t J D.M
  have HX := Lib.hid hx
  obtain ⟨x0, x1, x2, x3, x4⟩ := stepBox_cells hx
  clear hx hB ht
  unfold HPost
  go_enter Tryd.func18, Tryd.ntmps18
  go_wp2_with fail
  refine (HT.out _).mono ?_
  rintro e w2 ⟨rfl, hB2⟩
  have H2 := Lib.hid (H.out.on hB2)
  have HH2 := Lib.hid (HH.out.below hB2)
  have HX2 := Lib.hid (HX.out.below hB2 HX.out.lt)
  clear H HH HX hB2 x0 x1 x2 x3 x4
  go_wp2_with fail
  refine (H2.out.compact t htl hk1 hR).mono ?_
  rintro e w3 ⟨v', rfl, H3, hF⟩
  dsimp only at H3 ⊢
  have HH3 := Lib.hid (HH2.out.left H2.out.dev.dev H2.out.jrn hF.out)
  have HX3 : Hid (Blk w3 xb 30 #[.int .i64 2, .int .i64 m, .int .i64 size, .int .u8 fill, .slice A pn pc]) := (hF.out.blk H2.out.dev.dev H2.out.jrn HX2.out (fun e => by cases e) (fun e => by cases e) (fun e => by cases e) (fun e => by cases e) (fun e => by cases e)).trans HX2.out
  have hlast : Hid (lastN J.l < J.next) := H2.out.inv.last
  have hJn : Hid (J.next ≤ 102) := by have := H2.out.next; unfold Hid; omega
  clear H2 HH2 HX2 hF hR
  rcases hcase with ⟨her, hl⟩ | ⟨rfl, rfl, hl⟩
  · have b0 : (er == 0) = false := beq_eq_false_iff_ne.2 (by rcases her with rfl | rfl <;> decide)
    go_wp2_with fail
    go_ret2
    exact ⟨er, v', u, J', _, rfl, .inr her, H3, by unfold Hid; rw [hl]; exact HH3.out⟩
  · obtain ⟨x0, x1, x2, x3, x4⟩ := stepBox_cells HX3.out
    have hf1 : decide (J.next ≤ lastN J.l) = false := decide_eq_false (by have := hlast.out; omega)
    go_wp2_with fail
    refine (HT.out _).mono ?_
    rintro e w5 ⟨rfl, hB5⟩
    have H5 := Lib.hid (H3.out.on hB5)
    have HH5 := Lib.hid (HH3.out.below hB5)
    have HB := Lib.hid ((Below.refl _ w5).alloc (Nat.le_refl _) (.cells #[.string t] 9))
    have Hb6 : Hid (Blk (w5.alloc (.cells #[.string t] 9)) hb 42 #[u, .int .i64 (lastN J.l : Int)]) := HH5.out.blk.alloc _
    have y0 : (w5.alloc (.cells #[.string t] 9)).cell? ⟨hb, 0, none⟩ = some u := Hb6.out.cell 0
    have g0 := Hb6.out.frozen 0
    have H6 := Lib.hid (H5.out.on HB.out)
    have Hr6 : Hid ((w5.alloc (.cells #[.string t] 9)).ownsRow 0 9 1 (.slice (some ⟨w5.heap.size, 0, none⟩) 1 1) 1 (strCells [t])) :=
      ⟨rfl, .inr ⟨w5.heap.size, 1, #[.string t], rfl, Nat.zero_le _, Blk.new w5 _ _, Nat.le_refl _, by unfold maxLen; omega, rfl, rfl⟩⟩
    have Hs5 : Hid (a.sb < w5.heap.size) := by
      obtain ⟨_, q3⟩ := H5.out.dev.dev.sblk
      exact q3.lt
    clear HB H3 HH3 HX3 x0 x1 x2 x3 x4 hB5 HT
    have H7 := Lib.hid (H6.out.hist Hb6.out hW (by decide) (grown_set (w5.alloc (.cells #[.string t] 9)) hb 0 (.slice (some ⟨w5.heap.size, 0, none⟩) 1 1)))
    have Hb7 : Hid (Blk ((w5.alloc (.cells #[.string t] 9)).setCell ⟨hb, 0, none⟩ (.slice (some ⟨w5.heap.size, 0, none⟩) 1 1)) hb 42 #[.slice (some ⟨w5.heap.size, 0, none⟩) 1 1, .int .i64 (lastN J.l : Int)]) := Hb6.out.set_ 0 _
    have Hr7 := Lib.hid (Hr6.out.kept (grown_set (w5.alloc (.cells #[.string t] 9)) hb 0 (.slice (some ⟨w5.heap.size, 0, none⟩) 1 1)) (.inr (own_blk_ne Hr6.out Hb6.out (by decide))))
    have y1 : ((w5.alloc (.cells #[.string t] 9)).setCell ⟨hb, 0, none⟩ (.slice (some ⟨w5.heap.size, 0, none⟩) 1 1)).cell? ⟨hb, 1, none⟩ = some (.int .i64 (lastN J.l : Int)) := Hb7.out.cell 1
    have g1 := Hb7.out.frozen 1
    clear H5 HH5 Hb6 H6 Hr6
    go_wp2_with fail
    go_ret2
    have e1 : J'.l.map Prod.snd = [t] := by rw [hl]; rfl
    have e2 : lastN J'.l = J.next := by rw [hl]; rfl
    refine ⟨0, v', .slice (some ⟨w5.heap.size, 0, none⟩) 1 1, J', _, rfl, .inl rfl, H7.out.hist Hb7.out hW (by decide) (grown_set _ hb 1 _), ?_⟩
    unfold Hid
    rw [e1, e2]
    refine ⟨Hb7.out.set_ 1 _, Hr7.out.kept (grown_set _ hb 1 _) (.inr (own_blk_ne Hr7.out Hb7.out (by decide))), fun g e => ?_⟩
    have h5 := Hs5.out
    have h6 : w5.heap.size = g := by cases e; rfl
    omega
theorem hput_any (h : JSt W w a n k jb v J D) (hh : HIs w a hb (J.l.map Prod.snd) (lastN J.l) u) (hW : W.heap.size ≤ hb) (hk1 : k + 1 ≤ 100) (o : JStep) (ho : o.ok) (A : Option Addr) (pn pc : Nat) :
    Calls Tryd.prog 18 #[.pointer (some ⟨hb, 0, none⟩), .pointer (some ⟨jb, 0, none⟩), .agg #[.int .i64 o.kind, .int .i64 o.n, .int .i64 o.size, .int .u8 o.fill, .slice A pn pc]] w (HPost W a n k jb hb) := by
  obtain ⟨kind, m, size, fill, picks⟩ := o
  dsimp only
  by_cases h1 : kind = 1
  · subst h1
    exact hput_append h hh hW hk1 m size fill ho.1 A pn pc
  · by_cases h2 : kind = 2
    · subst h2
      exact hput_compact h hh hW hk1 m size fill ho.1 A pn pc
    · exact hput_other h hh hk1 kind m size fill A pn pc ⟨h1, h2⟩
end
end Go.Proofs.YtgdpgiegiacepaaDoor
