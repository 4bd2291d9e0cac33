/-
  Layer 23 (device): one operation of a script, kind by kind. (Written by a small program.)
-/
import Derived.Test.YtcifkahmeimniaaDevX5
import Derived.Deep.RegionHeld3
namespace Go.Proofs.Ytcifkahmeimniaa
open Go.RowKit Go.Shelf
attribute [local go_sem] Oper.semAt_some

section
variable {w : World} {a : DAt} {D : Dev}
theorem Boxes.rq {w' : World} {s : Nat} {op : Array Value} (h : Boxes w' s op) (u v : Value) : ((w'.setCell ⟨s + 1, 0, none⟩ u).setCell ⟨s + 1, 1, none⟩ v).cell? ⟨s + 1 + 1, 0, none⟩ = some (.string ⟨#[]⟩) ∧ ((w'.setCell ⟨s + 1, 0, none⟩ u).setCell ⟨s + 1, 1, none⟩ v).cell? ⟨s + 1 + 1, 1, none⟩ = some (.int .i64 0) := by
  have h2 := (h.q.other (a := ⟨s + 1, 0, none⟩) (by show s + 1 + 1 ≠ s + 1; omega) u).other (a := ⟨s + 1, 1, none⟩) (by show s + 1 + 1 ≠ s + 1; omega) v
  exact ⟨h2.cell 0, h2.cell 1⟩
theorem Img.set {v : Value} {I : List ByteArray} {w : World} {a : DAt} (h : Img w v I a) {k : Nat} {cs : Array Value} (hk : Blk w k 36 cs) (i : Nat) (u : Value) : Img (w.setCell ⟨k, i, none⟩ u) v I a :=
  ⟨World.ownsRow.kept h.texts (grown_set w k i u) (.inr (own_blk_ne h.texts hk (by decide))), h.own⟩
theorem Boxes.op {w' : World} {s : Nat} {x0 x1 x2 x3 x4 x5 : Value} (h : Boxes w' s #[x0, x1, x2, x3, x4, x5]) : w'.cell? ⟨s, 0, none⟩ = some x0 ∧ w'.cell? ⟨s, 1, none⟩ = some x1 ∧ w'.cell? ⟨s, 2, none⟩ = some x2 ∧ w'.cell? ⟨s, 3, none⟩ = some x3 ∧ w'.cell? ⟨s, 4, none⟩ = some x4 ∧ w'.cell? ⟨s, 5, none⟩ = some x5 :=
  ⟨h.o.cell 0, h.o.cell 1, h.o.cell 2, h.o.cell 3, h.o.cell 4, h.o.cell 5⟩
theorem Boxes.opq {w' : World} {s : Nat} {x0 x1 x2 x3 x4 x5 : Value} (h : Boxes w' s #[x0, x1, x2, x3, x4, x5]) (v : Value) : (w'.setCell ⟨s + 1 + 1, 1, none⟩ v).cell? ⟨s, 0, none⟩ = some x0 ∧ (w'.setCell ⟨s + 1 + 1, 1, none⟩ v).cell? ⟨s, 1, none⟩ = some x1 ∧ (w'.setCell ⟨s + 1 + 1, 1, none⟩ v).cell? ⟨s, 2, none⟩ = some x2 ∧ (w'.setCell ⟨s + 1 + 1, 1, none⟩ v).cell? ⟨s, 3, none⟩ = some x3 ∧ (w'.setCell ⟨s + 1 + 1, 1, none⟩ v).cell? ⟨s, 4, none⟩ = some x4 ∧ (w'.setCell ⟨s + 1 + 1, 1, none⟩ v).cell? ⟨s, 5, none⟩ = some x5 := by
  have h2 := h.o.other (a := ⟨s + 1 + 1, 1, none⟩) (by show s ≠ s + 1 + 1; omega) v
  exact ⟨h2.cell 0, h2.cell 1, h2.cell 2, h2.cell 3, h2.cell 4, h2.cell 5⟩
theorem Boxes.below {w1 w' : World} {s : Nat} {op : Array Value} (h : Boxes w1 s op) (hB : Below w1.heap.size w1 w') : Boxes w' s op := ⟨h.o.below hB h.o.lt, h.r.below hB h.r.lt, h.q.below hB h.q.lt⟩
set_option maxRecDepth 100000 in
set_option maxHeartbeats 4000000 in
theorem do_2 (h : DevIs w a D) (oa ob : Int) (fill : Nat) (short : Bool) (A : Option Addr) (n c : Nat) (A' : Option Addr) (n' c' : Nat) (t : ByteArray) (r : Int) (E : Dev)
    (HT : ∀ w2, Calls Try.prog 15 #[.agg #[.int .i64 2, .int .i64 oa, .int .i64 ob, .int .u8 fill, .bool short, .slice A n c], .int .i64 64] w2 fun e w' => e = .returned (.string t) ∧ Below w2.heap.size w2 w')
    (HC : ∀ w2, Below w.heap.size w w2 → Calls Try.prog 33 #[.pointer (some ⟨a.d, 0, none⟩), .int .i64 oa, .string t] w2 fun e w' => e = .returned (.int .i64 r) ∧ DevIs w' a E ∧ DLeft w2 w' a) :
    Calls Try.prog 14 #[.pointer (some ⟨a.d, 0, none⟩), .agg #[.int .i64 2, .int .i64 oa, .int .i64 ob, .int .u8 fill, .bool short, .slice A n c], .slice A' n' c'] w fun e w' => e = .returned (.tuple #[.agg #[.string ⟨#[]⟩, .int .i64 r], .slice A' n' c']) ∧ DevIs w' a E ∧ DLeft w w' a := by
  obtain ⟨hb, hB⟩ := boxes_new w #[.int .i64 2, .int .i64 oa, .int .i64 ob, .int .u8 fill, .bool short, .slice A n c]
  have HB := Lib.hid hB
  have Hb := Lib.hid hb
  have H := Lib.hid h
  have Hc := Lib.hid HC
  have Ht := Lib.hid HT
  clear h HC HT hb hB
  go_enter Try.func14, Try.ntmps14
  go_wp2_with fail
  generalize (((w.alloc (.cells #[.int .i64 2, .int .i64 oa, .int .i64 ob, .int .u8 fill, .bool short, .slice A n c] 41)).alloc (.cells #[.string ⟨#[]⟩, .int .i64 0] 36)).alloc (.cells #[.string ⟨#[]⟩, .int .i64 0] 36)) = W at HB Hb ⊢
  obtain ⟨v0, v1, v2, v3, v4, v5⟩ := Hb.out.op
  have hb : Boxes W.drew w.heap.size #[.int .i64 2, .int .i64 oa, .int .i64 ob, .int .u8 fill, .bool short, .slice A n c] := ⟨Hb.out.o, Hb.out.r, Hb.out.q⟩
  have hB : Below w.heap.size w W.drew := HB.out.drew
  clear Hb HB
  have HB := Lib.hid hB
  have Hb := Lib.hid hb
  clear hb hB
  go_region_held3 (fun w' => w'.cell? ⟨w.heap.size, 0, none⟩ = some (.int .i64 2) ∧ w'.cell? ⟨w.heap.size, 1, none⟩ = some (.int .i64 oa) ∧ w'.cell? ⟨w.heap.size, 2, none⟩ = some (.int .i64 ob) ∧ w'.cell? ⟨w.heap.size, 3, none⟩ = some (.int .u8 fill) ∧ w'.cell? ⟨w.heap.size, 4, none⟩ = some (.bool short) ∧ w'.cell? ⟨w.heap.size, 5, none⟩ = some (.slice A n c)) (go_keep)
    (first
    | (go_at_call 15; refine (Ht.out _).mono ?_; rintro e w1 ⟨rfl, hB1⟩; have hb1 := Hb.out.below hB1; have Hb1 := Lib.hid hb1; have HB1 := Lib.hid (HB.out.trans (hB1.mono HB.out.size)); obtain ⟨i0, i1, i2, i3, i4, i5⟩ := hb1.op; clear hb1)
    | (go_at_call 33; refine (Hc.out _ HB1.out).mono ?_; rintro e w' ⟨rfl, hE, hF⟩; have hb2 := Hb1.out.left H.out hF; obtain ⟨y0, y1, y2, y3, f0, f1, f2, f3⟩ := hb2.facts; obtain ⟨j0, j1, j2, j3, j4, j5⟩ := hb2.op; obtain ⟨m0, m1, m2, m3, m4, m5⟩ := hb2.opq (.int .i64 r); have Hb2 := Lib.hid hb2; clear hb2))
  go_wp2_with fail
  have hb := Hb2.out
  have hF2 := (DLeft.ofBelow HB1.out).trans hF
  obtain ⟨x1, x2, x3⟩ := hb.q1 hE hF2 1 (.int .i64 r)
  obtain ⟨z1, z2, z3⟩ := do_end x1 x2 x3 (.string ⟨#[]⟩) (.int .i64 r)
  exact bodyPost_ret (v := .tuple #[.agg #[.string ⟨#[]⟩, .int .i64 r], .slice A' n' c']) (results_ct (p := 6) (q := 7) rfl _ _ (w.heap.size + 1) 36 #[.string ⟨#[]⟩, .int .i64 r] _ rfl z1 Try.underlying36 rfl (by kernel_rfl)) rfl ⟨rfl, z2, z3⟩
set_option maxRecDepth 100000 in
set_option maxHeartbeats 4000000 in
theorem do_5 (h : DevIs w a D) (oa ob : Int) (fill : Nat) (short : Bool) (A : Option Addr) (n c : Nat) (A' : Option Addr) (n' c' : Nat) (t : ByteArray) (r : Int) (E : Dev)
    (HT : ∀ w2, Calls Try.prog 15 #[.agg #[.int .i64 5, .int .i64 oa, .int .i64 ob, .int .u8 fill, .bool short, .slice A n c], .int .i64 32] w2 fun e w' => e = .returned (.string t) ∧ Below w2.heap.size w2 w')
    (HC : ∀ w2, Below w.heap.size w w2 → Calls Try.prog 26 #[.pointer (some ⟨a.d, 0, none⟩), .int .i64 oa, .string t] w2 fun e w' => e = .returned (.int .i64 r) ∧ DevIs w' a E ∧ DLeft w2 w' a) :
    Calls Try.prog 14 #[.pointer (some ⟨a.d, 0, none⟩), .agg #[.int .i64 5, .int .i64 oa, .int .i64 ob, .int .u8 fill, .bool short, .slice A n c], .slice A' n' c'] w fun e w' => e = .returned (.tuple #[.agg #[.string ⟨#[]⟩, .int .i64 r], .slice A' n' c']) ∧ DevIs w' a E ∧ DLeft w w' a := by
  obtain ⟨hb, hB⟩ := boxes_new w #[.int .i64 5, .int .i64 oa, .int .i64 ob, .int .u8 fill, .bool short, .slice A n c]
  have HB := Lib.hid hB
  have Hb := Lib.hid hb
  have H := Lib.hid h
  have Hc := Lib.hid HC
  have Ht := Lib.hid HT
  clear h HC HT hb hB
  go_enter Try.func14, Try.ntmps14
  go_wp2_with fail
  generalize (((w.alloc (.cells #[.int .i64 5, .int .i64 oa, .int .i64 ob, .int .u8 fill, .bool short, .slice A n c] 41)).alloc (.cells #[.string ⟨#[]⟩, .int .i64 0] 36)).alloc (.cells #[.string ⟨#[]⟩, .int .i64 0] 36)) = W at HB Hb ⊢
  obtain ⟨v0, v1, v2, v3, v4, v5⟩ := Hb.out.op
  have hb : Boxes W.drew w.heap.size #[.int .i64 5, .int .i64 oa, .int .i64 ob, .int .u8 fill, .bool short, .slice A n c] := ⟨Hb.out.o, Hb.out.r, Hb.out.q⟩
  have hB : Below w.heap.size w W.drew := HB.out.drew
  clear Hb HB
  have HB := Lib.hid hB
  have Hb := Lib.hid hb
  clear hb hB
  go_region_held3 (fun w' => w'.cell? ⟨w.heap.size, 0, none⟩ = some (.int .i64 5) ∧ w'.cell? ⟨w.heap.size, 1, none⟩ = some (.int .i64 oa) ∧ w'.cell? ⟨w.heap.size, 2, none⟩ = some (.int .i64 ob) ∧ w'.cell? ⟨w.heap.size, 3, none⟩ = some (.int .u8 fill) ∧ w'.cell? ⟨w.heap.size, 4, none⟩ = some (.bool short) ∧ w'.cell? ⟨w.heap.size, 5, none⟩ = some (.slice A n c)) (go_keep)
    (first
    | (go_at_call 15; refine (Ht.out _).mono ?_; rintro e w1 ⟨rfl, hB1⟩; have hb1 := Hb.out.below hB1; have Hb1 := Lib.hid hb1; have HB1 := Lib.hid (HB.out.trans (hB1.mono HB.out.size)); obtain ⟨i0, i1, i2, i3, i4, i5⟩ := hb1.op; clear hb1)
    | (go_at_call 26; refine (Hc.out _ HB1.out).mono ?_; rintro e w' ⟨rfl, hE, hF⟩; have hb2 := Hb1.out.left H.out hF; obtain ⟨y0, y1, y2, y3, f0, f1, f2, f3⟩ := hb2.facts; obtain ⟨j0, j1, j2, j3, j4, j5⟩ := hb2.op; obtain ⟨m0, m1, m2, m3, m4, m5⟩ := hb2.opq (.int .i64 r); have Hb2 := Lib.hid hb2; clear hb2))
  go_wp2_with fail
  have hb := Hb2.out
  have hF2 := (DLeft.ofBelow HB1.out).trans hF
  obtain ⟨x1, x2, x3⟩ := hb.q1 hE hF2 1 (.int .i64 r)
  obtain ⟨z1, z2, z3⟩ := do_end x1 x2 x3 (.string ⟨#[]⟩) (.int .i64 r)
  exact bodyPost_ret (v := .tuple #[.agg #[.string ⟨#[]⟩, .int .i64 r], .slice A' n' c']) (results_ct (p := 6) (q := 7) rfl _ _ (w.heap.size + 1) 36 #[.string ⟨#[]⟩, .int .i64 r] _ rfl z1 Try.underlying36 rfl (by kernel_rfl)) rfl ⟨rfl, z2, z3⟩
set_option maxRecDepth 100000 in
set_option maxHeartbeats 4000000 in
theorem do_14 (h : DevIs w a D) (oa ob : Int) (fill : Nat) (short : Bool) (A : Option Addr) (n c : Nat) (A' : Option Addr) (n' c' : Nat) (I : List ByteArray)
    (HC : ∀ w2, Below w.heap.size w w2 → Calls Try.prog 18 #[.pointer (some ⟨a.d, 0, none⟩)] w2 fun e w' => ∃ v, e = .returned v ∧ NewTexts w2 w' v I) :
    Calls Try.prog 14 #[.pointer (some ⟨a.d, 0, none⟩), .agg #[.int .i64 14, .int .i64 oa, .int .i64 ob, .int .u8 fill, .bool short, .slice A n c], .slice A' n' c'] w fun e w' => ∃ v, e = .returned (.tuple #[.agg #[.string ⟨#[]⟩, .int .i64 0], v]) ∧ DevIs w' a D ∧ DLeft w w' a ∧ Img w' v I a ∧ ∀ k, v.ownBlock = some k → w.heap.size ≤ k := by
  obtain ⟨hb, hB⟩ := boxes_new w #[.int .i64 14, .int .i64 oa, .int .i64 ob, .int .u8 fill, .bool short, .slice A n c]
  have HB := Lib.hid hB
  have Hb := Lib.hid hb
  have H := Lib.hid h
  have Hc := Lib.hid HC
  clear h HC hb hB
  go_enter Try.func14, Try.ntmps14
  go_wp2_with fail
  generalize (((w.alloc (.cells #[.int .i64 14, .int .i64 oa, .int .i64 ob, .int .u8 fill, .bool short, .slice A n c] 41)).alloc (.cells #[.string ⟨#[]⟩, .int .i64 0] 36)).alloc (.cells #[.string ⟨#[]⟩, .int .i64 0] 36)) = W at HB Hb ⊢
  obtain ⟨_, _, v2, v3, _, _, _, _⟩ := Hb.out.facts
  have hb : Boxes W.drew w.heap.size #[.int .i64 14, .int .i64 oa, .int .i64 ob, .int .u8 fill, .bool short, .slice A n c] := ⟨Hb.out.o, Hb.out.r, Hb.out.q⟩
  have hB : Below w.heap.size w W.drew := HB.out.drew
  clear Hb HB
  have HB := Lib.hid hB
  have Hb := Lib.hid hb
  clear hb hB
  go_region_held3 (fun w' => w'.cell? ⟨w.heap.size + 1 + 1, 0, none⟩ = some (.string ⟨#[]⟩) ∧ w'.cell? ⟨w.heap.size + 1 + 1, 1, none⟩ = some (.int .i64 0)) (go_keep)
    (first
    | (go_at_call 18; refine (Hc.out _ HB.out).mono ?_; rintro e w1 ⟨v, rfl, hT⟩; have hE := H.out.below (HB.out.trans (hT.2.2.mono HB.out.size)); have HI := Lib.hid (Img.fresh hT (H.out.below HB.out)); have HW : Hid (∀ k, v.ownBlock = some k → w.heap.size ≤ k) := fun k hk => Nat.le_trans HB.out.size (hT.1.lt k hk).1; have hF := DLeft.ofBelow (a := a) (HB.out.trans (hT.2.2.mono HB.out.size)); have hb2 := Hb.out.below hT.2.2; have Hb2 := Lib.hid hb2; obtain ⟨A2, n2, c2, rfl⟩ := HI.out.slice; obtain ⟨y0, y1, y2, y3, f0, f1, f2, f3⟩ := hb2.facts; obtain ⟨m0, m1⟩ := hb2.rq (.string ⟨#[]⟩) (.int .i64 0); clear hb2 hT))
  go_wp2_with fail
  obtain ⟨z1, z2, z3⟩ := do_end Hb2.out.r hE hF (.string ⟨#[]⟩) (.int .i64 0)
  have hI := HI.out.set Hb2.out.r 0 (.string ⟨#[]⟩)
  have hI2 := hI.set (Hb2.out.r.set_ 0 (.string ⟨#[]⟩)) 1 (.int .i64 0)
  exact bodyPost_ret (v := .tuple #[.agg #[.string ⟨#[]⟩, .int .i64 0], .slice A2 n2 c2]) (results_ct (p := 6) (q := 7) rfl _ _ (w.heap.size + 1) 36 #[.string ⟨#[]⟩, .int .i64 0] _ rfl z1 Try.underlying36 rfl (by kernel_rfl)) rfl ⟨_, rfl, z2, z3, hI2, HW.out⟩
end
end Go.Proofs.Ytcifkahmeimniaa
