/-
  Layer 23 (device): one operation of a script, kind by kind. (Written by a small program.)
  Layer 23 (device): one operation of a script, kind by kind. (Written by a small program.)
  Layer 23 (device): one operation of a script, kind by kind. (Written by a small program.)
-/
import Derived.Test.YtcifkahmeimniaaGreatDevX2
import Derived.Deep.RegionHeld3
namespace Go.Proofs.YtcifkahmeimniaaGreat
open Go.RowKit Go.Shelf
attribute [local go_sem] Oper.semAt_some

theorem DLeft.set {w w' : World} {a : DAt} (h : DLeft w w' a) {k : Nat} (hk : w.heap.size ≤ k) (i : Nat) (v : Value) : DLeft w (w'.setCell ⟨k, i, none⟩ v) a :=
  ⟨h.os, h.tape, h.output, by have := h.size; simpa [World.setCell] using this, fun j hj h1 h2 h3 h4 => (Below.heap_setCell w' ⟨k, i, none⟩ v j (fun e => by have : j = k := e; omega)).trans (h.rest j hj h1 h2 h3 h4)⟩
theorem DevIs.set {w : World} {a : DAt} {E : Dev} (h : DevIs w a E) {k : Nat} {cs : Array Value} (hk : Blk w k 38 cs) (i : Nat) (v : Value) : DevIs (w.setCell ⟨k, i, none⟩ v) a E := by
  have hg := grown_set w k i v
  obtain ⟨_, q1⟩ := h.mblk
  obtain ⟨_, q2⟩ := h.gblk
  refine ⟨h.blk.grown hg (fun e => h.blk.ne_ hk (by decide) (by cases e; rfl)), h.mem.grown hg (fun e => q1.ne_ hk (by decide) (by cases e; rfl)) (fun e => q2.ne_ hk (by decide) (by cases e; rfl)), h.srow.kept hg (.inr (own_blk_ne h.srow hk (by decide))), h.frow.kept hg (.inr (own_blk_ne h.frow hk (by decide)))⟩

/-- The three boxes of 'do'. -/
structure Boxes (w : World) (s : Nat) (op : Array Value) : Prop where
  o : Blk w s 43 op
  r : Blk w (s + 1) 38 #[.string ⟨#[]⟩, .int .i64 0]
  q : Blk w (s + 1 + 1) 38 #[.string ⟨#[]⟩, .int .i64 0]

section
variable {w : World} {a : DAt} {D : Dev}
theorem Boxes.left {w1 w' : World} {op : Array Value} (h : Boxes w1 w.heap.size op) (hD : DevIs w a D) (hF : DLeft w1 w' a) : Boxes w' w.heap.size op := by
  obtain ⟨l1, l2, l3, l4⟩ := hD.sizes
  exact ⟨(hF.rest _ h.o.lt (by omega) (by omega) (by omega) (by omega)).trans h.o, (hF.rest _ h.r.lt (by omega) (by omega) (by omega) (by omega)).trans h.r, (hF.rest _ h.q.lt (by omega) (by omega) (by omega) (by omega)).trans h.q⟩
theorem boxes_new (w : World) (op : Array Value) : Boxes (((w.alloc (.cells op 43)).alloc (.cells #[.string ⟨#[]⟩, .int .i64 0] 38)).alloc (.cells #[.string ⟨#[]⟩, .int .i64 0] 38)) w.heap.size op ∧ Below w.heap.size w (((w.alloc (.cells op 43)).alloc (.cells #[.string ⟨#[]⟩, .int .i64 0] 38)).alloc (.cells #[.string ⟨#[]⟩, .int .i64 0] 38)) := by
  have hs0 : (w.alloc (.cells op 43)).heap.size = w.heap.size + 1 := by simp
  have hs1 : ((w.alloc (.cells op 43)).alloc (.cells #[.string ⟨#[]⟩, .int .i64 0] 38)).heap.size = w.heap.size + 1 + 1 := by simp
  refine ⟨⟨((Blk.new w _ _).alloc _).alloc _, ?_, ?_⟩, (((Below.refl _ w).alloc (Nat.le_refl _) _).alloc (by omega) _).alloc (by omega) _⟩
  · rw [← hs0]; exact (Blk.new _ _ _).alloc _
  · rw [← hs1]; exact Blk.new _ _ _
theorem Boxes.facts {w' : World} {s : Nat} {op : Array Value} (h : Boxes w' s op) : w'.cell? ⟨s + 1, 0, none⟩ = some (.string ⟨#[]⟩) ∧ w'.cell? ⟨s + 1, 1, none⟩ = some (.int .i64 0) ∧ w'.cell? ⟨s + 1 + 1, 0, none⟩ = some (.string ⟨#[]⟩) ∧ w'.cell? ⟨s + 1 + 1, 1, none⟩ = some (.int .i64 0) ∧
    w'.frozen? ⟨s + 1, 0, none⟩ = false ∧ w'.frozen? ⟨s + 1, 1, none⟩ = false ∧ w'.frozen? ⟨s + 1 + 1, 0, none⟩ = false ∧ w'.frozen? ⟨s + 1 + 1, 1, none⟩ = false :=
  ⟨h.r.cell 0, h.r.cell 1, h.q.cell 0, h.q.cell 1, h.r.frozen 0, h.r.frozen 1, h.q.frozen 0, h.q.frozen 1⟩
/-- What stands behind the boxes' last stores. -/
theorem do_end {w2 : World} {E : Dev} (hr : Blk w2 (w.heap.size + 1) 38 #[.string ⟨#[]⟩, .int .i64 0]) (hE : DevIs w2 a E) (hF : DLeft w w2 a) (u v : Value) :
    Blk ((w2.setCell ⟨w.heap.size + 1, 0, none⟩ u).setCell ⟨w.heap.size + 1, 1, none⟩ v) (w.heap.size + 1) 38 #[u, v] ∧ DevIs ((w2.setCell ⟨w.heap.size + 1, 0, none⟩ u).setCell ⟨w.heap.size + 1, 1, none⟩ v) a E ∧ DLeft w ((w2.setCell ⟨w.heap.size + 1, 0, none⟩ u).setCell ⟨w.heap.size + 1, 1, none⟩ v) a :=
  ⟨(hr.set_ 0 u).set_ 1 v, (hE.set hr 0 u).set (hr.set_ 0 u) 1 v, (hF.set (by omega) 0 u).set (by omega) 1 v⟩
theorem Boxes.q1 {w' : World} {op : Array Value} {E : Dev} (hb : Boxes w' w.heap.size op) (hE : DevIs w' a E) (hF : DLeft w w' a) (i : Nat) (v : Value) :
    Blk (w'.setCell ⟨w.heap.size + 1 + 1, i, none⟩ v) (w.heap.size + 1) 38 #[.string ⟨#[]⟩, .int .i64 0] ∧ DevIs (w'.setCell ⟨w.heap.size + 1 + 1, i, none⟩ v) a E ∧ DLeft w (w'.setCell ⟨w.heap.size + 1 + 1, i, none⟩ v) a :=
  ⟨hb.r.other (a := ⟨w.heap.size + 1 + 1, i, none⟩) (by show w.heap.size + 1 ≠ w.heap.size + 1 + 1; omega) v, hE.set hb.q i v, hF.set (by omega) i v⟩
theorem Boxes.q2 {w' : World} {op : Array Value} {E : Dev} (hb : Boxes w' w.heap.size op) (hE : DevIs w' a E) (hF : DLeft w w' a) (u v : Value) :
    Blk ((w'.setCell ⟨w.heap.size + 1 + 1, 0, none⟩ u).setCell ⟨w.heap.size + 1 + 1, 1, none⟩ v) (w.heap.size + 1) 38 #[.string ⟨#[]⟩, .int .i64 0] ∧ DevIs ((w'.setCell ⟨w.heap.size + 1 + 1, 0, none⟩ u).setCell ⟨w.heap.size + 1 + 1, 1, none⟩ v) a E ∧ DLeft w ((w'.setCell ⟨w.heap.size + 1 + 1, 0, none⟩ u).setCell ⟨w.heap.size + 1 + 1, 1, none⟩ v) a :=
  ⟨(hb.r.other (a := ⟨w.heap.size + 1 + 1, 0, none⟩) (by show w.heap.size + 1 ≠ w.heap.size + 1 + 1; omega) u).other (a := ⟨w.heap.size + 1 + 1, 1, none⟩) (by show w.heap.size + 1 ≠ w.heap.size + 1 + 1; omega) v, (hE.set hb.q 0 u).set (hb.q.set_ 0 u) 1 v, (hF.set (by omega) 0 u).set (by omega) 1 v⟩
set_option maxRecDepth 100000 in
set_option maxHeartbeats 4000000 in
theorem do_1 (h : DevIs w a D) (oa ob : Int) (fill : Nat) (short : Bool) (A : Option Addr) (n c : Nat) (A' : Option Addr) (n' c' : Nat) (t : ByteArray) (r : Int) (E : Dev)
    (HC : ∀ w2, Below w.heap.size w w2 → Calls Tryz.prog 35 #[.pointer (some ⟨a.d, 0, none⟩), .int .i64 oa] w2 fun e w' => e = .returned (.tuple #[.string t, .int .i64 r]) ∧ DevIs w' a E ∧ DLeft w2 w' a) :
    Calls Tryz.prog 10 #[.pointer (some ⟨a.d, 0, none⟩), .agg #[.int .i64 1, .int .i64 oa, .int .i64 ob, .int .u8 fill, .bool short, .slice A n c], .slice A' n' c'] w fun e w' => e = .returned (.tuple #[.agg #[.string t, .int .i64 r], .slice A' n' c']) ∧ DevIs w' a E ∧ DLeft w w' a := by
  obtain ⟨hb, hB⟩ := boxes_new w #[.int .i64 1, .int .i64 oa, .int .i64 ob, .int .u8 fill, .bool short, .slice A n c]
  have HB := Lib.hid hB
  have Hb := Lib.hid hb
  have H := Lib.hid h
  have Hc := Lib.hid (HC _ hB)
  clear h HC hb hB
  go_enter Tryz.func10, Tryz.ntmps10
  go_wp2_with (first | (go_at_call 35; refine Hc.out.mono ?_; rintro e w' ⟨rfl, hE, hF⟩; obtain ⟨y0, y1, y2, y3, f0, f1, f2, f3⟩ := (Hb.out.left H.out hF).facts))
  have hb := Hb.out.left H.out hF
  have hF2 := (DLeft.ofBelow HB.out).trans hF
  obtain ⟨x1, x2, x3⟩ := hb.q2 hE hF2 (.string t) (.int .i64 r)
  obtain ⟨z1, z2, z3⟩ := do_end x1 x2 x3 (.string t) (.int .i64 r)
  exact bodyPost_ret (v := .tuple #[.agg #[.string t, .int .i64 r], .slice A' n' c']) (results_ct (p := 6) (q := 7) rfl _ _ (w.heap.size + 1) 38 #[.string t, .int .i64 r] _ rfl z1 Tryz.underlying38 rfl (by kernel_rfl)) rfl ⟨rfl, z2, z3⟩
set_option maxRecDepth 100000 in
set_option maxHeartbeats 4000000 in
theorem do_3 (h : DevIs w a D) (oa ob : Int) (fill : Nat) (short : Bool) (A : Option Addr) (n c : Nat) (A' : Option Addr) (n' c' : Nat) (r : Int) (E : Dev)
    (HC : ∀ w2, Below w.heap.size w w2 → Calls Tryz.prog 37 #[.pointer (some ⟨a.d, 0, none⟩)] w2 fun e w' => e = .returned (.int .i64 r) ∧ DevIs w' a E ∧ DLeft w2 w' a) :
    Calls Tryz.prog 10 #[.pointer (some ⟨a.d, 0, none⟩), .agg #[.int .i64 3, .int .i64 oa, .int .i64 ob, .int .u8 fill, .bool short, .slice A n c], .slice A' n' c'] w fun e w' => e = .returned (.tuple #[.agg #[.string ⟨#[]⟩, .int .i64 r], .slice A' n' c']) ∧ DevIs w' a E ∧ DLeft w w' a := by
  obtain ⟨hb, hB⟩ := boxes_new w #[.int .i64 3, .int .i64 oa, .int .i64 ob, .int .u8 fill, .bool short, .slice A n c]
  have HB := Lib.hid hB
  have Hb := Lib.hid hb
  have H := Lib.hid h
  have Hc := Lib.hid (HC _ hB)
  clear h HC hb hB
  go_enter Tryz.func10, Tryz.ntmps10
  go_wp2_with (first | (go_at_call 37; refine Hc.out.mono ?_; rintro e w' ⟨rfl, hE, hF⟩; obtain ⟨y0, y1, y2, y3, f0, f1, f2, f3⟩ := (Hb.out.left H.out hF).facts))
  have hb := Hb.out.left H.out hF
  have hF2 := (DLeft.ofBelow HB.out).trans hF
  obtain ⟨x1, x2, x3⟩ := hb.q1 hE hF2 1 (.int .i64 r)
  obtain ⟨z1, z2, z3⟩ := do_end x1 x2 x3 (.string ⟨#[]⟩) (.int .i64 r)
  exact bodyPost_ret (v := .tuple #[.agg #[.string ⟨#[]⟩, .int .i64 r], .slice A' n' c']) (results_ct (p := 6) (q := 7) rfl _ _ (w.heap.size + 1) 38 #[.string ⟨#[]⟩, .int .i64 r] _ rfl z1 Tryz.underlying38 rfl (by kernel_rfl)) rfl ⟨rfl, z2, z3⟩
set_option maxRecDepth 100000 in
set_option maxHeartbeats 4000000 in
theorem do_4 (h : DevIs w a D) (oa ob : Int) (fill : Nat) (short : Bool) (A : Option Addr) (n c : Nat) (A' : Option Addr) (n' c' : Nat) (t : ByteArray) (r : Int) (E : Dev)
    (HC : ∀ w2, Below w.heap.size w w2 → Calls Tryz.prog 21 #[.pointer (some ⟨a.d, 0, none⟩), .int .i64 oa] w2 fun e w' => e = .returned (.tuple #[.string t, .int .i64 r]) ∧ DevIs w' a E ∧ DLeft w2 w' a) :
    Calls Tryz.prog 10 #[.pointer (some ⟨a.d, 0, none⟩), .agg #[.int .i64 4, .int .i64 oa, .int .i64 ob, .int .u8 fill, .bool short, .slice A n c], .slice A' n' c'] w fun e w' => e = .returned (.tuple #[.agg #[.string t, .int .i64 r], .slice A' n' c']) ∧ DevIs w' a E ∧ DLeft w w' a := by
  obtain ⟨hb, hB⟩ := boxes_new w #[.int .i64 4, .int .i64 oa, .int .i64 ob, .int .u8 fill, .bool short, .slice A n c]
  have HB := Lib.hid hB
  have Hb := Lib.hid hb
  have H := Lib.hid h
  have Hc := Lib.hid (HC _ hB)
  clear h HC hb hB
  go_enter Tryz.func10, Tryz.ntmps10
  go_wp2_with (first | (go_at_call 21; refine Hc.out.mono ?_; rintro e w' ⟨rfl, hE, hF⟩; obtain ⟨y0, y1, y2, y3, f0, f1, f2, f3⟩ := (Hb.out.left H.out hF).facts))
  have hb := Hb.out.left H.out hF
  have hF2 := (DLeft.ofBelow HB.out).trans hF
  obtain ⟨x1, x2, x3⟩ := hb.q2 hE hF2 (.string t) (.int .i64 r)
  obtain ⟨z1, z2, z3⟩ := do_end x1 x2 x3 (.string t) (.int .i64 r)
  exact bodyPost_ret (v := .tuple #[.agg #[.string t, .int .i64 r], .slice A' n' c']) (results_ct (p := 6) (q := 7) rfl _ _ (w.heap.size + 1) 38 #[.string t, .int .i64 r] _ rfl z1 Tryz.underlying38 rfl (by kernel_rfl)) rfl ⟨rfl, z2, z3⟩
set_option maxRecDepth 100000 in
set_option maxHeartbeats 4000000 in
theorem do_6 (h : DevIs w a D) (oa ob : Int) (fill : Nat) (short : Bool) (A : Option Addr) (n c : Nat) (A' : Option Addr) (n' c' : Nat) (r : Int) (E : Dev)
    (HC : ∀ w2, Below w.heap.size w w2 → Calls Tryz.prog 16 #[.pointer (some ⟨a.d, 0, none⟩), .int .i64 oa] w2 fun e w' => e = .returned (.int .i64 r) ∧ DevIs w' a E ∧ DLeft w2 w' a) :
    Calls Tryz.prog 10 #[.pointer (some ⟨a.d, 0, none⟩), .agg #[.int .i64 6, .int .i64 oa, .int .i64 ob, .int .u8 fill, .bool short, .slice A n c], .slice A' n' c'] w fun e w' => e = .returned (.tuple #[.agg #[.string ⟨#[]⟩, .int .i64 r], .slice A' n' c']) ∧ DevIs w' a E ∧ DLeft w w' a := by
  obtain ⟨hb, hB⟩ := boxes_new w #[.int .i64 6, .int .i64 oa, .int .i64 ob, .int .u8 fill, .bool short, .slice A n c]
  have HB := Lib.hid hB
  have Hb := Lib.hid hb
  have H := Lib.hid h
  have Hc := Lib.hid (HC _ hB)
  clear h HC hb hB
  go_enter Tryz.func10, Tryz.ntmps10
  go_wp2_with (first | (go_at_call 16; refine Hc.out.mono ?_; rintro e w' ⟨rfl, hE, hF⟩; obtain ⟨y0, y1, y2, y3, f0, f1, f2, f3⟩ := (Hb.out.left H.out hF).facts))
  have hb := Hb.out.left H.out hF
  have hF2 := (DLeft.ofBelow HB.out).trans hF
  obtain ⟨x1, x2, x3⟩ := hb.q1 hE hF2 1 (.int .i64 r)
  obtain ⟨z1, z2, z3⟩ := do_end x1 x2 x3 (.string ⟨#[]⟩) (.int .i64 r)
  exact bodyPost_ret (v := .tuple #[.agg #[.string ⟨#[]⟩, .int .i64 r], .slice A' n' c']) (results_ct (p := 6) (q := 7) rfl _ _ (w.heap.size + 1) 38 #[.string ⟨#[]⟩, .int .i64 r] _ rfl z1 Tryz.underlying38 rfl (by kernel_rfl)) rfl ⟨rfl, z2, z3⟩
set_option maxRecDepth 100000 in
set_option maxHeartbeats 4000000 in
theorem do_7 (h : DevIs w a D) (oa ob : Int) (fill : Nat) (short : Bool) (A : Option Addr) (n c : Nat) (A' : Option Addr) (n' c' : Nat) (r : Int) (E : Dev)
    (HC : ∀ w2, Below w.heap.size w w2 → Calls Tryz.prog 22 #[.pointer (some ⟨a.d, 0, none⟩), .int .i64 oa] w2 fun e w' => e = .returned (.int .i64 r) ∧ DevIs w' a E ∧ DLeft w2 w' a) :
    Calls Tryz.prog 10 #[.pointer (some ⟨a.d, 0, none⟩), .agg #[.int .i64 7, .int .i64 oa, .int .i64 ob, .int .u8 fill, .bool short, .slice A n c], .slice A' n' c'] w fun e w' => e = .returned (.tuple #[.agg #[.string ⟨#[]⟩, .int .i64 r], .slice A' n' c']) ∧ DevIs w' a E ∧ DLeft w w' a := by
  obtain ⟨hb, hB⟩ := boxes_new w #[.int .i64 7, .int .i64 oa, .int .i64 ob, .int .u8 fill, .bool short, .slice A n c]
  have HB := Lib.hid hB
  have Hb := Lib.hid hb
  have H := Lib.hid h
  have Hc := Lib.hid (HC _ hB)
  clear h HC hb hB
  go_enter Tryz.func10, Tryz.ntmps10
  go_wp2_with (first | (go_at_call 22; refine Hc.out.mono ?_; rintro e w' ⟨rfl, hE, hF⟩; obtain ⟨y0, y1, y2, y3, f0, f1, f2, f3⟩ := (Hb.out.left H.out hF).facts))
  have hb := Hb.out.left H.out hF
  have hF2 := (DLeft.ofBelow HB.out).trans hF
  obtain ⟨x1, x2, x3⟩ := hb.q1 hE hF2 1 (.int .i64 r)
  obtain ⟨z1, z2, z3⟩ := do_end x1 x2 x3 (.string ⟨#[]⟩) (.int .i64 r)
  exact bodyPost_ret (v := .tuple #[.agg #[.string ⟨#[]⟩, .int .i64 r], .slice A' n' c']) (results_ct (p := 6) (q := 7) rfl _ _ (w.heap.size + 1) 38 #[.string ⟨#[]⟩, .int .i64 r] _ rfl z1 Tryz.underlying38 rfl (by kernel_rfl)) rfl ⟨rfl, z2, z3⟩
set_option maxRecDepth 100000 in
set_option maxHeartbeats 4000000 in
theorem do_8 (h : DevIs w a D) (oa ob : Int) (fill : Nat) (short : Bool) (A : Option Addr) (n c : Nat) (A' : Option Addr) (n' c' : Nat) (r : Int) (E : Dev)
    (HC : ∀ w2, Below w.heap.size w w2 → Calls Tryz.prog 19 #[.pointer (some ⟨a.d, 0, none⟩), .int .i64 oa] w2 fun e w' => e = .returned (.int .i64 r) ∧ DevIs w' a E ∧ DLeft w2 w' a) :
    Calls Tryz.prog 10 #[.pointer (some ⟨a.d, 0, none⟩), .agg #[.int .i64 8, .int .i64 oa, .int .i64 ob, .int .u8 fill, .bool short, .slice A n c], .slice A' n' c'] w fun e w' => e = .returned (.tuple #[.agg #[.string ⟨#[]⟩, .int .i64 r], .slice A' n' c']) ∧ DevIs w' a E ∧ DLeft w w' a := by
  obtain ⟨hb, hB⟩ := boxes_new w #[.int .i64 8, .int .i64 oa, .int .i64 ob, .int .u8 fill, .bool short, .slice A n c]
  have HB := Lib.hid hB
  have Hb := Lib.hid hb
  have H := Lib.hid h
  have Hc := Lib.hid (HC _ hB)
  clear h HC hb hB
  go_enter Tryz.func10, Tryz.ntmps10
  go_wp2_with (first | (go_at_call 19; refine Hc.out.mono ?_; rintro e w' ⟨rfl, hE, hF⟩; obtain ⟨y0, y1, y2, y3, f0, f1, f2, f3⟩ := (Hb.out.left H.out hF).facts))
  have hb := Hb.out.left H.out hF
  have hF2 := (DLeft.ofBelow HB.out).trans hF
  obtain ⟨x1, x2, x3⟩ := hb.q1 hE hF2 1 (.int .i64 r)
  obtain ⟨z1, z2, z3⟩ := do_end x1 x2 x3 (.string ⟨#[]⟩) (.int .i64 r)
  exact bodyPost_ret (v := .tuple #[.agg #[.string ⟨#[]⟩, .int .i64 r], .slice A' n' c']) (results_ct (p := 6) (q := 7) rfl _ _ (w.heap.size + 1) 38 #[.string ⟨#[]⟩, .int .i64 r] _ rfl z1 Tryz.underlying38 rfl (by kernel_rfl)) rfl ⟨rfl, z2, z3⟩
end
end Go.Proofs.YtcifkahmeimniaaGreat
namespace Go.Proofs.YtcifkahmeimniaaGreat
open Go.RowKit Go.Shelf
attribute [local go_sem] Oper.semAt_some

section
variable {w : World} {a : DAt} {D : Dev}
set_option maxRecDepth 100000 in
set_option maxHeartbeats 4000000 in
theorem do_9 (h : DevIs w a D) (oa ob : Int) (fill : Nat) (short : Bool) (A : Option Addr) (n c : Nat) (A' : Option Addr) (n' c' : Nat) (E : Dev)
    (HC : ∀ w2, Below w.heap.size w w2 → Calls Tryz.prog 14 #[.pointer (some ⟨a.d, 0, none⟩), .int .i64 oa] w2 fun e w' => e = .returned (.tuple #[]) ∧ DevIs w' a E ∧ DLeft w2 w' a) :
    Calls Tryz.prog 10 #[.pointer (some ⟨a.d, 0, none⟩), .agg #[.int .i64 9, .int .i64 oa, .int .i64 ob, .int .u8 fill, .bool short, .slice A n c], .slice A' n' c'] w fun e w' => e = .returned (.tuple #[.agg #[.string ⟨#[]⟩, .int .i64 0], .slice A' n' c']) ∧ DevIs w' a E ∧ DLeft w w' a := by
  obtain ⟨hb, hB⟩ := boxes_new w #[.int .i64 9, .int .i64 oa, .int .i64 ob, .int .u8 fill, .bool short, .slice A n c]
  have HB := Lib.hid hB
  have Hb := Lib.hid hb
  have H := Lib.hid h
  have Hc := Lib.hid (HC _ hB)
  clear h HC hb hB
  go_enter Tryz.func10, Tryz.ntmps10
  go_wp2_with (first | (go_at_call 14; refine Hc.out.mono ?_; rintro e w' ⟨rfl, hE, hF⟩; obtain ⟨y0, y1, y2, y3, f0, f1, f2, f3⟩ := (Hb.out.left H.out hF).facts))
  have hb := Hb.out.left H.out hF
  have hF2 := (DLeft.ofBelow HB.out).trans hF
  obtain ⟨z1, z2, z3⟩ := do_end hb.r hE hF2 (.string ⟨#[]⟩) (.int .i64 0)
  exact bodyPost_ret (v := .tuple #[.agg #[.string ⟨#[]⟩, .int .i64 0], .slice A' n' c']) (results_ct (p := 6) (q := 7) rfl _ _ (w.heap.size + 1) 38 #[.string ⟨#[]⟩, .int .i64 0] _ rfl z1 Tryz.underlying38 rfl (by kernel_rfl)) rfl ⟨rfl, z2, z3⟩
set_option maxRecDepth 100000 in
set_option maxHeartbeats 4000000 in
theorem do_10 (h : DevIs w a D) (oa ob : Int) (fill : Nat) (short : Bool) (A : Option Addr) (n c : Nat) (A' : Option Addr) (n' c' : Nat) (E : Dev)
    (HC : ∀ w2, Below w.heap.size w w2 → Calls Tryz.prog 20 #[.pointer (some ⟨a.d, 0, none⟩), .slice A n c] w2 fun e w' => e = .returned (.tuple #[]) ∧ DevIs w' a E ∧ DLeft w2 w' a) :
    Calls Tryz.prog 10 #[.pointer (some ⟨a.d, 0, none⟩), .agg #[.int .i64 10, .int .i64 oa, .int .i64 ob, .int .u8 fill, .bool short, .slice A n c], .slice A' n' c'] w fun e w' => e = .returned (.tuple #[.agg #[.string ⟨#[]⟩, .int .i64 0], .slice A' n' c']) ∧ DevIs w' a E ∧ DLeft w w' a := by
  obtain ⟨hb, hB⟩ := boxes_new w #[.int .i64 10, .int .i64 oa, .int .i64 ob, .int .u8 fill, .bool short, .slice A n c]
  have HB := Lib.hid hB
  have Hb := Lib.hid hb
  have H := Lib.hid h
  have Hc := Lib.hid (HC _ hB)
  clear h HC hb hB
  go_enter Tryz.func10, Tryz.ntmps10
  go_wp2_with (first | (go_at_call 20; refine Hc.out.mono ?_; rintro e w' ⟨rfl, hE, hF⟩; obtain ⟨y0, y1, y2, y3, f0, f1, f2, f3⟩ := (Hb.out.left H.out hF).facts))
  have hb := Hb.out.left H.out hF
  have hF2 := (DLeft.ofBelow HB.out).trans hF
  obtain ⟨z1, z2, z3⟩ := do_end hb.r hE hF2 (.string ⟨#[]⟩) (.int .i64 0)
  exact bodyPost_ret (v := .tuple #[.agg #[.string ⟨#[]⟩, .int .i64 0], .slice A' n' c']) (results_ct (p := 6) (q := 7) rfl _ _ (w.heap.size + 1) 38 #[.string ⟨#[]⟩, .int .i64 0] _ rfl z1 Tryz.underlying38 rfl (by kernel_rfl)) rfl ⟨rfl, z2, z3⟩
set_option maxRecDepth 100000 in
set_option maxHeartbeats 4000000 in
theorem do_11 (h : DevIs w a D) (oa ob : Int) (fill : Nat) (short : Bool) (A : Option Addr) (n c : Nat) (A' : Option Addr) (n' c' : Nat) (E : Dev)
    (HC : ∀ w2, Below w.heap.size w w2 → Calls Tryz.prog 28 #[.pointer (some ⟨a.d, 0, none⟩)] w2 fun e w' => e = .returned (.tuple #[]) ∧ DevIs w' a E ∧ DLeft w2 w' a) :
    Calls Tryz.prog 10 #[.pointer (some ⟨a.d, 0, none⟩), .agg #[.int .i64 11, .int .i64 oa, .int .i64 ob, .int .u8 fill, .bool short, .slice A n c], .slice A' n' c'] w fun e w' => e = .returned (.tuple #[.agg #[.string ⟨#[]⟩, .int .i64 0], .slice A' n' c']) ∧ DevIs w' a E ∧ DLeft w w' a := by
  obtain ⟨hb, hB⟩ := boxes_new w #[.int .i64 11, .int .i64 oa, .int .i64 ob, .int .u8 fill, .bool short, .slice A n c]
  have HB := Lib.hid hB
  have Hb := Lib.hid hb
  have H := Lib.hid h
  have Hc := Lib.hid (HC _ hB)
  clear h HC hb hB
  go_enter Tryz.func10, Tryz.ntmps10
  go_wp2_with (first | (go_at_call 28; refine Hc.out.mono ?_; rintro e w' ⟨rfl, hE, hF⟩; obtain ⟨y0, y1, y2, y3, f0, f1, f2, f3⟩ := (Hb.out.left H.out hF).facts))
  have hb := Hb.out.left H.out hF
  have hF2 := (DLeft.ofBelow HB.out).trans hF
  obtain ⟨z1, z2, z3⟩ := do_end hb.r hE hF2 (.string ⟨#[]⟩) (.int .i64 0)
  exact bodyPost_ret (v := .tuple #[.agg #[.string ⟨#[]⟩, .int .i64 0], .slice A' n' c']) (results_ct (p := 6) (q := 7) rfl _ _ (w.heap.size + 1) 38 #[.string ⟨#[]⟩, .int .i64 0] _ rfl z1 Tryz.underlying38 rfl (by kernel_rfl)) rfl ⟨rfl, z2, z3⟩
set_option maxRecDepth 100000 in
set_option maxHeartbeats 4000000 in
theorem do_12 (h : DevIs w a D) (oa ob : Int) (fill : Nat) (short : Bool) (A : Option Addr) (n c : Nat) (A' : Option Addr) (n' c' : Nat) (r : Int) (E : Dev)
    (HC : ∀ w2, Below w.heap.size w w2 → Calls Tryz.prog 38 #[.pointer (some ⟨a.d, 0, none⟩), .int .i64 oa] w2 fun e w' => e = .returned (.int .i64 r) ∧ DevIs w' a E ∧ DLeft w2 w' a) :
    Calls Tryz.prog 10 #[.pointer (some ⟨a.d, 0, none⟩), .agg #[.int .i64 12, .int .i64 oa, .int .i64 ob, .int .u8 fill, .bool short, .slice A n c], .slice A' n' c'] w fun e w' => e = .returned (.tuple #[.agg #[.string ⟨#[]⟩, .int .i64 r], .slice A' n' c']) ∧ DevIs w' a E ∧ DLeft w w' a := by
  obtain ⟨hb, hB⟩ := boxes_new w #[.int .i64 12, .int .i64 oa, .int .i64 ob, .int .u8 fill, .bool short, .slice A n c]
  have HB := Lib.hid hB
  have Hb := Lib.hid hb
  have H := Lib.hid h
  have Hc := Lib.hid (HC _ hB)
  clear h HC hb hB
  go_enter Tryz.func10, Tryz.ntmps10
  go_wp2_with (first | (go_at_call 38; refine Hc.out.mono ?_; rintro e w' ⟨rfl, hE, hF⟩; obtain ⟨y0, y1, y2, y3, f0, f1, f2, f3⟩ := (Hb.out.left H.out hF).facts))
  have hb := Hb.out.left H.out hF
  have hF2 := (DLeft.ofBelow HB.out).trans hF
  obtain ⟨x1, x2, x3⟩ := hb.q1 hE hF2 1 (.int .i64 r)
  obtain ⟨z1, z2, z3⟩ := do_end x1 x2 x3 (.string ⟨#[]⟩) (.int .i64 r)
  exact bodyPost_ret (v := .tuple #[.agg #[.string ⟨#[]⟩, .int .i64 r], .slice A' n' c']) (results_ct (p := 6) (q := 7) rfl _ _ (w.heap.size + 1) 38 #[.string ⟨#[]⟩, .int .i64 r] _ rfl z1 Tryz.underlying38 rfl (by kernel_rfl)) rfl ⟨rfl, z2, z3⟩
set_option maxRecDepth 100000 in
set_option maxHeartbeats 4000000 in
theorem do_13 (h : DevIs w a D) (oa ob : Int) (fill : Nat) (short : Bool) (A : Option Addr) (n c : Nat) (A' : Option Addr) (n' c' : Nat) (r : Int) (E : Dev)
    (HC : ∀ w2, Below w.heap.size w w2 → Calls Tryz.prog 39 #[.pointer (some ⟨a.d, 0, none⟩), .int .i64 oa] w2 fun e w' => e = .returned (.int .i64 r) ∧ DevIs w' a E ∧ DLeft w2 w' a) :
    Calls Tryz.prog 10 #[.pointer (some ⟨a.d, 0, none⟩), .agg #[.int .i64 13, .int .i64 oa, .int .i64 ob, .int .u8 fill, .bool short, .slice A n c], .slice A' n' c'] w fun e w' => e = .returned (.tuple #[.agg #[.string ⟨#[]⟩, .int .i64 r], .slice A' n' c']) ∧ DevIs w' a E ∧ DLeft w w' a := by
  obtain ⟨hb, hB⟩ := boxes_new w #[.int .i64 13, .int .i64 oa, .int .i64 ob, .int .u8 fill, .bool short, .slice A n c]
  have HB := Lib.hid hB
  have Hb := Lib.hid hb
  have H := Lib.hid h
  have Hc := Lib.hid (HC _ hB)
  clear h HC hb hB
  go_enter Tryz.func10, Tryz.ntmps10
  go_wp2_with (first | (go_at_call 39; refine Hc.out.mono ?_; rintro e w' ⟨rfl, hE, hF⟩; obtain ⟨y0, y1, y2, y3, f0, f1, f2, f3⟩ := (Hb.out.left H.out hF).facts))
  have hb := Hb.out.left H.out hF
  have hF2 := (DLeft.ofBelow HB.out).trans hF
  obtain ⟨x1, x2, x3⟩ := hb.q1 hE hF2 1 (.int .i64 r)
  obtain ⟨z1, z2, z3⟩ := do_end x1 x2 x3 (.string ⟨#[]⟩) (.int .i64 r)
  exact bodyPost_ret (v := .tuple #[.agg #[.string ⟨#[]⟩, .int .i64 r], .slice A' n' c']) (results_ct (p := 6) (q := 7) rfl _ _ (w.heap.size + 1) 38 #[.string ⟨#[]⟩, .int .i64 r] _ rfl z1 Tryz.underlying38 rfl (by kernel_rfl)) rfl ⟨rfl, z2, z3⟩
set_option maxRecDepth 100000 in
set_option maxHeartbeats 4000000 in
theorem do_15 (h : DevIs w a D) (oa ob : Int) (fill : Nat) (short : Bool) (A : Option Addr) (n c : Nat) (A' : Option Addr) (n' c' : Nat) (r : Int) (E : Dev)
    (HC : ∀ w2, Below w.heap.size w w2 → Calls Tryz.prog 40 #[.pointer (some ⟨a.d, 0, none⟩), .slice A' n' c'] w2 fun e w' => e = .returned (.int .i64 r) ∧ DevIs w' a E ∧ DLeft w2 w' a) :
    Calls Tryz.prog 10 #[.pointer (some ⟨a.d, 0, none⟩), .agg #[.int .i64 15, .int .i64 oa, .int .i64 ob, .int .u8 fill, .bool short, .slice A n c], .slice A' n' c'] w fun e w' => e = .returned (.tuple #[.agg #[.string ⟨#[]⟩, .int .i64 r], .slice A' n' c']) ∧ DevIs w' a E ∧ DLeft w w' a := by
  obtain ⟨hb, hB⟩ := boxes_new w #[.int .i64 15, .int .i64 oa, .int .i64 ob, .int .u8 fill, .bool short, .slice A n c]
  have HB := Lib.hid hB
  have Hb := Lib.hid hb
  have H := Lib.hid h
  have Hc := Lib.hid (HC _ hB)
  clear h HC hb hB
  go_enter Tryz.func10, Tryz.ntmps10
  go_wp2_with (first | (go_at_call 40; refine Hc.out.mono ?_; rintro e w' ⟨rfl, hE, hF⟩; obtain ⟨y0, y1, y2, y3, f0, f1, f2, f3⟩ := (Hb.out.left H.out hF).facts))
  have hb := Hb.out.left H.out hF
  have hF2 := (DLeft.ofBelow HB.out).trans hF
  obtain ⟨x1, x2, x3⟩ := hb.q1 hE hF2 1 (.int .i64 r)
  obtain ⟨z1, z2, z3⟩ := do_end x1 x2 x3 (.string ⟨#[]⟩) (.int .i64 r)
  exact bodyPost_ret (v := .tuple #[.agg #[.string ⟨#[]⟩, .int .i64 r], .slice A' n' c']) (results_ct (p := 6) (q := 7) rfl _ _ (w.heap.size + 1) 38 #[.string ⟨#[]⟩, .int .i64 r] _ rfl z1 Tryz.underlying38 rfl (by kernel_rfl)) rfl ⟨rfl, z2, z3⟩
set_option maxRecDepth 100000 in
set_option maxHeartbeats 4000000 in
theorem do_other (h : DevIs w a D) (k : Int) (hk : k < 1 ∨ 15 < k) (oa ob : Int) (fill : Nat) (short : Bool) (A : Option Addr) (n c : Nat) (A' : Option Addr) (n' c' : Nat) :
    Calls Tryz.prog 10 #[.pointer (some ⟨a.d, 0, none⟩), .agg #[.int .i64 k, .int .i64 oa, .int .i64 ob, .int .u8 fill, .bool short, .slice A n c], .slice A' n' c'] w fun e w' => e = .returned (.tuple #[.agg #[.string ⟨#[]⟩, .int .i64 0], .slice A' n' c']) ∧ DevIs w' a D ∧ DLeft w w' a := by
  obtain ⟨hb, hB⟩ := boxes_new w #[.int .i64 k, .int .i64 oa, .int .i64 ob, .int .u8 fill, .bool short, .slice A n c]
  have HB := Lib.hid hB
  have Hb := Lib.hid hb
  have HE := Lib.hid (h.below hB)
  have b1 : (k == 1) = false := beq_f (by omega)
  have b2 : (k == 2) = false := beq_f (by omega)
  have b3 : (k == 3) = false := beq_f (by omega)
  have b4 : (k == 4) = false := beq_f (by omega)
  have b5 : (k == 5) = false := beq_f (by omega)
  have b6 : (k == 6) = false := beq_f (by omega)
  have b7 : (k == 7) = false := beq_f (by omega)
  have b8 : (k == 8) = false := beq_f (by omega)
  have b9 : (k == 9) = false := beq_f (by omega)
  have b10 : (k == 10) = false := beq_f (by omega)
  have b11 : (k == 11) = false := beq_f (by omega)
  have b12 : (k == 12) = false := beq_f (by omega)
  have b13 : (k == 13) = false := beq_f (by omega)
  have b14 : (k == 14) = false := beq_f (by omega)
  have b15 : (k == 15) = false := beq_f (by omega)
  clear h hb hB hk
  go_enter Tryz.func10, Tryz.ntmps10
  go_wp2_with fail
  have z1 := Hb.out.r
  have z2 := HE.out
  have z3 : DLeft w _ a := DLeft.ofBelow HB.out
  exact bodyPost_ret (v := .tuple #[.agg #[.string ⟨#[]⟩, .int .i64 0], .slice A' n' c']) (results_ct (p := 6) (q := 7) rfl _ _ (w.heap.size + 1) 38 #[.string ⟨#[]⟩, .int .i64 0] _ rfl z1 Tryz.underlying38 rfl (by kernel_rfl)) rfl ⟨rfl, z2, z3⟩
end
end Go.Proofs.YtcifkahmeimniaaGreat
namespace Go.Proofs.YtcifkahmeimniaaGreat
open Go.RowKit Go.Shelf
attribute [local go_sem] Oper.semAt_some

section
variable {w : World} {a : DAt} {D : Dev}
theorem Boxes.rq {w' : World} {s : Nat} {op : Array Value} (h : Boxes w' s op) (u v : Value) : ((w'.setCell ⟨s + 1, 0, none⟩ u).setCell ⟨s + 1, 1, none⟩ v).cell? ⟨s + 1 + 1, 0, none⟩ = some (.string ⟨#[]⟩) ∧ ((w'.setCell ⟨s + 1, 0, none⟩ u).setCell ⟨s + 1, 1, none⟩ v).cell? ⟨s + 1 + 1, 1, none⟩ = some (.int .i64 0) := by
  have h2 := (h.q.other (a := ⟨s + 1, 0, none⟩) (by show s + 1 + 1 ≠ s + 1; omega) u).other (a := ⟨s + 1, 1, none⟩) (by show s + 1 + 1 ≠ s + 1; omega) v
  exact ⟨h2.cell 0, h2.cell 1⟩
theorem Img.set {v : Value} {I : List ByteArray} {w : World} {a : DAt} (h : Img w v I a) {k : Nat} {cs : Array Value} (hk : Blk w k 38 cs) (i : Nat) (u : Value) : Img (w.setCell ⟨k, i, none⟩ u) v I a :=
  ⟨World.ownsRow.kept h.texts (grown_set w k i u) (.inr (own_blk_ne h.texts hk (by decide))), h.own⟩
theorem Boxes.op {w' : World} {s : Nat} {x0 x1 x2 x3 x4 x5 : Value} (h : Boxes w' s #[x0, x1, x2, x3, x4, x5]) : w'.cell? ⟨s, 0, none⟩ = some x0 ∧ w'.cell? ⟨s, 1, none⟩ = some x1 ∧ w'.cell? ⟨s, 2, none⟩ = some x2 ∧ w'.cell? ⟨s, 3, none⟩ = some x3 ∧ w'.cell? ⟨s, 4, none⟩ = some x4 ∧ w'.cell? ⟨s, 5, none⟩ = some x5 :=
  ⟨h.o.cell 0, h.o.cell 1, h.o.cell 2, h.o.cell 3, h.o.cell 4, h.o.cell 5⟩
theorem Boxes.opq {w' : World} {s : Nat} {x0 x1 x2 x3 x4 x5 : Value} (h : Boxes w' s #[x0, x1, x2, x3, x4, x5]) (v : Value) : (w'.setCell ⟨s + 1 + 1, 1, none⟩ v).cell? ⟨s, 0, none⟩ = some x0 ∧ (w'.setCell ⟨s + 1 + 1, 1, none⟩ v).cell? ⟨s, 1, none⟩ = some x1 ∧ (w'.setCell ⟨s + 1 + 1, 1, none⟩ v).cell? ⟨s, 2, none⟩ = some x2 ∧ (w'.setCell ⟨s + 1 + 1, 1, none⟩ v).cell? ⟨s, 3, none⟩ = some x3 ∧ (w'.setCell ⟨s + 1 + 1, 1, none⟩ v).cell? ⟨s, 4, none⟩ = some x4 ∧ (w'.setCell ⟨s + 1 + 1, 1, none⟩ v).cell? ⟨s, 5, none⟩ = some x5 := by
  have h2 := h.o.other (a := ⟨s + 1 + 1, 1, none⟩) (by show s ≠ s + 1 + 1; omega) v
  exact ⟨h2.cell 0, h2.cell 1, h2.cell 2, h2.cell 3, h2.cell 4, h2.cell 5⟩
theorem Boxes.below {w1 w' : World} {s : Nat} {op : Array Value} (h : Boxes w1 s op) (hB : Below w1.heap.size w1 w') : Boxes w' s op := ⟨h.o.below hB h.o.lt, h.r.below hB h.r.lt, h.q.below hB h.q.lt⟩
set_option maxRecDepth 100000 in
set_option maxHeartbeats 4000000 in
theorem do_2 (h : DevIs w a D) (oa ob : Int) (fill : Nat) (short : Bool) (A : Option Addr) (n c : Nat) (A' : Option Addr) (n' c' : Nat) (t : ByteArray) (r : Int) (E : Dev)
    (HT : ∀ w2, Calls Tryz.prog 13 #[.agg #[.int .i64 2, .int .i64 oa, .int .i64 ob, .int .u8 fill, .bool short, .slice A n c], .int .i64 64] w2 fun e w' => e = .returned (.string t) ∧ Below w2.heap.size w2 w')
    (HC : ∀ w2, Below w.heap.size w w2 → Calls Tryz.prog 36 #[.pointer (some ⟨a.d, 0, none⟩), .int .i64 oa, .string t] w2 fun e w' => e = .returned (.int .i64 r) ∧ DevIs w' a E ∧ DLeft w2 w' a) :
    Calls Tryz.prog 10 #[.pointer (some ⟨a.d, 0, none⟩), .agg #[.int .i64 2, .int .i64 oa, .int .i64 ob, .int .u8 fill, .bool short, .slice A n c], .slice A' n' c'] w fun e w' => e = .returned (.tuple #[.agg #[.string ⟨#[]⟩, .int .i64 r], .slice A' n' c']) ∧ DevIs w' a E ∧ DLeft w w' a := by
  obtain ⟨hb, hB⟩ := boxes_new w #[.int .i64 2, .int .i64 oa, .int .i64 ob, .int .u8 fill, .bool short, .slice A n c]
  have HB := Lib.hid hB
  have Hb := Lib.hid hb
  have H := Lib.hid h
  have Hc := Lib.hid HC
  have Ht := Lib.hid HT
  clear h HC HT hb hB
  go_enter Tryz.func10, Tryz.ntmps10
  go_wp2_with fail
  generalize (((w.alloc (.cells #[.int .i64 2, .int .i64 oa, .int .i64 ob, .int .u8 fill, .bool short, .slice A n c] 43)).alloc (.cells #[.string ⟨#[]⟩, .int .i64 0] 38)).alloc (.cells #[.string ⟨#[]⟩, .int .i64 0] 38)) = W at HB Hb ⊢
  obtain ⟨v0, v1, v2, v3, v4, v5⟩ := Hb.out.op
  have hb : Boxes W.drew w.heap.size #[.int .i64 2, .int .i64 oa, .int .i64 ob, .int .u8 fill, .bool short, .slice A n c] := ⟨Hb.out.o, Hb.out.r, Hb.out.q⟩
  have hB : Below w.heap.size w W.drew := HB.out.drew
  clear Hb HB
  have HB := Lib.hid hB
  have Hb := Lib.hid hb
  clear hb hB
  go_region_held3 (fun w' => w'.cell? ⟨w.heap.size, 0, none⟩ = some (.int .i64 2) ∧ w'.cell? ⟨w.heap.size, 1, none⟩ = some (.int .i64 oa) ∧ w'.cell? ⟨w.heap.size, 2, none⟩ = some (.int .i64 ob) ∧ w'.cell? ⟨w.heap.size, 3, none⟩ = some (.int .u8 fill) ∧ w'.cell? ⟨w.heap.size, 4, none⟩ = some (.bool short) ∧ w'.cell? ⟨w.heap.size, 5, none⟩ = some (.slice A n c)) (go_keep)
    (first
    | (go_at_call 13; refine (Ht.out _).mono ?_; rintro e w1 ⟨rfl, hB1⟩; have hb1 := Hb.out.below hB1; have Hb1 := Lib.hid hb1; have HB1 := Lib.hid (HB.out.trans (hB1.mono HB.out.size)); obtain ⟨i0, i1, i2, i3, i4, i5⟩ := hb1.op; clear hb1)
    | (go_at_call 36; refine (Hc.out _ HB1.out).mono ?_; rintro e w' ⟨rfl, hE, hF⟩; have hb2 := Hb1.out.left H.out hF; obtain ⟨y0, y1, y2, y3, f0, f1, f2, f3⟩ := hb2.facts; obtain ⟨j0, j1, j2, j3, j4, j5⟩ := hb2.op; obtain ⟨m0, m1, m2, m3, m4, m5⟩ := hb2.opq (.int .i64 r); have Hb2 := Lib.hid hb2; clear hb2))
  go_wp2_with fail
  have hb := Hb2.out
  have hF2 := (DLeft.ofBelow HB1.out).trans hF
  obtain ⟨x1, x2, x3⟩ := hb.q1 hE hF2 1 (.int .i64 r)
  obtain ⟨z1, z2, z3⟩ := do_end x1 x2 x3 (.string ⟨#[]⟩) (.int .i64 r)
  exact bodyPost_ret (v := .tuple #[.agg #[.string ⟨#[]⟩, .int .i64 r], .slice A' n' c']) (results_ct (p := 6) (q := 7) rfl _ _ (w.heap.size + 1) 38 #[.string ⟨#[]⟩, .int .i64 r] _ rfl z1 Tryz.underlying38 rfl (by kernel_rfl)) rfl ⟨rfl, z2, z3⟩
set_option maxRecDepth 100000 in
set_option maxHeartbeats 4000000 in
theorem do_5 (h : DevIs w a D) (oa ob : Int) (fill : Nat) (short : Bool) (A : Option Addr) (n c : Nat) (A' : Option Addr) (n' c' : Nat) (t : ByteArray) (r : Int) (E : Dev)
    (HT : ∀ w2, Calls Tryz.prog 13 #[.agg #[.int .i64 5, .int .i64 oa, .int .i64 ob, .int .u8 fill, .bool short, .slice A n c], .int .i64 32] w2 fun e w' => e = .returned (.string t) ∧ Below w2.heap.size w2 w')
    (HC : ∀ w2, Below w.heap.size w w2 → Calls Tryz.prog 15 #[.pointer (some ⟨a.d, 0, none⟩), .int .i64 oa, .string t] w2 fun e w' => e = .returned (.int .i64 r) ∧ DevIs w' a E ∧ DLeft w2 w' a) :
    Calls Tryz.prog 10 #[.pointer (some ⟨a.d, 0, none⟩), .agg #[.int .i64 5, .int .i64 oa, .int .i64 ob, .int .u8 fill, .bool short, .slice A n c], .slice A' n' c'] w fun e w' => e = .returned (.tuple #[.agg #[.string ⟨#[]⟩, .int .i64 r], .slice A' n' c']) ∧ DevIs w' a E ∧ DLeft w w' a := by
  obtain ⟨hb, hB⟩ := boxes_new w #[.int .i64 5, .int .i64 oa, .int .i64 ob, .int .u8 fill, .bool short, .slice A n c]
  have HB := Lib.hid hB
  have Hb := Lib.hid hb
  have H := Lib.hid h
  have Hc := Lib.hid HC
  have Ht := Lib.hid HT
  clear h HC HT hb hB
  go_enter Tryz.func10, Tryz.ntmps10
  go_wp2_with fail
  generalize (((w.alloc (.cells #[.int .i64 5, .int .i64 oa, .int .i64 ob, .int .u8 fill, .bool short, .slice A n c] 43)).alloc (.cells #[.string ⟨#[]⟩, .int .i64 0] 38)).alloc (.cells #[.string ⟨#[]⟩, .int .i64 0] 38)) = W at HB Hb ⊢
  obtain ⟨v0, v1, v2, v3, v4, v5⟩ := Hb.out.op
  have hb : Boxes W.drew w.heap.size #[.int .i64 5, .int .i64 oa, .int .i64 ob, .int .u8 fill, .bool short, .slice A n c] := ⟨Hb.out.o, Hb.out.r, Hb.out.q⟩
  have hB : Below w.heap.size w W.drew := HB.out.drew
  clear Hb HB
  have HB := Lib.hid hB
  have Hb := Lib.hid hb
  clear hb hB
  go_region_held3 (fun w' => w'.cell? ⟨w.heap.size, 0, none⟩ = some (.int .i64 5) ∧ w'.cell? ⟨w.heap.size, 1, none⟩ = some (.int .i64 oa) ∧ w'.cell? ⟨w.heap.size, 2, none⟩ = some (.int .i64 ob) ∧ w'.cell? ⟨w.heap.size, 3, none⟩ = some (.int .u8 fill) ∧ w'.cell? ⟨w.heap.size, 4, none⟩ = some (.bool short) ∧ w'.cell? ⟨w.heap.size, 5, none⟩ = some (.slice A n c)) (go_keep)
    (first
    | (go_at_call 13; refine (Ht.out _).mono ?_; rintro e w1 ⟨rfl, hB1⟩; have hb1 := Hb.out.below hB1; have Hb1 := Lib.hid hb1; have HB1 := Lib.hid (HB.out.trans (hB1.mono HB.out.size)); obtain ⟨i0, i1, i2, i3, i4, i5⟩ := hb1.op; clear hb1)
    | (go_at_call 15; refine (Hc.out _ HB1.out).mono ?_; rintro e w' ⟨rfl, hE, hF⟩; have hb2 := Hb1.out.left H.out hF; obtain ⟨y0, y1, y2, y3, f0, f1, f2, f3⟩ := hb2.facts; obtain ⟨j0, j1, j2, j3, j4, j5⟩ := hb2.op; obtain ⟨m0, m1, m2, m3, m4, m5⟩ := hb2.opq (.int .i64 r); have Hb2 := Lib.hid hb2; clear hb2))
  go_wp2_with fail
  have hb := Hb2.out
  have hF2 := (DLeft.ofBelow HB1.out).trans hF
  obtain ⟨x1, x2, x3⟩ := hb.q1 hE hF2 1 (.int .i64 r)
  obtain ⟨z1, z2, z3⟩ := do_end x1 x2 x3 (.string ⟨#[]⟩) (.int .i64 r)
  exact bodyPost_ret (v := .tuple #[.agg #[.string ⟨#[]⟩, .int .i64 r], .slice A' n' c']) (results_ct (p := 6) (q := 7) rfl _ _ (w.heap.size + 1) 38 #[.string ⟨#[]⟩, .int .i64 r] _ rfl z1 Tryz.underlying38 rfl (by kernel_rfl)) rfl ⟨rfl, z2, z3⟩
set_option maxRecDepth 100000 in
set_option maxHeartbeats 4000000 in
theorem do_14 (h : DevIs w a D) (oa ob : Int) (fill : Nat) (short : Bool) (A : Option Addr) (n c : Nat) (A' : Option Addr) (n' c' : Nat) (I : List ByteArray)
    (HC : ∀ w2, Below w.heap.size w w2 → Calls Tryz.prog 23 #[.pointer (some ⟨a.d, 0, none⟩)] w2 fun e w' => ∃ v, e = .returned v ∧ NewTexts w2 w' v I) :
    Calls Tryz.prog 10 #[.pointer (some ⟨a.d, 0, none⟩), .agg #[.int .i64 14, .int .i64 oa, .int .i64 ob, .int .u8 fill, .bool short, .slice A n c], .slice A' n' c'] w fun e w' => ∃ v, e = .returned (.tuple #[.agg #[.string ⟨#[]⟩, .int .i64 0], v]) ∧ DevIs w' a D ∧ DLeft w w' a ∧ Img w' v I a ∧ ∀ k, v.ownBlock = some k → w.heap.size ≤ k := by
  obtain ⟨hb, hB⟩ := boxes_new w #[.int .i64 14, .int .i64 oa, .int .i64 ob, .int .u8 fill, .bool short, .slice A n c]
  have HB := Lib.hid hB
  have Hb := Lib.hid hb
  have H := Lib.hid h
  have Hc := Lib.hid HC
  clear h HC hb hB
  go_enter Tryz.func10, Tryz.ntmps10
  go_wp2_with fail
  generalize (((w.alloc (.cells #[.int .i64 14, .int .i64 oa, .int .i64 ob, .int .u8 fill, .bool short, .slice A n c] 43)).alloc (.cells #[.string ⟨#[]⟩, .int .i64 0] 38)).alloc (.cells #[.string ⟨#[]⟩, .int .i64 0] 38)) = W at HB Hb ⊢
  obtain ⟨_, _, v2, v3, _, _, _, _⟩ := Hb.out.facts
  have hb : Boxes W.drew w.heap.size #[.int .i64 14, .int .i64 oa, .int .i64 ob, .int .u8 fill, .bool short, .slice A n c] := ⟨Hb.out.o, Hb.out.r, Hb.out.q⟩
  have hB : Below w.heap.size w W.drew := HB.out.drew
  clear Hb HB
  have HB := Lib.hid hB
  have Hb := Lib.hid hb
  clear hb hB
  go_region_held3 (fun w' => w'.cell? ⟨w.heap.size + 1 + 1, 0, none⟩ = some (.string ⟨#[]⟩) ∧ w'.cell? ⟨w.heap.size + 1 + 1, 1, none⟩ = some (.int .i64 0)) (go_keep)
    (first
    | (go_at_call 23; refine (Hc.out _ HB.out).mono ?_; rintro e w1 ⟨v, rfl, hT⟩; have hE := H.out.below (HB.out.trans (hT.2.2.mono HB.out.size)); have HI := Lib.hid (Img.fresh hT (H.out.below HB.out)); have HW : Hid (∀ k, v.ownBlock = some k → w.heap.size ≤ k) := fun k hk => Nat.le_trans HB.out.size (hT.1.lt k hk).1; have hF := DLeft.ofBelow (a := a) (HB.out.trans (hT.2.2.mono HB.out.size)); have hb2 := Hb.out.below hT.2.2; have Hb2 := Lib.hid hb2; obtain ⟨A2, n2, c2, rfl⟩ := HI.out.slice; obtain ⟨y0, y1, y2, y3, f0, f1, f2, f3⟩ := hb2.facts; obtain ⟨m0, m1⟩ := hb2.rq (.string ⟨#[]⟩) (.int .i64 0); clear hb2 hT))
  go_wp2_with fail
  obtain ⟨z1, z2, z3⟩ := do_end Hb2.out.r hE hF (.string ⟨#[]⟩) (.int .i64 0)
  have hI := HI.out.set Hb2.out.r 0 (.string ⟨#[]⟩)
  have hI2 := hI.set (Hb2.out.r.set_ 0 (.string ⟨#[]⟩)) 1 (.int .i64 0)
  exact bodyPost_ret (v := .tuple #[.agg #[.string ⟨#[]⟩, .int .i64 0], .slice A2 n2 c2]) (results_ct (p := 6) (q := 7) rfl _ _ (w.heap.size + 1) 38 #[.string ⟨#[]⟩, .int .i64 0] _ rfl z1 Tryz.underlying38 rfl (by kernel_rfl)) rfl ⟨_, rfl, z2, z3, hI2, HW.out⟩
end
end Go.Proofs.YtcifkahmeimniaaGreat
