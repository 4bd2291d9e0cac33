/-
  Layer 23 (device): one operation of a script, kind by kind. (Written by a small program.)
-/
import Derived.Test.YtcifkahmeimniaaDevX2
namespace Go.Proofs.Ytcifkahmeimniaa
open Go.RowKit Go.Shelf
attribute [local go_sem] Oper.semAt_some

theorem DLeft.set {w w' : World} {a : DAt} (h : DLeft w w' a) {k : Nat} (hk : w.heap.size ≤ k) (i : Nat) (v : Value) : DLeft w (w'.setCell ⟨k, i, none⟩ v) a :=
  ⟨h.os, h.tape, h.output, by have := h.size; simpa [World.setCell] using this, fun j hj h1 h2 h3 h4 => (Below.heap_setCell w' ⟨k, i, none⟩ v j (fun e => by have : j = k := e; omega)).trans (h.rest j hj h1 h2 h3 h4)⟩
theorem DevIs.set {w : World} {a : DAt} {E : Dev} (h : DevIs w a E) {k : Nat} {cs : Array Value} (hk : Blk w k 36 cs) (i : Nat) (v : Value) : DevIs (w.setCell ⟨k, i, none⟩ v) a E := by
  have hg := grown_set w k i v
  obtain ⟨_, q1⟩ := h.mblk
  obtain ⟨_, q2⟩ := h.gblk
  refine ⟨h.blk.grown hg (fun e => h.blk.ne_ hk (by decide) (by cases e; rfl)), h.mem.grown hg (fun e => q1.ne_ hk (by decide) (by cases e; rfl)) (fun e => q2.ne_ hk (by decide) (by cases e; rfl)), h.srow.kept hg (.inr (own_blk_ne h.srow hk (by decide))), h.frow.kept hg (.inr (own_blk_ne h.frow hk (by decide)))⟩

/-- The three boxes of 'do'. -/
structure Boxes (w : World) (s : Nat) (op : Array Value) : Prop where
  o : Blk w s 41 op
  r : Blk w (s + 1) 36 #[.string ⟨#[]⟩, .int .i64 0]
  q : Blk w (s + 1 + 1) 36 #[.string ⟨#[]⟩, .int .i64 0]

section
variable {w : World} {a : DAt} {D : Dev}
theorem Boxes.left {w1 w' : World} {op : Array Value} (h : Boxes w1 w.heap.size op) (hD : DevIs w a D) (hF : DLeft w1 w' a) : Boxes w' w.heap.size op := by
  obtain ⟨l1, l2, l3, l4⟩ := hD.sizes
  exact ⟨(hF.rest _ h.o.lt (by omega) (by omega) (by omega) (by omega)).trans h.o, (hF.rest _ h.r.lt (by omega) (by omega) (by omega) (by omega)).trans h.r, (hF.rest _ h.q.lt (by omega) (by omega) (by omega) (by omega)).trans h.q⟩
theorem boxes_new (w : World) (op : Array Value) : Boxes (((w.alloc (.cells op 41)).alloc (.cells #[.string ⟨#[]⟩, .int .i64 0] 36)).alloc (.cells #[.string ⟨#[]⟩, .int .i64 0] 36)) w.heap.size op ∧ Below w.heap.size w (((w.alloc (.cells op 41)).alloc (.cells #[.string ⟨#[]⟩, .int .i64 0] 36)).alloc (.cells #[.string ⟨#[]⟩, .int .i64 0] 36)) := by
  have hs0 : (w.alloc (.cells op 41)).heap.size = w.heap.size + 1 := by simp
  have hs1 : ((w.alloc (.cells op 41)).alloc (.cells #[.string ⟨#[]⟩, .int .i64 0] 36)).heap.size = w.heap.size + 1 + 1 := by simp
  refine ⟨⟨((Blk.new w _ _).alloc _).alloc _, ?_, ?_⟩, (((Below.refl _ w).alloc (Nat.le_refl _) _).alloc (by omega) _).alloc (by omega) _⟩
  · rw [← hs0]; exact (Blk.new _ _ _).alloc _
  · rw [← hs1]; exact Blk.new _ _ _
theorem Boxes.facts {w' : World} {s : Nat} {op : Array Value} (h : Boxes w' s op) : w'.cell? ⟨s + 1, 0, none⟩ = some (.string ⟨#[]⟩) ∧ w'.cell? ⟨s + 1, 1, none⟩ = some (.int .i64 0) ∧ w'.cell? ⟨s + 1 + 1, 0, none⟩ = some (.string ⟨#[]⟩) ∧ w'.cell? ⟨s + 1 + 1, 1, none⟩ = some (.int .i64 0) ∧
    w'.frozen? ⟨s + 1, 0, none⟩ = false ∧ w'.frozen? ⟨s + 1, 1, none⟩ = false ∧ w'.frozen? ⟨s + 1 + 1, 0, none⟩ = false ∧ w'.frozen? ⟨s + 1 + 1, 1, none⟩ = false :=
  ⟨h.r.cell 0, h.r.cell 1, h.q.cell 0, h.q.cell 1, h.r.frozen 0, h.r.frozen 1, h.q.frozen 0, h.q.frozen 1⟩
/-- What stands behind the boxes' last stores. -/
theorem do_end {w2 : World} {E : Dev} (hr : Blk w2 (w.heap.size + 1) 36 #[.string ⟨#[]⟩, .int .i64 0]) (hE : DevIs w2 a E) (hF : DLeft w w2 a) (u v : Value) :
    Blk ((w2.setCell ⟨w.heap.size + 1, 0, none⟩ u).setCell ⟨w.heap.size + 1, 1, none⟩ v) (w.heap.size + 1) 36 #[u, v] ∧ DevIs ((w2.setCell ⟨w.heap.size + 1, 0, none⟩ u).setCell ⟨w.heap.size + 1, 1, none⟩ v) a E ∧ DLeft w ((w2.setCell ⟨w.heap.size + 1, 0, none⟩ u).setCell ⟨w.heap.size + 1, 1, none⟩ v) a :=
  ⟨(hr.set_ 0 u).set_ 1 v, (hE.set hr 0 u).set (hr.set_ 0 u) 1 v, (hF.set (by omega) 0 u).set (by omega) 1 v⟩
theorem Boxes.q1 {w' : World} {op : Array Value} {E : Dev} (hb : Boxes w' w.heap.size op) (hE : DevIs w' a E) (hF : DLeft w w' a) (i : Nat) (v : Value) :
    Blk (w'.setCell ⟨w.heap.size + 1 + 1, i, none⟩ v) (w.heap.size + 1) 36 #[.string ⟨#[]⟩, .int .i64 0] ∧ DevIs (w'.setCell ⟨w.heap.size + 1 + 1, i, none⟩ v) a E ∧ DLeft w (w'.setCell ⟨w.heap.size + 1 + 1, i, none⟩ v) a :=
  ⟨hb.r.other (a := ⟨w.heap.size + 1 + 1, i, none⟩) (by show w.heap.size + 1 ≠ w.heap.size + 1 + 1; omega) v, hE.set hb.q i v, hF.set (by omega) i v⟩
theorem Boxes.q2 {w' : World} {op : Array Value} {E : Dev} (hb : Boxes w' w.heap.size op) (hE : DevIs w' a E) (hF : DLeft w w' a) (u v : Value) :
    Blk ((w'.setCell ⟨w.heap.size + 1 + 1, 0, none⟩ u).setCell ⟨w.heap.size + 1 + 1, 1, none⟩ v) (w.heap.size + 1) 36 #[.string ⟨#[]⟩, .int .i64 0] ∧ DevIs ((w'.setCell ⟨w.heap.size + 1 + 1, 0, none⟩ u).setCell ⟨w.heap.size + 1 + 1, 1, none⟩ v) a E ∧ DLeft w ((w'.setCell ⟨w.heap.size + 1 + 1, 0, none⟩ u).setCell ⟨w.heap.size + 1 + 1, 1, none⟩ v) a :=
  ⟨(hb.r.other (a := ⟨w.heap.size + 1 + 1, 0, none⟩) (by show w.heap.size + 1 ≠ w.heap.size + 1 + 1; omega) u).other (a := ⟨w.heap.size + 1 + 1, 1, none⟩) (by show w.heap.size + 1 ≠ w.heap.size + 1 + 1; omega) v, (hE.set hb.q 0 u).set (hb.q.set_ 0 u) 1 v, (hF.set (by omega) 0 u).set (by omega) 1 v⟩
set_option maxRecDepth 100000 in
set_option maxHeartbeats 4000000 in
theorem do_1 (h : DevIs w a D) (oa ob : Int) (fill : Nat) (short : Bool) (A : Option Addr) (n c : Nat) (A' : Option Addr) (n' c' : Nat) (t : ByteArray) (r : Int) (E : Dev)
    (HC : ∀ w2, Below w.heap.size w w2 → Calls Try.prog 19 #[.pointer (some ⟨a.d, 0, none⟩), .int .i64 oa] w2 fun e w' => e = .returned (.tuple #[.string t, .int .i64 r]) ∧ DevIs w' a E ∧ DLeft w2 w' a) :
    Calls Try.prog 14 #[.pointer (some ⟨a.d, 0, none⟩), .agg #[.int .i64 1, .int .i64 oa, .int .i64 ob, .int .u8 fill, .bool short, .slice A n c], .slice A' n' c'] w fun e w' => e = .returned (.tuple #[.agg #[.string t, .int .i64 r], .slice A' n' c']) ∧ DevIs w' a E ∧ DLeft w w' a := by
  obtain ⟨hb, hB⟩ := boxes_new w #[.int .i64 1, .int .i64 oa, .int .i64 ob, .int .u8 fill, .bool short, .slice A n c]
  have HB := Lib.hid hB
  have Hb := Lib.hid hb
  have H := Lib.hid h
  have Hc := Lib.hid (HC _ hB)
  clear h HC hb hB
  go_enter Try.func14, Try.ntmps14
  go_wp2_with (first | (go_at_call 19; refine Hc.out.mono ?_; rintro e w' ⟨rfl, hE, hF⟩; obtain ⟨y0, y1, y2, y3, f0, f1, f2, f3⟩ := (Hb.out.left H.out hF).facts))
  have hb := Hb.out.left H.out hF
  have hF2 := (DLeft.ofBelow HB.out).trans hF
  obtain ⟨x1, x2, x3⟩ := hb.q2 hE hF2 (.string t) (.int .i64 r)
  obtain ⟨z1, z2, z3⟩ := do_end x1 x2 x3 (.string t) (.int .i64 r)
  exact bodyPost_ret (v := .tuple #[.agg #[.string t, .int .i64 r], .slice A' n' c']) (results_ct (p := 6) (q := 7) rfl _ _ (w.heap.size + 1) 36 #[.string t, .int .i64 r] _ rfl z1 Try.underlying36 rfl (by kernel_rfl)) rfl ⟨rfl, z2, z3⟩
set_option maxRecDepth 100000 in
set_option maxHeartbeats 4000000 in
theorem do_3 (h : DevIs w a D) (oa ob : Int) (fill : Nat) (short : Bool) (A : Option Addr) (n c : Nat) (A' : Option Addr) (n' c' : Nat) (r : Int) (E : Dev)
    (HC : ∀ w2, Below w.heap.size w w2 → Calls Try.prog 34 #[.pointer (some ⟨a.d, 0, none⟩)] w2 fun e w' => e = .returned (.int .i64 r) ∧ DevIs w' a E ∧ DLeft w2 w' a) :
    Calls Try.prog 14 #[.pointer (some ⟨a.d, 0, none⟩), .agg #[.int .i64 3, .int .i64 oa, .int .i64 ob, .int .u8 fill, .bool short, .slice A n c], .slice A' n' c'] w fun e w' => e = .returned (.tuple #[.agg #[.string ⟨#[]⟩, .int .i64 r], .slice A' n' c']) ∧ DevIs w' a E ∧ DLeft w w' a := by
  obtain ⟨hb, hB⟩ := boxes_new w #[.int .i64 3, .int .i64 oa, .int .i64 ob, .int .u8 fill, .bool short, .slice A n c]
  have HB := Lib.hid hB
  have Hb := Lib.hid hb
  have H := Lib.hid h
  have Hc := Lib.hid (HC _ hB)
  clear h HC hb hB
  go_enter Try.func14, Try.ntmps14
  go_wp2_with (first | (go_at_call 34; refine Hc.out.mono ?_; rintro e w' ⟨rfl, hE, hF⟩; obtain ⟨y0, y1, y2, y3, f0, f1, f2, f3⟩ := (Hb.out.left H.out hF).facts))
  have hb := Hb.out.left H.out hF
  have hF2 := (DLeft.ofBelow HB.out).trans hF
  obtain ⟨x1, x2, x3⟩ := hb.q1 hE hF2 1 (.int .i64 r)
  obtain ⟨z1, z2, z3⟩ := do_end x1 x2 x3 (.string ⟨#[]⟩) (.int .i64 r)
  exact bodyPost_ret (v := .tuple #[.agg #[.string ⟨#[]⟩, .int .i64 r], .slice A' n' c']) (results_ct (p := 6) (q := 7) rfl _ _ (w.heap.size + 1) 36 #[.string ⟨#[]⟩, .int .i64 r] _ rfl z1 Try.underlying36 rfl (by kernel_rfl)) rfl ⟨rfl, z2, z3⟩
set_option maxRecDepth 100000 in
set_option maxHeartbeats 4000000 in
theorem do_4 (h : DevIs w a D) (oa ob : Int) (fill : Nat) (short : Bool) (A : Option Addr) (n c : Nat) (A' : Option Addr) (n' c' : Nat) (t : ByteArray) (r : Int) (E : Dev)
    (HC : ∀ w2, Below w.heap.size w w2 → Calls Try.prog 17 #[.pointer (some ⟨a.d, 0, none⟩), .int .i64 oa] w2 fun e w' => e = .returned (.tuple #[.string t, .int .i64 r]) ∧ DevIs w' a E ∧ DLeft w2 w' a) :
    Calls Try.prog 14 #[.pointer (some ⟨a.d, 0, none⟩), .agg #[.int .i64 4, .int .i64 oa, .int .i64 ob, .int .u8 fill, .bool short, .slice A n c], .slice A' n' c'] w fun e w' => e = .returned (.tuple #[.agg #[.string t, .int .i64 r], .slice A' n' c']) ∧ DevIs w' a E ∧ DLeft w w' a := by
  obtain ⟨hb, hB⟩ := boxes_new w #[.int .i64 4, .int .i64 oa, .int .i64 ob, .int .u8 fill, .bool short, .slice A n c]
  have HB := Lib.hid hB
  have Hb := Lib.hid hb
  have H := Lib.hid h
  have Hc := Lib.hid (HC _ hB)
  clear h HC hb hB
  go_enter Try.func14, Try.ntmps14
  go_wp2_with (first | (go_at_call 17; refine Hc.out.mono ?_; rintro e w' ⟨rfl, hE, hF⟩; obtain ⟨y0, y1, y2, y3, f0, f1, f2, f3⟩ := (Hb.out.left H.out hF).facts))
  have hb := Hb.out.left H.out hF
  have hF2 := (DLeft.ofBelow HB.out).trans hF
  obtain ⟨x1, x2, x3⟩ := hb.q2 hE hF2 (.string t) (.int .i64 r)
  obtain ⟨z1, z2, z3⟩ := do_end x1 x2 x3 (.string t) (.int .i64 r)
  exact bodyPost_ret (v := .tuple #[.agg #[.string t, .int .i64 r], .slice A' n' c']) (results_ct (p := 6) (q := 7) rfl _ _ (w.heap.size + 1) 36 #[.string t, .int .i64 r] _ rfl z1 Try.underlying36 rfl (by kernel_rfl)) rfl ⟨rfl, z2, z3⟩
set_option maxRecDepth 100000 in
set_option maxHeartbeats 4000000 in
theorem do_6 (h : DevIs w a D) (oa ob : Int) (fill : Nat) (short : Bool) (A : Option Addr) (n c : Nat) (A' : Option Addr) (n' c' : Nat) (r : Int) (E : Dev)
    (HC : ∀ w2, Below w.heap.size w w2 → Calls Try.prog 27 #[.pointer (some ⟨a.d, 0, none⟩), .int .i64 oa] w2 fun e w' => e = .returned (.int .i64 r) ∧ DevIs w' a E ∧ DLeft w2 w' a) :
    Calls Try.prog 14 #[.pointer (some ⟨a.d, 0, none⟩), .agg #[.int .i64 6, .int .i64 oa, .int .i64 ob, .int .u8 fill, .bool short, .slice A n c], .slice A' n' c'] w fun e w' => e = .returned (.tuple #[.agg #[.string ⟨#[]⟩, .int .i64 r], .slice A' n' c']) ∧ DevIs w' a E ∧ DLeft w w' a := by
  obtain ⟨hb, hB⟩ := boxes_new w #[.int .i64 6, .int .i64 oa, .int .i64 ob, .int .u8 fill, .bool short, .slice A n c]
  have HB := Lib.hid hB
  have Hb := Lib.hid hb
  have H := Lib.hid h
  have Hc := Lib.hid (HC _ hB)
  clear h HC hb hB
  go_enter Try.func14, Try.ntmps14
  go_wp2_with (first | (go_at_call 27; refine Hc.out.mono ?_; rintro e w' ⟨rfl, hE, hF⟩; obtain ⟨y0, y1, y2, y3, f0, f1, f2, f3⟩ := (Hb.out.left H.out hF).facts))
  have hb := Hb.out.left H.out hF
  have hF2 := (DLeft.ofBelow HB.out).trans hF
  obtain ⟨x1, x2, x3⟩ := hb.q1 hE hF2 1 (.int .i64 r)
  obtain ⟨z1, z2, z3⟩ := do_end x1 x2 x3 (.string ⟨#[]⟩) (.int .i64 r)
  exact bodyPost_ret (v := .tuple #[.agg #[.string ⟨#[]⟩, .int .i64 r], .slice A' n' c']) (results_ct (p := 6) (q := 7) rfl _ _ (w.heap.size + 1) 36 #[.string ⟨#[]⟩, .int .i64 r] _ rfl z1 Try.underlying36 rfl (by kernel_rfl)) rfl ⟨rfl, z2, z3⟩
set_option maxRecDepth 100000 in
set_option maxHeartbeats 4000000 in
theorem do_7 (h : DevIs w a D) (oa ob : Int) (fill : Nat) (short : Bool) (A : Option Addr) (n c : Nat) (A' : Option Addr) (n' c' : Nat) (r : Int) (E : Dev)
    (HC : ∀ w2, Below w.heap.size w w2 → Calls Try.prog 29 #[.pointer (some ⟨a.d, 0, none⟩), .int .i64 oa] w2 fun e w' => e = .returned (.int .i64 r) ∧ DevIs w' a E ∧ DLeft w2 w' a) :
    Calls Try.prog 14 #[.pointer (some ⟨a.d, 0, none⟩), .agg #[.int .i64 7, .int .i64 oa, .int .i64 ob, .int .u8 fill, .bool short, .slice A n c], .slice A' n' c'] w fun e w' => e = .returned (.tuple #[.agg #[.string ⟨#[]⟩, .int .i64 r], .slice A' n' c']) ∧ DevIs w' a E ∧ DLeft w w' a := by
  obtain ⟨hb, hB⟩ := boxes_new w #[.int .i64 7, .int .i64 oa, .int .i64 ob, .int .u8 fill, .bool short, .slice A n c]
  have HB := Lib.hid hB
  have Hb := Lib.hid hb
  have H := Lib.hid h
  have Hc := Lib.hid (HC _ hB)
  clear h HC hb hB
  go_enter Try.func14, Try.ntmps14
  go_wp2_with (first | (go_at_call 29; refine Hc.out.mono ?_; rintro e w' ⟨rfl, hE, hF⟩; obtain ⟨y0, y1, y2, y3, f0, f1, f2, f3⟩ := (Hb.out.left H.out hF).facts))
  have hb := Hb.out.left H.out hF
  have hF2 := (DLeft.ofBelow HB.out).trans hF
  obtain ⟨x1, x2, x3⟩ := hb.q1 hE hF2 1 (.int .i64 r)
  obtain ⟨z1, z2, z3⟩ := do_end x1 x2 x3 (.string ⟨#[]⟩) (.int .i64 r)
  exact bodyPost_ret (v := .tuple #[.agg #[.string ⟨#[]⟩, .int .i64 r], .slice A' n' c']) (results_ct (p := 6) (q := 7) rfl _ _ (w.heap.size + 1) 36 #[.string ⟨#[]⟩, .int .i64 r] _ rfl z1 Try.underlying36 rfl (by kernel_rfl)) rfl ⟨rfl, z2, z3⟩
set_option maxRecDepth 100000 in
set_option maxHeartbeats 4000000 in
theorem do_8 (h : DevIs w a D) (oa ob : Int) (fill : Nat) (short : Bool) (A : Option Addr) (n c : Nat) (A' : Option Addr) (n' c' : Nat) (r : Int) (E : Dev)
    (HC : ∀ w2, Below w.heap.size w w2 → Calls Try.prog 28 #[.pointer (some ⟨a.d, 0, none⟩), .int .i64 oa] w2 fun e w' => e = .returned (.int .i64 r) ∧ DevIs w' a E ∧ DLeft w2 w' a) :
    Calls Try.prog 14 #[.pointer (some ⟨a.d, 0, none⟩), .agg #[.int .i64 8, .int .i64 oa, .int .i64 ob, .int .u8 fill, .bool short, .slice A n c], .slice A' n' c'] w fun e w' => e = .returned (.tuple #[.agg #[.string ⟨#[]⟩, .int .i64 r], .slice A' n' c']) ∧ DevIs w' a E ∧ DLeft w w' a := by
  obtain ⟨hb, hB⟩ := boxes_new w #[.int .i64 8, .int .i64 oa, .int .i64 ob, .int .u8 fill, .bool short, .slice A n c]
  have HB := Lib.hid hB
  have Hb := Lib.hid hb
  have H := Lib.hid h
  have Hc := Lib.hid (HC _ hB)
  clear h HC hb hB
  go_enter Try.func14, Try.ntmps14
  go_wp2_with (first | (go_at_call 28; refine Hc.out.mono ?_; rintro e w' ⟨rfl, hE, hF⟩; obtain ⟨y0, y1, y2, y3, f0, f1, f2, f3⟩ := (Hb.out.left H.out hF).facts))
  have hb := Hb.out.left H.out hF
  have hF2 := (DLeft.ofBelow HB.out).trans hF
  obtain ⟨x1, x2, x3⟩ := hb.q1 hE hF2 1 (.int .i64 r)
  obtain ⟨z1, z2, z3⟩ := do_end x1 x2 x3 (.string ⟨#[]⟩) (.int .i64 r)
  exact bodyPost_ret (v := .tuple #[.agg #[.string ⟨#[]⟩, .int .i64 r], .slice A' n' c']) (results_ct (p := 6) (q := 7) rfl _ _ (w.heap.size + 1) 36 #[.string ⟨#[]⟩, .int .i64 r] _ rfl z1 Try.underlying36 rfl (by kernel_rfl)) rfl ⟨rfl, z2, z3⟩
end
end Go.Proofs.Ytcifkahmeimniaa
