/-
  Layer 33 (zero): one operation of a script, kind by kind. (Written by a small program.)
  Layer 33 (zero): one operation of a script, kind by kind. (Written by a small program.)
-/
import Derived.Test.YtgenifcikfbfhaaZerW7
import Derived.Test.YtgenifcikfbfhaaDevX2
import Derived.Deep.RegionHeld3
namespace Go.Proofs.Ytgenifcikfbfhaa
open Go.RowKit Go.Shelf
attribute [local go_sem] Oper.semAt_some

theorem opBox_new (w : World) (op : Array Value) : Blk (w.alloc (.cells op 44)) w.heap.size 44 op ∧ Below w.heap.size w (w.alloc (.cells op 44)) :=
  ⟨Blk.new w _ _, (Below.refl _ w).alloc (Nat.le_refl _) _⟩
theorem opBox_cells {w : World} {s : Nat} {x0 x1 x2 x3 x4 x5 : Value} (h : Blk w s 44 #[x0, x1, x2, x3, x4, x5]) : w.cell? ⟨s, 0, none⟩ = some x0 ∧ w.cell? ⟨s, 1, none⟩ = some x1 ∧ w.cell? ⟨s, 2, none⟩ = some x2 ∧ w.cell? ⟨s, 3, none⟩ = some x3 ∧ w.cell? ⟨s, 4, none⟩ = some x4 ∧ w.cell? ⟨s, 5, none⟩ = some x5 :=
  ⟨h.cell 0, h.cell 1, h.cell 2, h.cell 3, h.cell 4, h.cell 5⟩
section
variable {w : World} {a : DAt} {D : Dev}
theorem opBox_left {w1 w' : World} {op : Array Value} (h : Blk w1 w.heap.size 44 op) (hD : DevIs w a D) (hF : DLeft w1 w' a) : Blk w' w.heap.size 44 op := by
  obtain ⟨l1, l2, l3, l4⟩ := hD.sizes
  exact (hF.rest _ h.lt (by omega) (by omega) (by omega) (by omega)).trans h
set_option maxRecDepth 100000 in
set_option maxHeartbeats 4000000 in
theorem lz_2 (h : DevIs w a D) (oa ob : Int) (fill : Nat) (short : Bool) (A : Option Addr) (n c : Nat) (A' : Option Addr) (n' c' : Nat) (t : ByteArray) (r : Int) (E : Dev)
    (HT : ∀ w2, Calls Try.prog 24 #[.agg #[.int .i64 2, .int .i64 oa, .int .i64 ob, .int .u8 fill, .bool short, .slice A n c], .int .i64 64] w2 fun e w' => e = .returned (.string t) ∧ Below w2.heap.size w2 w')
    (HC : ∀ w2, Below w.heap.size w w2 → Calls Try.prog 23 #[.pointer (some ⟨a.d, 0, none⟩), .int .i64 oa, .string t] w2 fun e w' => e = .returned (.int .i64 r) ∧ DevIs w' a E ∧ DLeft w2 w' a) :
    Calls Try.prog 17 #[.pointer (some ⟨a.d, 0, none⟩), .agg #[.int .i64 2, .int .i64 oa, .int .i64 ob, .int .u8 fill, .bool short, .slice A n c], .slice A' n' c'] w fun e w' => e = .returned (.slice A' n' c') ∧ DevIs w' a E ∧ DLeft w w' a := by
  obtain ⟨hb, hB⟩ := opBox_new w #[.int .i64 2, .int .i64 oa, .int .i64 ob, .int .u8 fill, .bool short, .slice A n c]
  have HB := Lib.hid hB
  have Hb := Lib.hid hb
  have H := Lib.hid h
  have Hc := Lib.hid HC
  have Ht := Lib.hid HT
  clear h HC HT hb hB
  go_enter Try.func17, Try.ntmps17
  go_wp2_with fail
  generalize (w.alloc (.cells #[.int .i64 2, .int .i64 oa, .int .i64 ob, .int .u8 fill, .bool short, .slice A n c] 44)) = W at HB Hb ⊢
  obtain ⟨v0, v1, v2, v3, v4, v5⟩ := opBox_cells Hb.out
  have hb : Blk W.drew w.heap.size 44 #[.int .i64 2, .int .i64 oa, .int .i64 ob, .int .u8 fill, .bool short, .slice A n c] := Hb.out
  have hB : Below w.heap.size w W.drew := HB.out.drew
  clear Hb HB
  have HB := Lib.hid hB
  have Hb := Lib.hid hb
  clear hb hB
  go_region_held3 (fun w' => w'.cell? ⟨w.heap.size, 0, none⟩ = some (.int .i64 2) ∧ w'.cell? ⟨w.heap.size, 1, none⟩ = some (.int .i64 oa) ∧ w'.cell? ⟨w.heap.size, 2, none⟩ = some (.int .i64 ob) ∧ w'.cell? ⟨w.heap.size, 3, none⟩ = some (.int .u8 fill) ∧ w'.cell? ⟨w.heap.size, 4, none⟩ = some (.bool short) ∧ w'.cell? ⟨w.heap.size, 5, none⟩ = some (.slice A n c)) (go_keep)
    (first
    | (go_at_call 24; refine (Ht.out _).mono ?_; rintro e w1 ⟨rfl, hB1⟩; have hb1 := Hb.out.below hB1 Hb.out.lt; have Hb1 := Lib.hid hb1; have HB1 := Lib.hid (HB.out.trans (hB1.mono HB.out.size)); obtain ⟨i0, i1, i2, i3, i4, i5⟩ := opBox_cells hb1; clear hb1)
    | (go_at_call 23; refine (Hc.out _ HB1.out).mono ?_; rintro e w' ⟨rfl, hE, hF⟩; have hb2 := opBox_left Hb1.out H.out hF; obtain ⟨j0, j1, j2, j3, j4, j5⟩ := opBox_cells hb2; have Hb2 := Lib.hid hb2; clear hb2))
  go_wp2_with fail
  go_ret
  exact ⟨rfl, hE, (DLeft.ofBelow HB1.out).trans hF⟩
set_option maxRecDepth 100000 in
set_option maxHeartbeats 4000000 in
theorem lz_5 (h : DevIs w a D) (oa ob : Int) (fill : Nat) (short : Bool) (A : Option Addr) (n c : Nat) (A' : Option Addr) (n' c' : Nat) (t : ByteArray) (r : Int) (E : Dev)
    (HT : ∀ w2, Calls Try.prog 24 #[.agg #[.int .i64 5, .int .i64 oa, .int .i64 ob, .int .u8 fill, .bool short, .slice A n c], .int .i64 32] w2 fun e w' => e = .returned (.string t) ∧ Below w2.heap.size w2 w')
    (HC : ∀ w2, Below w.heap.size w w2 → Calls Try.prog 29 #[.pointer (some ⟨a.d, 0, none⟩), .int .i64 oa, .string t] w2 fun e w' => e = .returned (.int .i64 r) ∧ DevIs w' a E ∧ DLeft w2 w' a) :
    Calls Try.prog 17 #[.pointer (some ⟨a.d, 0, none⟩), .agg #[.int .i64 5, .int .i64 oa, .int .i64 ob, .int .u8 fill, .bool short, .slice A n c], .slice A' n' c'] w fun e w' => e = .returned (.slice A' n' c') ∧ DevIs w' a E ∧ DLeft w w' a := by
  obtain ⟨hb, hB⟩ := opBox_new w #[.int .i64 5, .int .i64 oa, .int .i64 ob, .int .u8 fill, .bool short, .slice A n c]
  have HB := Lib.hid hB
  have Hb := Lib.hid hb
  have H := Lib.hid h
  have Hc := Lib.hid HC
  have Ht := Lib.hid HT
  clear h HC HT hb hB
  go_enter Try.func17, Try.ntmps17
  go_wp2_with fail
  generalize (w.alloc (.cells #[.int .i64 5, .int .i64 oa, .int .i64 ob, .int .u8 fill, .bool short, .slice A n c] 44)) = W at HB Hb ⊢
  obtain ⟨v0, v1, v2, v3, v4, v5⟩ := opBox_cells Hb.out
  have hb : Blk W.drew w.heap.size 44 #[.int .i64 5, .int .i64 oa, .int .i64 ob, .int .u8 fill, .bool short, .slice A n c] := Hb.out
  have hB : Below w.heap.size w W.drew := HB.out.drew
  clear Hb HB
  have HB := Lib.hid hB
  have Hb := Lib.hid hb
  clear hb hB
  go_region_held3 (fun w' => w'.cell? ⟨w.heap.size, 0, none⟩ = some (.int .i64 5) ∧ w'.cell? ⟨w.heap.size, 1, none⟩ = some (.int .i64 oa) ∧ w'.cell? ⟨w.heap.size, 2, none⟩ = some (.int .i64 ob) ∧ w'.cell? ⟨w.heap.size, 3, none⟩ = some (.int .u8 fill) ∧ w'.cell? ⟨w.heap.size, 4, none⟩ = some (.bool short) ∧ w'.cell? ⟨w.heap.size, 5, none⟩ = some (.slice A n c)) (go_keep)
    (first
    | (go_at_call 24; refine (Ht.out _).mono ?_; rintro e w1 ⟨rfl, hB1⟩; have hb1 := Hb.out.below hB1 Hb.out.lt; have Hb1 := Lib.hid hb1; have HB1 := Lib.hid (HB.out.trans (hB1.mono HB.out.size)); obtain ⟨i0, i1, i2, i3, i4, i5⟩ := opBox_cells hb1; clear hb1)
    | (go_at_call 29; refine (Hc.out _ HB1.out).mono ?_; rintro e w' ⟨rfl, hE, hF⟩; have hb2 := opBox_left Hb1.out H.out hF; obtain ⟨j0, j1, j2, j3, j4, j5⟩ := opBox_cells hb2; have Hb2 := Lib.hid hb2; clear hb2))
  go_wp2_with fail
  go_ret
  exact ⟨rfl, hE, (DLeft.ofBelow HB1.out).trans hF⟩
set_option maxRecDepth 100000 in
set_option maxHeartbeats 4000000 in
theorem lz_14 (h : DevIs w a D) (oa ob : Int) (fill : Nat) (short : Bool) (A : Option Addr) (n c : Nat) (A' : Option Addr) (n' c' : Nat) (I : List ByteArray)
    (HC : ∀ w2, Below w.heap.size w w2 → Calls Try.prog 12 #[.pointer (some ⟨a.d, 0, none⟩)] w2 fun e w' => ∃ v, e = .returned v ∧ NewTexts w2 w' v I) :
    Calls Try.prog 17 #[.pointer (some ⟨a.d, 0, none⟩), .agg #[.int .i64 14, .int .i64 oa, .int .i64 ob, .int .u8 fill, .bool short, .slice A n c], .slice A' n' c'] w fun e w' => ∃ v, e = .returned v ∧ DevIs w' a D ∧ DLeft w w' a ∧ Img w' v I a ∧ ∀ k, v.ownBlock = some k → w.heap.size ≤ k := by
  obtain ⟨hb, hB⟩ := opBox_new w #[.int .i64 14, .int .i64 oa, .int .i64 ob, .int .u8 fill, .bool short, .slice A n c]
  have HB := Lib.hid hB
  have H := Lib.hid h
  have Hc := Lib.hid (HC _ hB)
  clear h HC hb hB
  go_enter Try.func17, Try.ntmps17
  go_wp2_with (first | (go_at_call 12; refine Hc.out.mono ?_; rintro e w1 ⟨v, rfl, hT⟩; have hE := H.out.below (HB.out.trans (hT.2.2.mono HB.out.size)); have HI := Lib.hid (Img.fresh hT (H.out.below HB.out)); have HW : Hid (∀ k, v.ownBlock = some k → w.heap.size ≤ k) := fun k hk => Nat.le_trans HB.out.size (hT.1.lt k hk).1; have hF := DLeft.ofBelow (a := a) (HB.out.trans (hT.2.2.mono HB.out.size)); clear hT))
  go_ret
  exact ⟨_, rfl, hE, hF, HI.out, HW.out⟩
set_option maxRecDepth 100000 in
set_option maxHeartbeats 4000000 in
theorem lz_other (h : DevIs w a D) (oa ob : Int) (fill : Nat) (short : Bool) (A : Option Addr) (n c : Nat) (A' : Option Addr) (n' c' : Nat) (k : Int) (hk : k < 2 ∨ 15 < k ∨ k = 4) :
    Calls Try.prog 17 #[.pointer (some ⟨a.d, 0, none⟩), .agg #[.int .i64 k, .int .i64 oa, .int .i64 ob, .int .u8 fill, .bool short, .slice A n c], .slice A' n' c'] w fun e w' => e = .returned (.slice A' n' c') ∧ DevIs w' a D ∧ DLeft w w' a := by
  obtain ⟨hb, hB⟩ := opBox_new w #[.int .i64 k, .int .i64 oa, .int .i64 ob, .int .u8 fill, .bool short, .slice A n c]
  have HB := Lib.hid hB
  have HE := Lib.hid (h.below hB)
  have b2 : (k == 2) = false := beq_f (by omega)
  have b3 : (k == 3) = false := beq_f (by omega)
  have b5 : (k == 5) = false := beq_f (by omega)
  have b6 : (k == 6) = false := beq_f (by omega)
  have b7 : (k == 7) = false := beq_f (by omega)
  have b8 : (k == 8) = false := beq_f (by omega)
  have b9 : (k == 9) = false := beq_f (by omega)
  have b10 : (k == 10) = false := beq_f (by omega)
  have b11 : (k == 11) = false := beq_f (by omega)
  have b12 : (k == 12) = false := beq_f (by omega)
  have b13 : (k == 13) = false := beq_f (by omega)
  have b14 : (k == 14) = false := beq_f (by omega)
  have b15 : (k == 15) = false := beq_f (by omega)
  clear h hb hB hk
  go_enter Try.func17, Try.ntmps17
  go_wp2_with fail
  go_ret
  exact ⟨rfl, HE.out, DLeft.ofBelow HB.out⟩
end
end Go.Proofs.Ytgenifcikfbfhaa
namespace Go.Proofs.Ytgenifcikfbfhaa
open Go.RowKit Go.Shelf
attribute [local go_sem] Oper.semAt_some

section
variable {w : World} {a : DAt}
set_option maxRecDepth 100000 in
set_option maxHeartbeats 4000000 in
theorem lz_3 (oa ob : Int) (fill : Nat) (short : Bool) (A : Option Addr) (n c : Nat) (A' : Option Addr) (n' c' : Nat) (r : Int) (E : Dev)
    (HC : ∀ w2, Below w.heap.size w w2 → Calls Try.prog 30 #[.pointer (some ⟨a.d, 0, none⟩)] w2 fun e w' => e = .returned (.int .i64 r) ∧ DevIs w' a E ∧ DLeft w2 w' a) :
    Calls Try.prog 17 #[.pointer (some ⟨a.d, 0, none⟩), .agg #[.int .i64 3, .int .i64 oa, .int .i64 ob, .int .u8 fill, .bool short, .slice A n c], .slice A' n' c'] w fun e w' => e = .returned (.slice A' n' c') ∧ DevIs w' a E ∧ DLeft w w' a := by
  obtain ⟨hb, hB⟩ := opBox_new w #[.int .i64 3, .int .i64 oa, .int .i64 ob, .int .u8 fill, .bool short, .slice A n c]
  have HB := Lib.hid hB
  have Hc := Lib.hid (HC _ hB)
  clear HC hb hB
  go_enter Try.func17, Try.ntmps17
  go_wp2_with (first | (go_at_call 30; refine Hc.out.mono ?_; rintro e w' ⟨rfl, hE, hF⟩))
  go_ret
  exact ⟨rfl, hE, (DLeft.ofBelow HB.out).trans hF⟩
set_option maxRecDepth 100000 in
set_option maxHeartbeats 4000000 in
theorem lz_6 (oa ob : Int) (fill : Nat) (short : Bool) (A : Option Addr) (n c : Nat) (A' : Option Addr) (n' c' : Nat) (r : Int) (E : Dev)
    (HC : ∀ w2, Below w.heap.size w w2 → Calls Try.prog 19 #[.pointer (some ⟨a.d, 0, none⟩), .int .i64 oa] w2 fun e w' => e = .returned (.int .i64 r) ∧ DevIs w' a E ∧ DLeft w2 w' a) :
    Calls Try.prog 17 #[.pointer (some ⟨a.d, 0, none⟩), .agg #[.int .i64 6, .int .i64 oa, .int .i64 ob, .int .u8 fill, .bool short, .slice A n c], .slice A' n' c'] w fun e w' => e = .returned (.slice A' n' c') ∧ DevIs w' a E ∧ DLeft w w' a := by
  obtain ⟨hb, hB⟩ := opBox_new w #[.int .i64 6, .int .i64 oa, .int .i64 ob, .int .u8 fill, .bool short, .slice A n c]
  have HB := Lib.hid hB
  have Hc := Lib.hid (HC _ hB)
  clear HC hb hB
  go_enter Try.func17, Try.ntmps17
  go_wp2_with (first | (go_at_call 19; refine Hc.out.mono ?_; rintro e w' ⟨rfl, hE, hF⟩))
  go_ret
  exact ⟨rfl, hE, (DLeft.ofBelow HB.out).trans hF⟩
set_option maxRecDepth 100000 in
set_option maxHeartbeats 4000000 in
theorem lz_7 (oa ob : Int) (fill : Nat) (short : Bool) (A : Option Addr) (n c : Nat) (A' : Option Addr) (n' c' : Nat) (r : Int) (E : Dev)
    (HC : ∀ w2, Below w.heap.size w w2 → Calls Try.prog 33 #[.pointer (some ⟨a.d, 0, none⟩), .int .i64 oa] w2 fun e w' => e = .returned (.int .i64 r) ∧ DevIs w' a E ∧ DLeft w2 w' a) :
    Calls Try.prog 17 #[.pointer (some ⟨a.d, 0, none⟩), .agg #[.int .i64 7, .int .i64 oa, .int .i64 ob, .int .u8 fill, .bool short, .slice A n c], .slice A' n' c'] w fun e w' => e = .returned (.slice A' n' c') ∧ DevIs w' a E ∧ DLeft w w' a := by
  obtain ⟨hb, hB⟩ := opBox_new w #[.int .i64 7, .int .i64 oa, .int .i64 ob, .int .u8 fill, .bool short, .slice A n c]
  have HB := Lib.hid hB
  have Hc := Lib.hid (HC _ hB)
  clear HC hb hB
  go_enter Try.func17, Try.ntmps17
  go_wp2_with (first | (go_at_call 33; refine Hc.out.mono ?_; rintro e w' ⟨rfl, hE, hF⟩))
  go_ret
  exact ⟨rfl, hE, (DLeft.ofBelow HB.out).trans hF⟩
set_option maxRecDepth 100000 in
set_option maxHeartbeats 4000000 in
theorem lz_8 (oa ob : Int) (fill : Nat) (short : Bool) (A : Option Addr) (n c : Nat) (A' : Option Addr) (n' c' : Nat) (r : Int) (E : Dev)
    (HC : ∀ w2, Below w.heap.size w w2 → Calls Try.prog 34 #[.pointer (some ⟨a.d, 0, none⟩), .int .i64 oa] w2 fun e w' => e = .returned (.int .i64 r) ∧ DevIs w' a E ∧ DLeft w2 w' a) :
    Calls Try.prog 17 #[.pointer (some ⟨a.d, 0, none⟩), .agg #[.int .i64 8, .int .i64 oa, .int .i64 ob, .int .u8 fill, .bool short, .slice A n c], .slice A' n' c'] w fun e w' => e = .returned (.slice A' n' c') ∧ DevIs w' a E ∧ DLeft w w' a := by
  obtain ⟨hb, hB⟩ := opBox_new w #[.int .i64 8, .int .i64 oa, .int .i64 ob, .int .u8 fill, .bool short, .slice A n c]
  have HB := Lib.hid hB
  have Hc := Lib.hid (HC _ hB)
  clear HC hb hB
  go_enter Try.func17, Try.ntmps17
  go_wp2_with (first | (go_at_call 34; refine Hc.out.mono ?_; rintro e w' ⟨rfl, hE, hF⟩))
  go_ret
  exact ⟨rfl, hE, (DLeft.ofBelow HB.out).trans hF⟩
set_option maxRecDepth 100000 in
set_option maxHeartbeats 4000000 in
theorem lz_12 (oa ob : Int) (fill : Nat) (short : Bool) (A : Option Addr) (n c : Nat) (A' : Option Addr) (n' c' : Nat) (r : Int) (E : Dev)
    (HC : ∀ w2, Below w.heap.size w w2 → Calls Try.prog 36 #[.pointer (some ⟨a.d, 0, none⟩), .int .i64 oa] w2 fun e w' => e = .returned (.int .i64 r) ∧ DevIs w' a E ∧ DLeft w2 w' a) :
    Calls Try.prog 17 #[.pointer (some ⟨a.d, 0, none⟩), .agg #[.int .i64 12, .int .i64 oa, .int .i64 ob, .int .u8 fill, .bool short, .slice A n c], .slice A' n' c'] w fun e w' => e = .returned (.slice A' n' c') ∧ DevIs w' a E ∧ DLeft w w' a := by
  obtain ⟨hb, hB⟩ := opBox_new w #[.int .i64 12, .int .i64 oa, .int .i64 ob, .int .u8 fill, .bool short, .slice A n c]
  have HB := Lib.hid hB
  have Hc := Lib.hid (HC _ hB)
  clear HC hb hB
  go_enter Try.func17, Try.ntmps17
  go_wp2_with (first | (go_at_call 36; refine Hc.out.mono ?_; rintro e w' ⟨rfl, hE, hF⟩))
  go_ret
  exact ⟨rfl, hE, (DLeft.ofBelow HB.out).trans hF⟩
set_option maxRecDepth 100000 in
set_option maxHeartbeats 4000000 in
theorem lz_13 (oa ob : Int) (fill : Nat) (short : Bool) (A : Option Addr) (n c : Nat) (A' : Option Addr) (n' c' : Nat) (r : Int) (E : Dev)
    (HC : ∀ w2, Below w.heap.size w w2 → Calls Try.prog 37 #[.pointer (some ⟨a.d, 0, none⟩), .int .i64 oa] w2 fun e w' => e = .returned (.int .i64 r) ∧ DevIs w' a E ∧ DLeft w2 w' a) :
    Calls Try.prog 17 #[.pointer (some ⟨a.d, 0, none⟩), .agg #[.int .i64 13, .int .i64 oa, .int .i64 ob, .int .u8 fill, .bool short, .slice A n c], .slice A' n' c'] w fun e w' => e = .returned (.slice A' n' c') ∧ DevIs w' a E ∧ DLeft w w' a := by
  obtain ⟨hb, hB⟩ := opBox_new w #[.int .i64 13, .int .i64 oa, .int .i64 ob, .int .u8 fill, .bool short, .slice A n c]
  have HB := Lib.hid hB
  have Hc := Lib.hid (HC _ hB)
  clear HC hb hB
  go_enter Try.func17, Try.ntmps17
  go_wp2_with (first | (go_at_call 37; refine Hc.out.mono ?_; rintro e w' ⟨rfl, hE, hF⟩))
  go_ret
  exact ⟨rfl, hE, (DLeft.ofBelow HB.out).trans hF⟩
set_option maxRecDepth 100000 in
set_option maxHeartbeats 4000000 in
theorem lz_15 (oa ob : Int) (fill : Nat) (short : Bool) (A : Option Addr) (n c : Nat) (A' : Option Addr) (n' c' : Nat) (r : Int) (E : Dev)
    (HC : ∀ w2, Below w.heap.size w w2 → Calls Try.prog 20 #[.pointer (some ⟨a.d, 0, none⟩), .slice A' n' c'] w2 fun e w' => e = .returned (.int .i64 r) ∧ DevIs w' a E ∧ DLeft w2 w' a) :
    Calls Try.prog 17 #[.pointer (some ⟨a.d, 0, none⟩), .agg #[.int .i64 15, .int .i64 oa, .int .i64 ob, .int .u8 fill, .bool short, .slice A n c], .slice A' n' c'] w fun e w' => e = .returned (.slice A' n' c') ∧ DevIs w' a E ∧ DLeft w w' a := by
  obtain ⟨hb, hB⟩ := opBox_new w #[.int .i64 15, .int .i64 oa, .int .i64 ob, .int .u8 fill, .bool short, .slice A n c]
  have HB := Lib.hid hB
  have Hc := Lib.hid (HC _ hB)
  clear HC hb hB
  go_enter Try.func17, Try.ntmps17
  go_wp2_with (first | (go_at_call 20; refine Hc.out.mono ?_; rintro e w' ⟨rfl, hE, hF⟩))
  go_ret
  exact ⟨rfl, hE, (DLeft.ofBelow HB.out).trans hF⟩
set_option maxRecDepth 100000 in
set_option maxHeartbeats 4000000 in
theorem lz_9 (oa ob : Int) (fill : Nat) (short : Bool) (A : Option Addr) (n c : Nat) (A' : Option Addr) (n' c' : Nat) (E : Dev)
    (HC : ∀ w2, Below w.heap.size w w2 → Calls Try.prog 13 #[.pointer (some ⟨a.d, 0, none⟩), .int .i64 oa] w2 fun e w' => e = .returned (.tuple #[]) ∧ DevIs w' a E ∧ DLeft w2 w' a) :
    Calls Try.prog 17 #[.pointer (some ⟨a.d, 0, none⟩), .agg #[.int .i64 9, .int .i64 oa, .int .i64 ob, .int .u8 fill, .bool short, .slice A n c], .slice A' n' c'] w fun e w' => e = .returned (.slice A' n' c') ∧ DevIs w' a E ∧ DLeft w w' a := by
  obtain ⟨hb, hB⟩ := opBox_new w #[.int .i64 9, .int .i64 oa, .int .i64 ob, .int .u8 fill, .bool short, .slice A n c]
  have HB := Lib.hid hB
  have Hc := Lib.hid (HC _ hB)
  clear HC hb hB
  go_enter Try.func17, Try.ntmps17
  go_wp2_with (first | (go_at_call 13; refine Hc.out.mono ?_; rintro e w' ⟨rfl, hE, hF⟩))
  go_ret
  exact ⟨rfl, hE, (DLeft.ofBelow HB.out).trans hF⟩
set_option maxRecDepth 100000 in
set_option maxHeartbeats 4000000 in
theorem lz_10 (oa ob : Int) (fill : Nat) (short : Bool) (A : Option Addr) (n c : Nat) (A' : Option Addr) (n' c' : Nat) (E : Dev)
    (HC : ∀ w2, Below w.heap.size w w2 → Calls Try.prog 9 #[.pointer (some ⟨a.d, 0, none⟩), .slice A n c] w2 fun e w' => e = .returned (.tuple #[]) ∧ DevIs w' a E ∧ DLeft w2 w' a) :
    Calls Try.prog 17 #[.pointer (some ⟨a.d, 0, none⟩), .agg #[.int .i64 10, .int .i64 oa, .int .i64 ob, .int .u8 fill, .bool short, .slice A n c], .slice A' n' c'] w fun e w' => e = .returned (.slice A' n' c') ∧ DevIs w' a E ∧ DLeft w w' a := by
  obtain ⟨hb, hB⟩ := opBox_new w #[.int .i64 10, .int .i64 oa, .int .i64 ob, .int .u8 fill, .bool short, .slice A n c]
  have HB := Lib.hid hB
  have Hc := Lib.hid (HC _ hB)
  clear HC hb hB
  go_enter Try.func17, Try.ntmps17
  go_wp2_with (first | (go_at_call 9; refine Hc.out.mono ?_; rintro e w' ⟨rfl, hE, hF⟩))
  go_ret
  exact ⟨rfl, hE, (DLeft.ofBelow HB.out).trans hF⟩
set_option maxRecDepth 100000 in
set_option maxHeartbeats 4000000 in
theorem lz_11 (oa ob : Int) (fill : Nat) (short : Bool) (A : Option Addr) (n c : Nat) (A' : Option Addr) (n' c' : Nat) (E : Dev)
    (HC : ∀ w2, Below w.heap.size w w2 → Calls Try.prog 35 #[.pointer (some ⟨a.d, 0, none⟩)] w2 fun e w' => e = .returned (.tuple #[]) ∧ DevIs w' a E ∧ DLeft w2 w' a) :
    Calls Try.prog 17 #[.pointer (some ⟨a.d, 0, none⟩), .agg #[.int .i64 11, .int .i64 oa, .int .i64 ob, .int .u8 fill, .bool short, .slice A n c], .slice A' n' c'] w fun e w' => e = .returned (.slice A' n' c') ∧ DevIs w' a E ∧ DLeft w w' a := by
  obtain ⟨hb, hB⟩ := opBox_new w #[.int .i64 11, .int .i64 oa, .int .i64 ob, .int .u8 fill, .bool short, .slice A n c]
  have HB := Lib.hid hB
  have Hc := Lib.hid (HC _ hB)
  clear HC hb hB
  go_enter Try.func17, Try.ntmps17
  go_wp2_with (first | (go_at_call 35; refine Hc.out.mono ?_; rintro e w' ⟨rfl, hE, hF⟩))
  go_ret
  exact ⟨rfl, hE, (DLeft.ofBelow HB.out).trans hF⟩
end
end Go.Proofs.Ytgenifcikfbfhaa
