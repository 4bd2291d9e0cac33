/-
  Layer 23 (device): one operation of a script, kind by kind. (Written by a small program.)
-/
import Derived.Test.YtcifkahmeimniaaDevX4
namespace Go.Proofs.Ytcifkahmeimniaa
open Go.RowKit Go.Shelf
attribute [local go_sem] Oper.semAt_some

section
variable {w : World} {a : DAt} {D : Dev}
set_option maxRecDepth 100000 in
set_option maxHeartbeats 4000000 in
theorem do_9 (h : DevIs w a D) (oa ob : Int) (fill : Nat) (short : Bool) (A : Option Addr) (n c : Nat) (A' : Option Addr) (n' c' : Nat) (E : Dev)
    (HC : ∀ w2, Below w.heap.size w w2 → Calls Try.prog 22 #[.pointer (some ⟨a.d, 0, none⟩), .int .i64 oa] w2 fun e w' => e = .returned (.tuple #[]) ∧ DevIs w' a E ∧ DLeft w2 w' a) :
    Calls Try.prog 14 #[.pointer (some ⟨a.d, 0, none⟩), .agg #[.int .i64 9, .int .i64 oa, .int .i64 ob, .int .u8 fill, .bool short, .slice A n c], .slice A' n' c'] w fun e w' => e = .returned (.tuple #[.agg #[.string ⟨#[]⟩, .int .i64 0], .slice A' n' c']) ∧ DevIs w' a E ∧ DLeft w w' a := by
  obtain ⟨hb, hB⟩ := boxes_new w #[.int .i64 9, .int .i64 oa, .int .i64 ob, .int .u8 fill, .bool short, .slice A n c]
  have HB := Lib.hid hB
  have Hb := Lib.hid hb
  have H := Lib.hid h
  have Hc := Lib.hid (HC _ hB)
  clear h HC hb hB
  go_enter Try.func14, Try.ntmps14
  go_wp2_with (first | (go_at_call 22; refine Hc.out.mono ?_; rintro e w' ⟨rfl, hE, hF⟩; obtain ⟨y0, y1, y2, y3, f0, f1, f2, f3⟩ := (Hb.out.left H.out hF).facts))
  have hb := Hb.out.left H.out hF
  have hF2 := (DLeft.ofBelow HB.out).trans hF
  obtain ⟨z1, z2, z3⟩ := do_end hb.r hE hF2 (.string ⟨#[]⟩) (.int .i64 0)
  exact bodyPost_ret (v := .tuple #[.agg #[.string ⟨#[]⟩, .int .i64 0], .slice A' n' c']) (results_ct (p := 6) (q := 7) rfl _ _ (w.heap.size + 1) 36 #[.string ⟨#[]⟩, .int .i64 0] _ rfl z1 Try.underlying36 rfl (by kernel_rfl)) rfl ⟨rfl, z2, z3⟩
set_option maxRecDepth 100000 in
set_option maxHeartbeats 4000000 in
theorem do_10 (h : DevIs w a D) (oa ob : Int) (fill : Nat) (short : Bool) (A : Option Addr) (n c : Nat) (A' : Option Addr) (n' c' : Nat) (E : Dev)
    (HC : ∀ w2, Below w.heap.size w w2 → Calls Try.prog 16 #[.pointer (some ⟨a.d, 0, none⟩), .slice A n c] w2 fun e w' => e = .returned (.tuple #[]) ∧ DevIs w' a E ∧ DLeft w2 w' a) :
    Calls Try.prog 14 #[.pointer (some ⟨a.d, 0, none⟩), .agg #[.int .i64 10, .int .i64 oa, .int .i64 ob, .int .u8 fill, .bool short, .slice A n c], .slice A' n' c'] w fun e w' => e = .returned (.tuple #[.agg #[.string ⟨#[]⟩, .int .i64 0], .slice A' n' c']) ∧ DevIs w' a E ∧ DLeft w w' a := by
  obtain ⟨hb, hB⟩ := boxes_new w #[.int .i64 10, .int .i64 oa, .int .i64 ob, .int .u8 fill, .bool short, .slice A n c]
  have HB := Lib.hid hB
  have Hb := Lib.hid hb
  have H := Lib.hid h
  have Hc := Lib.hid (HC _ hB)
  clear h HC hb hB
  go_enter Try.func14, Try.ntmps14
  go_wp2_with (first | (go_at_call 16; refine Hc.out.mono ?_; rintro e w' ⟨rfl, hE, hF⟩; obtain ⟨y0, y1, y2, y3, f0, f1, f2, f3⟩ := (Hb.out.left H.out hF).facts))
  have hb := Hb.out.left H.out hF
  have hF2 := (DLeft.ofBelow HB.out).trans hF
  obtain ⟨z1, z2, z3⟩ := do_end hb.r hE hF2 (.string ⟨#[]⟩) (.int .i64 0)
  exact bodyPost_ret (v := .tuple #[.agg #[.string ⟨#[]⟩, .int .i64 0], .slice A' n' c']) (results_ct (p := 6) (q := 7) rfl _ _ (w.heap.size + 1) 36 #[.string ⟨#[]⟩, .int .i64 0] _ rfl z1 Try.underlying36 rfl (by kernel_rfl)) rfl ⟨rfl, z2, z3⟩
set_option maxRecDepth 100000 in
set_option maxHeartbeats 4000000 in
theorem do_11 (h : DevIs w a D) (oa ob : Int) (fill : Nat) (short : Bool) (A : Option Addr) (n c : Nat) (A' : Option Addr) (n' c' : Nat) (E : Dev)
    (HC : ∀ w2, Below w.heap.size w w2 → Calls Try.prog 32 #[.pointer (some ⟨a.d, 0, none⟩)] w2 fun e w' => e = .returned (.tuple #[]) ∧ DevIs w' a E ∧ DLeft w2 w' a) :
    Calls Try.prog 14 #[.pointer (some ⟨a.d, 0, none⟩), .agg #[.int .i64 11, .int .i64 oa, .int .i64 ob, .int .u8 fill, .bool short, .slice A n c], .slice A' n' c'] w fun e w' => e = .returned (.tuple #[.agg #[.string ⟨#[]⟩, .int .i64 0], .slice A' n' c']) ∧ DevIs w' a E ∧ DLeft w w' a := by
  obtain ⟨hb, hB⟩ := boxes_new w #[.int .i64 11, .int .i64 oa, .int .i64 ob, .int .u8 fill, .bool short, .slice A n c]
  have HB := Lib.hid hB
  have Hb := Lib.hid hb
  have H := Lib.hid h
  have Hc := Lib.hid (HC _ hB)
  clear h HC hb hB
  go_enter Try.func14, Try.ntmps14
  go_wp2_with (first | (go_at_call 32; refine Hc.out.mono ?_; rintro e w' ⟨rfl, hE, hF⟩; obtain ⟨y0, y1, y2, y3, f0, f1, f2, f3⟩ := (Hb.out.left H.out hF).facts))
  have hb := Hb.out.left H.out hF
  have hF2 := (DLeft.ofBelow HB.out).trans hF
  obtain ⟨z1, z2, z3⟩ := do_end hb.r hE hF2 (.string ⟨#[]⟩) (.int .i64 0)
  exact bodyPost_ret (v := .tuple #[.agg #[.string ⟨#[]⟩, .int .i64 0], .slice A' n' c']) (results_ct (p := 6) (q := 7) rfl _ _ (w.heap.size + 1) 36 #[.string ⟨#[]⟩, .int .i64 0] _ rfl z1 Try.underlying36 rfl (by kernel_rfl)) rfl ⟨rfl, z2, z3⟩
set_option maxRecDepth 100000 in
set_option maxHeartbeats 4000000 in
theorem do_12 (h : DevIs w a D) (oa ob : Int) (fill : Nat) (short : Bool) (A : Option Addr) (n c : Nat) (A' : Option Addr) (n' c' : Nat) (r : Int) (E : Dev)
    (HC : ∀ w2, Below w.heap.size w w2 → Calls Try.prog 35 #[.pointer (some ⟨a.d, 0, none⟩), .int .i64 oa] w2 fun e w' => e = .returned (.int .i64 r) ∧ DevIs w' a E ∧ DLeft w2 w' a) :
    Calls Try.prog 14 #[.pointer (some ⟨a.d, 0, none⟩), .agg #[.int .i64 12, .int .i64 oa, .int .i64 ob, .int .u8 fill, .bool short, .slice A n c], .slice A' n' c'] w fun e w' => e = .returned (.tuple #[.agg #[.string ⟨#[]⟩, .int .i64 r], .slice A' n' c']) ∧ DevIs w' a E ∧ DLeft w w' a := by
  obtain ⟨hb, hB⟩ := boxes_new w #[.int .i64 12, .int .i64 oa, .int .i64 ob, .int .u8 fill, .bool short, .slice A n c]
  have HB := Lib.hid hB
  have Hb := Lib.hid hb
  have H := Lib.hid h
  have Hc := Lib.hid (HC _ hB)
  clear h HC hb hB
  go_enter Try.func14, Try.ntmps14
  go_wp2_with (first | (go_at_call 35; refine Hc.out.mono ?_; rintro e w' ⟨rfl, hE, hF⟩; obtain ⟨y0, y1, y2, y3, f0, f1, f2, f3⟩ := (Hb.out.left H.out hF).facts))
  have hb := Hb.out.left H.out hF
  have hF2 := (DLeft.ofBelow HB.out).trans hF
  obtain ⟨x1, x2, x3⟩ := hb.q1 hE hF2 1 (.int .i64 r)
  obtain ⟨z1, z2, z3⟩ := do_end x1 x2 x3 (.string ⟨#[]⟩) (.int .i64 r)
  exact bodyPost_ret (v := .tuple #[.agg #[.string ⟨#[]⟩, .int .i64 r], .slice A' n' c']) (results_ct (p := 6) (q := 7) rfl _ _ (w.heap.size + 1) 36 #[.string ⟨#[]⟩, .int .i64 r] _ rfl z1 Try.underlying36 rfl (by kernel_rfl)) rfl ⟨rfl, z2, z3⟩
set_option maxRecDepth 100000 in
set_option maxHeartbeats 4000000 in
theorem do_13 (h : DevIs w a D) (oa ob : Int) (fill : Nat) (short : Bool) (A : Option Addr) (n c : Nat) (A' : Option Addr) (n' c' : Nat) (r : Int) (E : Dev)
    (HC : ∀ w2, Below w.heap.size w w2 → Calls Try.prog 36 #[.pointer (some ⟨a.d, 0, none⟩), .int .i64 oa] w2 fun e w' => e = .returned (.int .i64 r) ∧ DevIs w' a E ∧ DLeft w2 w' a) :
    Calls Try.prog 14 #[.pointer (some ⟨a.d, 0, none⟩), .agg #[.int .i64 13, .int .i64 oa, .int .i64 ob, .int .u8 fill, .bool short, .slice A n c], .slice A' n' c'] w fun e w' => e = .returned (.tuple #[.agg #[.string ⟨#[]⟩, .int .i64 r], .slice A' n' c']) ∧ DevIs w' a E ∧ DLeft w w' a := by
  obtain ⟨hb, hB⟩ := boxes_new w #[.int .i64 13, .int .i64 oa, .int .i64 ob, .int .u8 fill, .bool short, .slice A n c]
  have HB := Lib.hid hB
  have Hb := Lib.hid hb
  have H := Lib.hid h
  have Hc := Lib.hid (HC _ hB)
  clear h HC hb hB
  go_enter Try.func14, Try.ntmps14
  go_wp2_with (first | (go_at_call 36; refine Hc.out.mono ?_; rintro e w' ⟨rfl, hE, hF⟩; obtain ⟨y0, y1, y2, y3, f0, f1, f2, f3⟩ := (Hb.out.left H.out hF).facts))
  have hb := Hb.out.left H.out hF
  have hF2 := (DLeft.ofBelow HB.out).trans hF
  obtain ⟨x1, x2, x3⟩ := hb.q1 hE hF2 1 (.int .i64 r)
  obtain ⟨z1, z2, z3⟩ := do_end x1 x2 x3 (.string ⟨#[]⟩) (.int .i64 r)
  exact bodyPost_ret (v := .tuple #[.agg #[.string ⟨#[]⟩, .int .i64 r], .slice A' n' c']) (results_ct (p := 6) (q := 7) rfl _ _ (w.heap.size + 1) 36 #[.string ⟨#[]⟩, .int .i64 r] _ rfl z1 Try.underlying36 rfl (by kernel_rfl)) rfl ⟨rfl, z2, z3⟩
set_option maxRecDepth 100000 in
set_option maxHeartbeats 4000000 in
theorem do_15 (h : DevIs w a D) (oa ob : Int) (fill : Nat) (short : Bool) (A : Option Addr) (n c : Nat) (A' : Option Addr) (n' c' : Nat) (r : Int) (E : Dev)
    (HC : ∀ w2, Below w.heap.size w w2 → Calls Try.prog 24 #[.pointer (some ⟨a.d, 0, none⟩), .slice A' n' c'] w2 fun e w' => e = .returned (.int .i64 r) ∧ DevIs w' a E ∧ DLeft w2 w' a) :
    Calls Try.prog 14 #[.pointer (some ⟨a.d, 0, none⟩), .agg #[.int .i64 15, .int .i64 oa, .int .i64 ob, .int .u8 fill, .bool short, .slice A n c], .slice A' n' c'] w fun e w' => e = .returned (.tuple #[.agg #[.string ⟨#[]⟩, .int .i64 r], .slice A' n' c']) ∧ DevIs w' a E ∧ DLeft w w' a := by
  obtain ⟨hb, hB⟩ := boxes_new w #[.int .i64 15, .int .i64 oa, .int .i64 ob, .int .u8 fill, .bool short, .slice A n c]
  have HB := Lib.hid hB
  have Hb := Lib.hid hb
  have H := Lib.hid h
  have Hc := Lib.hid (HC _ hB)
  clear h HC hb hB
  go_enter Try.func14, Try.ntmps14
  go_wp2_with (first | (go_at_call 24; refine Hc.out.mono ?_; rintro e w' ⟨rfl, hE, hF⟩; obtain ⟨y0, y1, y2, y3, f0, f1, f2, f3⟩ := (Hb.out.left H.out hF).facts))
  have hb := Hb.out.left H.out hF
  have hF2 := (DLeft.ofBelow HB.out).trans hF
  obtain ⟨x1, x2, x3⟩ := hb.q1 hE hF2 1 (.int .i64 r)
  obtain ⟨z1, z2, z3⟩ := do_end x1 x2 x3 (.string ⟨#[]⟩) (.int .i64 r)
  exact bodyPost_ret (v := .tuple #[.agg #[.string ⟨#[]⟩, .int .i64 r], .slice A' n' c']) (results_ct (p := 6) (q := 7) rfl _ _ (w.heap.size + 1) 36 #[.string ⟨#[]⟩, .int .i64 r] _ rfl z1 Try.underlying36 rfl (by kernel_rfl)) rfl ⟨rfl, z2, z3⟩
set_option maxRecDepth 100000 in
set_option maxHeartbeats 4000000 in
theorem do_other (h : DevIs w a D) (k : Int) (hk : k < 1 ∨ 15 < k) (oa ob : Int) (fill : Nat) (short : Bool) (A : Option Addr) (n c : Nat) (A' : Option Addr) (n' c' : Nat) :
    Calls Try.prog 14 #[.pointer (some ⟨a.d, 0, none⟩), .agg #[.int .i64 k, .int .i64 oa, .int .i64 ob, .int .u8 fill, .bool short, .slice A n c], .slice A' n' c'] w fun e w' => e = .returned (.tuple #[.agg #[.string ⟨#[]⟩, .int .i64 0], .slice A' n' c']) ∧ DevIs w' a D ∧ DLeft w w' a := by
  obtain ⟨hb, hB⟩ := boxes_new w #[.int .i64 k, .int .i64 oa, .int .i64 ob, .int .u8 fill, .bool short, .slice A n c]
  have HB := Lib.hid hB
  have Hb := Lib.hid hb
  have HE := Lib.hid (h.below hB)
  have b1 : (k == 1) = false := beq_f (by omega)
  have b2 : (k == 2) = false := beq_f (by omega)
  have b3 : (k == 3) = false := beq_f (by omega)
  have b4 : (k == 4) = false := beq_f (by omega)
  have b5 : (k == 5) = false := beq_f (by omega)
  have b6 : (k == 6) = false := beq_f (by omega)
  have b7 : (k == 7) = false := beq_f (by omega)
  have b8 : (k == 8) = false := beq_f (by omega)
  have b9 : (k == 9) = false := beq_f (by omega)
  have b10 : (k == 10) = false := beq_f (by omega)
  have b11 : (k == 11) = false := beq_f (by omega)
  have b12 : (k == 12) = false := beq_f (by omega)
  have b13 : (k == 13) = false := beq_f (by omega)
  have b14 : (k == 14) = false := beq_f (by omega)
  have b15 : (k == 15) = false := beq_f (by omega)
  clear h hb hB hk
  go_enter Try.func14, Try.ntmps14
  go_wp2_with fail
  have z1 := Hb.out.r
  have z2 := HE.out
  have z3 : DLeft w _ a := DLeft.ofBelow HB.out
  exact bodyPost_ret (v := .tuple #[.agg #[.string ⟨#[]⟩, .int .i64 0], .slice A' n' c']) (results_ct (p := 6) (q := 7) rfl _ _ (w.heap.size + 1) 36 #[.string ⟨#[]⟩, .int .i64 0] _ rfl z1 Try.underlying36 rfl (by kernel_rfl)) rfl ⟨rfl, z2, z3⟩
end
end Go.Proofs.Ytcifkahmeimniaa
