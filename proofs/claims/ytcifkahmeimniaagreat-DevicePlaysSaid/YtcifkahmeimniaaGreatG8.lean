/-
  Layer 23 (device): one operation of a script, kind by kind. (Written by a small program.)
  Layer 23 (device): one operation of a script, kind by kind. (Written by a small program.)
  Layer 23 (device): one operation of a script, kind by kind. (Written by a small program.)
  Layer 23 (device): one operation of a script with the specification's device, by the plain step. (Written by a small program.)
  Layer 23 (device): SameTexts. (Written by a small program, out of DevR1.)
-/
import Derived.Test.YtcifkahmeimniaaGreatRdW4
import Derived.Test.YtcifkahmeimniaaGreatDevX7
import Derived.Deep.RegionHeld3
import Derived.Test.YtcifkahmeimniaaGreatG5
namespace Go.Proofs.YtcifkahmeimniaaGreat
open Go.RowKit Go.Shelf
attribute [local go_sem] Oper.semAt_some

theorem RDevIs.set {w : World} {a : DAt} {E : Dev} (h : RDevIs w a E) {k : Nat} {cs : Array Value} (hk : Blk w k 38 cs) (i : Nat) (v : Value) : RDevIs (w.setCell ⟨k, i, none⟩ v) a E := by
  have hg := grown_set w k i v
  obtain ⟨_, q1⟩ := h.mblk
  obtain ⟨_, q2⟩ := h.gblk
  obtain ⟨L, h⟩ := h
  exact ⟨L, h.blk.grown hg (fun e => h.blk.ne_ hk (by decide) (Option.some.inj e)), h.mem.grown hg (fun e => q1.ne_ hk (by decide) (Option.some.inj e)) (fun e => q2.ne_ hk (by decide) (Option.some.inj e)), h.srow.kept hg (.inr (own_blk_ne h.srow hk (by decide))), h.frow.kept hg (.inr (own_blk_ne h.frow hk (by decide))), h.lf⟩

theorem Img.rfresh {w w' : World} {a : DAt} {D : Dev} {v : Value} {I : List ByteArray} (hT : NewTexts w w' v I) (h : RDevIs w a D) : Img w' v I a := by
  refine ⟨⟨hT.1.1, ?_⟩, fun k e => ?_⟩
  · rcases hT.1.2 with h2 | ⟨g, cap, cur, hv, hg, r⟩
    · exact .inl h2
    · exact .inr ⟨g, cap, cur, hv, Nat.zero_le _, r⟩
  · obtain ⟨_, q3⟩ := h.sblk
    have l3 := q3.lt
    have := (hT.1.lt k e).1
    omega
/-- Another block behind an operation on the specification's device. -/
theorem DLeft.rblk {w w' : World} {a : DAt} {D : Dev} (hF : DLeft w w' a) (h : RDevIs w a D) {k : Nat} {t : TypeId} {cs : Array Value} (hk : Blk w k t cs) (h1 : t = 69 → k ≠ a.d) (h2 : t = 92 → k ≠ a.g) (h3 : t = 9 → k ≠ a.sb) (h4 : t = 4 → k ≠ a.fb) : w'.heap[k]? = w.heap[k]? := by
  obtain ⟨_, q1⟩ := h.dblk
  obtain ⟨_, q2⟩ := h.gblk
  obtain ⟨_, q3⟩ := h.sblk
  obtain ⟨_, q4⟩ := h.fblk
  refine hF.rest k hk.lt ?_ ?_ ?_ ?_
  · by_cases e : t = 69
    · exact h1 e
    · exact hk.ne_ q1 e
  · by_cases e : t = 92
    · exact h2 e
    · exact hk.ne_ q2 e
  · by_cases e : t = 9
    · exact h3 e
    · exact hk.ne_ q3 e
  · by_cases e : t = 4
    · exact h4 e
    · exact hk.ne_ q4 e
theorem DLeft.rimg {w w' : World} {a : DAt} {D : Dev} {v : Value} {I : List ByteArray} (hF : DLeft w w' a) (h : RDevIs w a D) (k : Img w v I a) : Img w' v I a :=
  ⟨ownsRow_same k.texts (fun j cs e hj => hF.rblk h hj (fun e => by cases e) (fun e => by cases e) (fun _ => k.own j e) (fun e => by cases e)), k.own⟩
/-- The specification's device of the call's own. -/
structure MRDev (W w : World) (a : DAt) (D : Dev) : Prop where
  dev : RDevIs w a D
  bel : Below W.heap.size W w
  hd : W.heap.size ≤ a.d
  hg : W.heap.size ≤ a.g
  hsb : W.heap.size ≤ a.sb
  hfb : W.heap.size ≤ a.fb
theorem MRDev.on {W w w' : World} {a : DAt} {D : Dev} (h : MRDev W w a D) (hB : Below w.heap.size w w') : MRDev W w' a D :=
  ⟨h.dev.below hB, h.bel.trans (hB.mono h.bel.size), h.hd, h.hg, h.hsb, h.hfb⟩

section
variable {w : World} {a : DAt} {D : Dev}
theorem Boxes.rleft {w1 w' : World} {op : Array Value} (h : Boxes w1 w.heap.size op) (hD : RDevIs w a D) (hF : DLeft w1 w' a) : Boxes w' w.heap.size op := by
  obtain ⟨l1, l2, l3, l4⟩ := hD.sizes
  exact ⟨(hF.rest _ h.o.lt (by omega) (by omega) (by omega) (by omega)).trans h.o, (hF.rest _ h.r.lt (by omega) (by omega) (by omega) (by omega)).trans h.r, (hF.rest _ h.q.lt (by omega) (by omega) (by omega) (by omega)).trans h.q⟩
/-- What stands behind the boxes' last stores. -/
theorem rdo_end {w2 : World} {E : Dev} (hr : Blk w2 (w.heap.size + 1) 38 #[.string ⟨#[]⟩, .int .i64 0]) (hE : RDevIs w2 a E) (hF : DLeft w w2 a) (u v : Value) :
    Blk ((w2.setCell ⟨w.heap.size + 1, 0, none⟩ u).setCell ⟨w.heap.size + 1, 1, none⟩ v) (w.heap.size + 1) 38 #[u, v] ∧ RDevIs ((w2.setCell ⟨w.heap.size + 1, 0, none⟩ u).setCell ⟨w.heap.size + 1, 1, none⟩ v) a E ∧ DLeft w ((w2.setCell ⟨w.heap.size + 1, 0, none⟩ u).setCell ⟨w.heap.size + 1, 1, none⟩ v) a :=
  ⟨(hr.set_ 0 u).set_ 1 v, (hE.set hr 0 u).set (hr.set_ 0 u) 1 v, (hF.set (by omega) 0 u).set (by omega) 1 v⟩
theorem Boxes.rq1 {w' : World} {op : Array Value} {E : Dev} (hb : Boxes w' w.heap.size op) (hE : RDevIs w' a E) (hF : DLeft w w' a) (i : Nat) (v : Value) :
    Blk (w'.setCell ⟨w.heap.size + 1 + 1, i, none⟩ v) (w.heap.size + 1) 38 #[.string ⟨#[]⟩, .int .i64 0] ∧ RDevIs (w'.setCell ⟨w.heap.size + 1 + 1, i, none⟩ v) a E ∧ DLeft w (w'.setCell ⟨w.heap.size + 1 + 1, i, none⟩ v) a :=
  ⟨hb.r.other (a := ⟨w.heap.size + 1 + 1, i, none⟩) (by show w.heap.size + 1 ≠ w.heap.size + 1 + 1; omega) v, hE.set hb.q i v, hF.set (by omega) i v⟩
theorem Boxes.rq2 {w' : World} {op : Array Value} {E : Dev} (hb : Boxes w' w.heap.size op) (hE : RDevIs w' a E) (hF : DLeft w w' a) (u v : Value) :
    Blk ((w'.setCell ⟨w.heap.size + 1 + 1, 0, none⟩ u).setCell ⟨w.heap.size + 1 + 1, 1, none⟩ v) (w.heap.size + 1) 38 #[.string ⟨#[]⟩, .int .i64 0] ∧ RDevIs ((w'.setCell ⟨w.heap.size + 1 + 1, 0, none⟩ u).setCell ⟨w.heap.size + 1 + 1, 1, none⟩ v) a E ∧ DLeft w ((w'.setCell ⟨w.heap.size + 1 + 1, 0, none⟩ u).setCell ⟨w.heap.size + 1 + 1, 1, none⟩ v) a :=
  ⟨(hb.r.other (a := ⟨w.heap.size + 1 + 1, 0, none⟩) (by show w.heap.size + 1 ≠ w.heap.size + 1 + 1; omega) u).other (a := ⟨w.heap.size + 1 + 1, 1, none⟩) (by show w.heap.size + 1 ≠ w.heap.size + 1 + 1; omega) v, (hE.set hb.q 0 u).set (hb.q.set_ 0 u) 1 v, (hF.set (by omega) 0 u).set (by omega) 1 v⟩
set_option maxRecDepth 100000 in
set_option maxHeartbeats 4000000 in
theorem rdo_1 (h : RDevIs w a D) (oa ob : Int) (fill : Nat) (short : Bool) (A : Option Addr) (n c : Nat) (A' : Option Addr) (n' c' : Nat) (t : ByteArray) (r : Int) (E : Dev)
    (HC : ∀ w2, Below w.heap.size w w2 → Calls Tryz.prog 41 #[.pointer (some ⟨a.d, 0, none⟩), .int .i64 oa] w2 fun e w' => e = .returned (.tuple #[.string t, .int .i64 r]) ∧ RDevIs w' a E ∧ DLeft w2 w' a) :
    Calls Tryz.prog 11 #[.pointer (some ⟨a.d, 0, none⟩), .agg #[.int .i64 1, .int .i64 oa, .int .i64 ob, .int .u8 fill, .bool short, .slice A n c], .slice A' n' c'] w fun e w' => e = .returned (.tuple #[.agg #[.string t, .int .i64 r], .slice A' n' c']) ∧ RDevIs w' a E ∧ DLeft w w' a := by
  obtain ⟨hb, hB⟩ := boxes_new w #[.int .i64 1, .int .i64 oa, .int .i64 ob, .int .u8 fill, .bool short, .slice A n c]
  have HB := Lib.hid hB
  have Hb := Lib.hid hb
  have H := Lib.hid h
  have Hc := Lib.hid (HC _ hB)
  clear h HC hb hB
  go_enter Tryz.func11, Tryz.ntmps11
  go_wp2_with (first | (go_at_call 41; refine Hc.out.mono ?_; rintro e w' ⟨rfl, hE, hF⟩; obtain ⟨y0, y1, y2, y3, f0, f1, f2, f3⟩ := (Hb.out.rleft H.out hF).facts))
  have hb := Hb.out.rleft H.out hF
  have hF2 := (DLeft.ofBelow HB.out).trans hF
  obtain ⟨x1, x2, x3⟩ := hb.rq2 hE hF2 (.string t) (.int .i64 r)
  obtain ⟨z1, z2, z3⟩ := rdo_end x1 x2 x3 (.string t) (.int .i64 r)
  exact bodyPost_ret (v := .tuple #[.agg #[.string t, .int .i64 r], .slice A' n' c']) (results_ct (p := 6) (q := 7) rfl _ _ (w.heap.size + 1) 38 #[.string t, .int .i64 r] _ rfl z1 Tryz.underlying38 rfl (by kernel_rfl)) rfl ⟨rfl, z2, z3⟩
set_option maxRecDepth 100000 in
set_option maxHeartbeats 4000000 in
theorem rdo_3 (h : RDevIs w a D) (oa ob : Int) (fill : Nat) (short : Bool) (A : Option Addr) (n c : Nat) (A' : Option Addr) (n' c' : Nat) (r : Int) (E : Dev)
    (HC : ∀ w2, Below w.heap.size w w2 → Calls Tryz.prog 43 #[.pointer (some ⟨a.d, 0, none⟩)] w2 fun e w' => e = .returned (.int .i64 r) ∧ RDevIs w' a E ∧ DLeft w2 w' a) :
    Calls Tryz.prog 11 #[.pointer (some ⟨a.d, 0, none⟩), .agg #[.int .i64 3, .int .i64 oa, .int .i64 ob, .int .u8 fill, .bool short, .slice A n c], .slice A' n' c'] w fun e w' => e = .returned (.tuple #[.agg #[.string ⟨#[]⟩, .int .i64 r], .slice A' n' c']) ∧ RDevIs w' a E ∧ DLeft w w' a := by
  obtain ⟨hb, hB⟩ := boxes_new w #[.int .i64 3, .int .i64 oa, .int .i64 ob, .int .u8 fill, .bool short, .slice A n c]
  have HB := Lib.hid hB
  have Hb := Lib.hid hb
  have H := Lib.hid h
  have Hc := Lib.hid (HC _ hB)
  clear h HC hb hB
  go_enter Tryz.func11, Tryz.ntmps11
  go_wp2_with (first | (go_at_call 43; refine Hc.out.mono ?_; rintro e w' ⟨rfl, hE, hF⟩; obtain ⟨y0, y1, y2, y3, f0, f1, f2, f3⟩ := (Hb.out.rleft H.out hF).facts))
  have hb := Hb.out.rleft H.out hF
  have hF2 := (DLeft.ofBelow HB.out).trans hF
  obtain ⟨x1, x2, x3⟩ := hb.rq1 hE hF2 1 (.int .i64 r)
  obtain ⟨z1, z2, z3⟩ := rdo_end x1 x2 x3 (.string ⟨#[]⟩) (.int .i64 r)
  exact bodyPost_ret (v := .tuple #[.agg #[.string ⟨#[]⟩, .int .i64 r], .slice A' n' c']) (results_ct (p := 6) (q := 7) rfl _ _ (w.heap.size + 1) 38 #[.string ⟨#[]⟩, .int .i64 r] _ rfl z1 Tryz.underlying38 rfl (by kernel_rfl)) rfl ⟨rfl, z2, z3⟩
set_option maxRecDepth 100000 in
set_option maxHeartbeats 4000000 in
theorem rdo_4 (h : RDevIs w a D) (oa ob : Int) (fill : Nat) (short : Bool) (A : Option Addr) (n c : Nat) (A' : Option Addr) (n' c' : Nat) (t : ByteArray) (r : Int) (E : Dev)
    (HC : ∀ w2, Below w.heap.size w w2 → Calls Tryz.prog 44 #[.pointer (some ⟨a.d, 0, none⟩), .int .i64 oa] w2 fun e w' => e = .returned (.tuple #[.string t, .int .i64 r]) ∧ RDevIs w' a E ∧ DLeft w2 w' a) :
    Calls Tryz.prog 11 #[.pointer (some ⟨a.d, 0, none⟩), .agg #[.int .i64 4, .int .i64 oa, .int .i64 ob, .int .u8 fill, .bool short, .slice A n c], .slice A' n' c'] w fun e w' => e = .returned (.tuple #[.agg #[.string t, .int .i64 r], .slice A' n' c']) ∧ RDevIs w' a E ∧ DLeft w w' a := by
  obtain ⟨hb, hB⟩ := boxes_new w #[.int .i64 4, .int .i64 oa, .int .i64 ob, .int .u8 fill, .bool short, .slice A n c]
  have HB := Lib.hid hB
  have Hb := Lib.hid hb
  have H := Lib.hid h
  have Hc := Lib.hid (HC _ hB)
  clear h HC hb hB
  go_enter Tryz.func11, Tryz.ntmps11
  go_wp2_with (first | (go_at_call 44; refine Hc.out.mono ?_; rintro e w' ⟨rfl, hE, hF⟩; obtain ⟨y0, y1, y2, y3, f0, f1, f2, f3⟩ := (Hb.out.rleft H.out hF).facts))
  have hb := Hb.out.rleft H.out hF
  have hF2 := (DLeft.ofBelow HB.out).trans hF
  obtain ⟨x1, x2, x3⟩ := hb.rq2 hE hF2 (.string t) (.int .i64 r)
  obtain ⟨z1, z2, z3⟩ := rdo_end x1 x2 x3 (.string t) (.int .i64 r)
  exact bodyPost_ret (v := .tuple #[.agg #[.string t, .int .i64 r], .slice A' n' c']) (results_ct (p := 6) (q := 7) rfl _ _ (w.heap.size + 1) 38 #[.string t, .int .i64 r] _ rfl z1 Tryz.underlying38 rfl (by kernel_rfl)) rfl ⟨rfl, z2, z3⟩
set_option maxRecDepth 100000 in
set_option maxHeartbeats 4000000 in
theorem rdo_6 (h : RDevIs w a D) (oa ob : Int) (fill : Nat) (short : Bool) (A : Option Addr) (n c : Nat) (A' : Option Addr) (n' c' : Nat) (r : Int) (E : Dev)
    (HC : ∀ w2, Below w.heap.size w w2 → Calls Tryz.prog 46 #[.pointer (some ⟨a.d, 0, none⟩), .int .i64 oa] w2 fun e w' => e = .returned (.int .i64 r) ∧ RDevIs w' a E ∧ DLeft w2 w' a) :
    Calls Tryz.prog 11 #[.pointer (some ⟨a.d, 0, none⟩), .agg #[.int .i64 6, .int .i64 oa, .int .i64 ob, .int .u8 fill, .bool short, .slice A n c], .slice A' n' c'] w fun e w' => e = .returned (.tuple #[.agg #[.string ⟨#[]⟩, .int .i64 r], .slice A' n' c']) ∧ RDevIs w' a E ∧ DLeft w w' a := by
  obtain ⟨hb, hB⟩ := boxes_new w #[.int .i64 6, .int .i64 oa, .int .i64 ob, .int .u8 fill, .bool short, .slice A n c]
  have HB := Lib.hid hB
  have Hb := Lib.hid hb
  have H := Lib.hid h
  have Hc := Lib.hid (HC _ hB)
  clear h HC hb hB
  go_enter Tryz.func11, Tryz.ntmps11
  go_wp2_with (first | (go_at_call 46; refine Hc.out.mono ?_; rintro e w' ⟨rfl, hE, hF⟩; obtain ⟨y0, y1, y2, y3, f0, f1, f2, f3⟩ := (Hb.out.rleft H.out hF).facts))
  have hb := Hb.out.rleft H.out hF
  have hF2 := (DLeft.ofBelow HB.out).trans hF
  obtain ⟨x1, x2, x3⟩ := hb.rq1 hE hF2 1 (.int .i64 r)
  obtain ⟨z1, z2, z3⟩ := rdo_end x1 x2 x3 (.string ⟨#[]⟩) (.int .i64 r)
  exact bodyPost_ret (v := .tuple #[.agg #[.string ⟨#[]⟩, .int .i64 r], .slice A' n' c']) (results_ct (p := 6) (q := 7) rfl _ _ (w.heap.size + 1) 38 #[.string ⟨#[]⟩, .int .i64 r] _ rfl z1 Tryz.underlying38 rfl (by kernel_rfl)) rfl ⟨rfl, z2, z3⟩
set_option maxRecDepth 100000 in
set_option maxHeartbeats 4000000 in
theorem rdo_7 (h : RDevIs w a D) (oa ob : Int) (fill : Nat) (short : Bool) (A : Option Addr) (n c : Nat) (A' : Option Addr) (n' c' : Nat) (r : Int) (E : Dev)
    (HC : ∀ w2, Below w.heap.size w w2 → Calls Tryz.prog 47 #[.pointer (some ⟨a.d, 0, none⟩), .int .i64 oa] w2 fun e w' => e = .returned (.int .i64 r) ∧ RDevIs w' a E ∧ DLeft w2 w' a) :
    Calls Tryz.prog 11 #[.pointer (some ⟨a.d, 0, none⟩), .agg #[.int .i64 7, .int .i64 oa, .int .i64 ob, .int .u8 fill, .bool short, .slice A n c], .slice A' n' c'] w fun e w' => e = .returned (.tuple #[.agg #[.string ⟨#[]⟩, .int .i64 r], .slice A' n' c']) ∧ RDevIs w' a E ∧ DLeft w w' a := by
  obtain ⟨hb, hB⟩ := boxes_new w #[.int .i64 7, .int .i64 oa, .int .i64 ob, .int .u8 fill, .bool short, .slice A n c]
  have HB := Lib.hid hB
  have Hb := Lib.hid hb
  have H := Lib.hid h
  have Hc := Lib.hid (HC _ hB)
  clear h HC hb hB
  go_enter Tryz.func11, Tryz.ntmps11
  go_wp2_with (first | (go_at_call 47; refine Hc.out.mono ?_; rintro e w' ⟨rfl, hE, hF⟩; obtain ⟨y0, y1, y2, y3, f0, f1, f2, f3⟩ := (Hb.out.rleft H.out hF).facts))
  have hb := Hb.out.rleft H.out hF
  have hF2 := (DLeft.ofBelow HB.out).trans hF
  obtain ⟨x1, x2, x3⟩ := hb.rq1 hE hF2 1 (.int .i64 r)
  obtain ⟨z1, z2, z3⟩ := rdo_end x1 x2 x3 (.string ⟨#[]⟩) (.int .i64 r)
  exact bodyPost_ret (v := .tuple #[.agg #[.string ⟨#[]⟩, .int .i64 r], .slice A' n' c']) (results_ct (p := 6) (q := 7) rfl _ _ (w.heap.size + 1) 38 #[.string ⟨#[]⟩, .int .i64 r] _ rfl z1 Tryz.underlying38 rfl (by kernel_rfl)) rfl ⟨rfl, z2, z3⟩
set_option maxRecDepth 100000 in
set_option maxHeartbeats 4000000 in
theorem rdo_8 (h : RDevIs w a D) (oa ob : Int) (fill : Nat) (short : Bool) (A : Option Addr) (n c : Nat) (A' : Option Addr) (n' c' : Nat) (r : Int) (E : Dev)
    (HC : ∀ w2, Below w.heap.size w w2 → Calls Tryz.prog 48 #[.pointer (some ⟨a.d, 0, none⟩), .int .i64 oa] w2 fun e w' => e = .returned (.int .i64 r) ∧ RDevIs w' a E ∧ DLeft w2 w' a) :
    Calls Tryz.prog 11 #[.pointer (some ⟨a.d, 0, none⟩), .agg #[.int .i64 8, .int .i64 oa, .int .i64 ob, .int .u8 fill, .bool short, .slice A n c], .slice A' n' c'] w fun e w' => e = .returned (.tuple #[.agg #[.string ⟨#[]⟩, .int .i64 r], .slice A' n' c']) ∧ RDevIs w' a E ∧ DLeft w w' a := by
  obtain ⟨hb, hB⟩ := boxes_new w #[.int .i64 8, .int .i64 oa, .int .i64 ob, .int .u8 fill, .bool short, .slice A n c]
  have HB := Lib.hid hB
  have Hb := Lib.hid hb
  have H := Lib.hid h
  have Hc := Lib.hid (HC _ hB)
  clear h HC hb hB
  go_enter Tryz.func11, Tryz.ntmps11
  go_wp2_with (first | (go_at_call 48; refine Hc.out.mono ?_; rintro e w' ⟨rfl, hE, hF⟩; obtain ⟨y0, y1, y2, y3, f0, f1, f2, f3⟩ := (Hb.out.rleft H.out hF).facts))
  have hb := Hb.out.rleft H.out hF
  have hF2 := (DLeft.ofBelow HB.out).trans hF
  obtain ⟨x1, x2, x3⟩ := hb.rq1 hE hF2 1 (.int .i64 r)
  obtain ⟨z1, z2, z3⟩ := rdo_end x1 x2 x3 (.string ⟨#[]⟩) (.int .i64 r)
  exact bodyPost_ret (v := .tuple #[.agg #[.string ⟨#[]⟩, .int .i64 r], .slice A' n' c']) (results_ct (p := 6) (q := 7) rfl _ _ (w.heap.size + 1) 38 #[.string ⟨#[]⟩, .int .i64 r] _ rfl z1 Tryz.underlying38 rfl (by kernel_rfl)) rfl ⟨rfl, z2, z3⟩
end
end Go.Proofs.YtcifkahmeimniaaGreat
namespace Go.Proofs.YtcifkahmeimniaaGreat
open Go.RowKit Go.Shelf
attribute [local go_sem] Oper.semAt_some

section
variable {w : World} {a : DAt} {D : Dev}
set_option maxRecDepth 100000 in
set_option maxHeartbeats 4000000 in
theorem rdo_9 (h : RDevIs w a D) (oa ob : Int) (fill : Nat) (short : Bool) (A : Option Addr) (n c : Nat) (A' : Option Addr) (n' c' : Nat) (E : Dev)
    (HC : ∀ w2, Below w.heap.size w w2 → Calls Tryz.prog 49 #[.pointer (some ⟨a.d, 0, none⟩), .int .i64 oa] w2 fun e w' => e = .returned (.tuple #[]) ∧ RDevIs w' a E ∧ DLeft w2 w' a) :
    Calls Tryz.prog 11 #[.pointer (some ⟨a.d, 0, none⟩), .agg #[.int .i64 9, .int .i64 oa, .int .i64 ob, .int .u8 fill, .bool short, .slice A n c], .slice A' n' c'] w fun e w' => e = .returned (.tuple #[.agg #[.string ⟨#[]⟩, .int .i64 0], .slice A' n' c']) ∧ RDevIs w' a E ∧ DLeft w w' a := by
  obtain ⟨hb, hB⟩ := boxes_new w #[.int .i64 9, .int .i64 oa, .int .i64 ob, .int .u8 fill, .bool short, .slice A n c]
  have HB := Lib.hid hB
  have Hb := Lib.hid hb
  have H := Lib.hid h
  have Hc := Lib.hid (HC _ hB)
  clear h HC hb hB
  go_enter Tryz.func11, Tryz.ntmps11
  go_wp2_with (first | (go_at_call 49; refine Hc.out.mono ?_; rintro e w' ⟨rfl, hE, hF⟩; obtain ⟨y0, y1, y2, y3, f0, f1, f2, f3⟩ := (Hb.out.rleft H.out hF).facts))
  have hb := Hb.out.rleft H.out hF
  have hF2 := (DLeft.ofBelow HB.out).trans hF
  obtain ⟨z1, z2, z3⟩ := rdo_end hb.r hE hF2 (.string ⟨#[]⟩) (.int .i64 0)
  exact bodyPost_ret (v := .tuple #[.agg #[.string ⟨#[]⟩, .int .i64 0], .slice A' n' c']) (results_ct (p := 6) (q := 7) rfl _ _ (w.heap.size + 1) 38 #[.string ⟨#[]⟩, .int .i64 0] _ rfl z1 Tryz.underlying38 rfl (by kernel_rfl)) rfl ⟨rfl, z2, z3⟩
set_option maxRecDepth 100000 in
set_option maxHeartbeats 4000000 in
theorem rdo_10 (h : RDevIs w a D) (oa ob : Int) (fill : Nat) (short : Bool) (A : Option Addr) (n c : Nat) (A' : Option Addr) (n' c' : Nat) (E : Dev)
    (HC : ∀ w2, Below w.heap.size w w2 → Calls Tryz.prog 50 #[.pointer (some ⟨a.d, 0, none⟩), .slice A n c] w2 fun e w' => e = .returned (.tuple #[]) ∧ RDevIs w' a E ∧ DLeft w2 w' a) :
    Calls Tryz.prog 11 #[.pointer (some ⟨a.d, 0, none⟩), .agg #[.int .i64 10, .int .i64 oa, .int .i64 ob, .int .u8 fill, .bool short, .slice A n c], .slice A' n' c'] w fun e w' => e = .returned (.tuple #[.agg #[.string ⟨#[]⟩, .int .i64 0], .slice A' n' c']) ∧ RDevIs w' a E ∧ DLeft w w' a := by
  obtain ⟨hb, hB⟩ := boxes_new w #[.int .i64 10, .int .i64 oa, .int .i64 ob, .int .u8 fill, .bool short, .slice A n c]
  have HB := Lib.hid hB
  have Hb := Lib.hid hb
  have H := Lib.hid h
  have Hc := Lib.hid (HC _ hB)
  clear h HC hb hB
  go_enter Tryz.func11, Tryz.ntmps11
  go_wp2_with (first | (go_at_call 50; refine Hc.out.mono ?_; rintro e w' ⟨rfl, hE, hF⟩; obtain ⟨y0, y1, y2, y3, f0, f1, f2, f3⟩ := (Hb.out.rleft H.out hF).facts))
  have hb := Hb.out.rleft H.out hF
  have hF2 := (DLeft.ofBelow HB.out).trans hF
  obtain ⟨z1, z2, z3⟩ := rdo_end hb.r hE hF2 (.string ⟨#[]⟩) (.int .i64 0)
  exact bodyPost_ret (v := .tuple #[.agg #[.string ⟨#[]⟩, .int .i64 0], .slice A' n' c']) (results_ct (p := 6) (q := 7) rfl _ _ (w.heap.size + 1) 38 #[.string ⟨#[]⟩, .int .i64 0] _ rfl z1 Tryz.underlying38 rfl (by kernel_rfl)) rfl ⟨rfl, z2, z3⟩
set_option maxRecDepth 100000 in
set_option maxHeartbeats 4000000 in
theorem rdo_11 (h : RDevIs w a D) (oa ob : Int) (fill : Nat) (short : Bool) (A : Option Addr) (n c : Nat) (A' : Option Addr) (n' c' : Nat) (E : Dev)
    (HC : ∀ w2, Below w.heap.size w w2 → Calls Tryz.prog 51 #[.pointer (some ⟨a.d, 0, none⟩)] w2 fun e w' => e = .returned (.tuple #[]) ∧ RDevIs w' a E ∧ DLeft w2 w' a) :
    Calls Tryz.prog 11 #[.pointer (some ⟨a.d, 0, none⟩), .agg #[.int .i64 11, .int .i64 oa, .int .i64 ob, .int .u8 fill, .bool short, .slice A n c], .slice A' n' c'] w fun e w' => e = .returned (.tuple #[.agg #[.string ⟨#[]⟩, .int .i64 0], .slice A' n' c']) ∧ RDevIs w' a E ∧ DLeft w w' a := by
  obtain ⟨hb, hB⟩ := boxes_new w #[.int .i64 11, .int .i64 oa, .int .i64 ob, .int .u8 fill, .bool short, .slice A n c]
  have HB := Lib.hid hB
  have Hb := Lib.hid hb
  have H := Lib.hid h
  have Hc := Lib.hid (HC _ hB)
  clear h HC hb hB
  go_enter Tryz.func11, Tryz.ntmps11
  go_wp2_with (first | (go_at_call 51; refine Hc.out.mono ?_; rintro e w' ⟨rfl, hE, hF⟩; obtain ⟨y0, y1, y2, y3, f0, f1, f2, f3⟩ := (Hb.out.rleft H.out hF).facts))
  have hb := Hb.out.rleft H.out hF
  have hF2 := (DLeft.ofBelow HB.out).trans hF
  obtain ⟨z1, z2, z3⟩ := rdo_end hb.r hE hF2 (.string ⟨#[]⟩) (.int .i64 0)
  exact bodyPost_ret (v := .tuple #[.agg #[.string ⟨#[]⟩, .int .i64 0], .slice A' n' c']) (results_ct (p := 6) (q := 7) rfl _ _ (w.heap.size + 1) 38 #[.string ⟨#[]⟩, .int .i64 0] _ rfl z1 Tryz.underlying38 rfl (by kernel_rfl)) rfl ⟨rfl, z2, z3⟩
set_option maxRecDepth 100000 in
set_option maxHeartbeats 4000000 in
theorem rdo_12 (h : RDevIs w a D) (oa ob : Int) (fill : Nat) (short : Bool) (A : Option Addr) (n c : Nat) (A' : Option Addr) (n' c' : Nat) (r : Int) (E : Dev)
    (HC : ∀ w2, Below w.heap.size w w2 → Calls Tryz.prog 52 #[.pointer (some ⟨a.d, 0, none⟩), .int .i64 oa] w2 fun e w' => e = .returned (.int .i64 r) ∧ RDevIs w' a E ∧ DLeft w2 w' a) :
    Calls Tryz.prog 11 #[.pointer (some ⟨a.d, 0, none⟩), .agg #[.int .i64 12, .int .i64 oa, .int .i64 ob, .int .u8 fill, .bool short, .slice A n c], .slice A' n' c'] w fun e w' => e = .returned (.tuple #[.agg #[.string ⟨#[]⟩, .int .i64 r], .slice A' n' c']) ∧ RDevIs w' a E ∧ DLeft w w' a := by
  obtain ⟨hb, hB⟩ := boxes_new w #[.int .i64 12, .int .i64 oa, .int .i64 ob, .int .u8 fill, .bool short, .slice A n c]
  have HB := Lib.hid hB
  have Hb := Lib.hid hb
  have H := Lib.hid h
  have Hc := Lib.hid (HC _ hB)
  clear h HC hb hB
  go_enter Tryz.func11, Tryz.ntmps11
  go_wp2_with (first | (go_at_call 52; refine Hc.out.mono ?_; rintro e w' ⟨rfl, hE, hF⟩; obtain ⟨y0, y1, y2, y3, f0, f1, f2, f3⟩ := (Hb.out.rleft H.out hF).facts))
  have hb := Hb.out.rleft H.out hF
  have hF2 := (DLeft.ofBelow HB.out).trans hF
  obtain ⟨x1, x2, x3⟩ := hb.rq1 hE hF2 1 (.int .i64 r)
  obtain ⟨z1, z2, z3⟩ := rdo_end x1 x2 x3 (.string ⟨#[]⟩) (.int .i64 r)
  exact bodyPost_ret (v := .tuple #[.agg #[.string ⟨#[]⟩, .int .i64 r], .slice A' n' c']) (results_ct (p := 6) (q := 7) rfl _ _ (w.heap.size + 1) 38 #[.string ⟨#[]⟩, .int .i64 r] _ rfl z1 Tryz.underlying38 rfl (by kernel_rfl)) rfl ⟨rfl, z2, z3⟩
set_option maxRecDepth 100000 in
set_option maxHeartbeats 4000000 in
theorem rdo_13 (h : RDevIs w a D) (oa ob : Int) (fill : Nat) (short : Bool) (A : Option Addr) (n c : Nat) (A' : Option Addr) (n' c' : Nat) (r : Int) (E : Dev)
    (HC : ∀ w2, Below w.heap.size w w2 → Calls Tryz.prog 53 #[.pointer (some ⟨a.d, 0, none⟩), .int .i64 oa] w2 fun e w' => e = .returned (.int .i64 r) ∧ RDevIs w' a E ∧ DLeft w2 w' a) :
    Calls Tryz.prog 11 #[.pointer (some ⟨a.d, 0, none⟩), .agg #[.int .i64 13, .int .i64 oa, .int .i64 ob, .int .u8 fill, .bool short, .slice A n c], .slice A' n' c'] w fun e w' => e = .returned (.tuple #[.agg #[.string ⟨#[]⟩, .int .i64 r], .slice A' n' c']) ∧ RDevIs w' a E ∧ DLeft w w' a := by
  obtain ⟨hb, hB⟩ := boxes_new w #[.int .i64 13, .int .i64 oa, .int .i64 ob, .int .u8 fill, .bool short, .slice A n c]
  have HB := Lib.hid hB
  have Hb := Lib.hid hb
  have H := Lib.hid h
  have Hc := Lib.hid (HC _ hB)
  clear h HC hb hB
  go_enter Tryz.func11, Tryz.ntmps11
  go_wp2_with (first | (go_at_call 53; refine Hc.out.mono ?_; rintro e w' ⟨rfl, hE, hF⟩; obtain ⟨y0, y1, y2, y3, f0, f1, f2, f3⟩ := (Hb.out.rleft H.out hF).facts))
  have hb := Hb.out.rleft H.out hF
  have hF2 := (DLeft.ofBelow HB.out).trans hF
  obtain ⟨x1, x2, x3⟩ := hb.rq1 hE hF2 1 (.int .i64 r)
  obtain ⟨z1, z2, z3⟩ := rdo_end x1 x2 x3 (.string ⟨#[]⟩) (.int .i64 r)
  exact bodyPost_ret (v := .tuple #[.agg #[.string ⟨#[]⟩, .int .i64 r], .slice A' n' c']) (results_ct (p := 6) (q := 7) rfl _ _ (w.heap.size + 1) 38 #[.string ⟨#[]⟩, .int .i64 r] _ rfl z1 Tryz.underlying38 rfl (by kernel_rfl)) rfl ⟨rfl, z2, z3⟩
set_option maxRecDepth 100000 in
set_option maxHeartbeats 4000000 in
theorem rdo_15 (h : RDevIs w a D) (oa ob : Int) (fill : Nat) (short : Bool) (A : Option Addr) (n c : Nat) (A' : Option Addr) (n' c' : Nat) (r : Int) (E : Dev)
    (HC : ∀ w2, Below w.heap.size w w2 → Calls Tryz.prog 55 #[.pointer (some ⟨a.d, 0, none⟩), .slice A' n' c'] w2 fun e w' => e = .returned (.int .i64 r) ∧ RDevIs w' a E ∧ DLeft w2 w' a) :
    Calls Tryz.prog 11 #[.pointer (some ⟨a.d, 0, none⟩), .agg #[.int .i64 15, .int .i64 oa, .int .i64 ob, .int .u8 fill, .bool short, .slice A n c], .slice A' n' c'] w fun e w' => e = .returned (.tuple #[.agg #[.string ⟨#[]⟩, .int .i64 r], .slice A' n' c']) ∧ RDevIs w' a E ∧ DLeft w w' a := by
  obtain ⟨hb, hB⟩ := boxes_new w #[.int .i64 15, .int .i64 oa, .int .i64 ob, .int .u8 fill, .bool short, .slice A n c]
  have HB := Lib.hid hB
  have Hb := Lib.hid hb
  have H := Lib.hid h
  have Hc := Lib.hid (HC _ hB)
  clear h HC hb hB
  go_enter Tryz.func11, Tryz.ntmps11
  go_wp2_with (first | (go_at_call 55; refine Hc.out.mono ?_; rintro e w' ⟨rfl, hE, hF⟩; obtain ⟨y0, y1, y2, y3, f0, f1, f2, f3⟩ := (Hb.out.rleft H.out hF).facts))
  have hb := Hb.out.rleft H.out hF
  have hF2 := (DLeft.ofBelow HB.out).trans hF
  obtain ⟨x1, x2, x3⟩ := hb.rq1 hE hF2 1 (.int .i64 r)
  obtain ⟨z1, z2, z3⟩ := rdo_end x1 x2 x3 (.string ⟨#[]⟩) (.int .i64 r)
  exact bodyPost_ret (v := .tuple #[.agg #[.string ⟨#[]⟩, .int .i64 r], .slice A' n' c']) (results_ct (p := 6) (q := 7) rfl _ _ (w.heap.size + 1) 38 #[.string ⟨#[]⟩, .int .i64 r] _ rfl z1 Tryz.underlying38 rfl (by kernel_rfl)) rfl ⟨rfl, z2, z3⟩
set_option maxRecDepth 100000 in
set_option maxHeartbeats 4000000 in
theorem rdo_other (h : RDevIs w a D) (k : Int) (hk : k < 1 ∨ 15 < k) (oa ob : Int) (fill : Nat) (short : Bool) (A : Option Addr) (n c : Nat) (A' : Option Addr) (n' c' : Nat) :
    Calls Tryz.prog 11 #[.pointer (some ⟨a.d, 0, none⟩), .agg #[.int .i64 k, .int .i64 oa, .int .i64 ob, .int .u8 fill, .bool short, .slice A n c], .slice A' n' c'] w fun e w' => e = .returned (.tuple #[.agg #[.string ⟨#[]⟩, .int .i64 0], .slice A' n' c']) ∧ RDevIs w' a D ∧ DLeft w w' a := by
  obtain ⟨hb, hB⟩ := boxes_new w #[.int .i64 k, .int .i64 oa, .int .i64 ob, .int .u8 fill, .bool short, .slice A n c]
  have HB := Lib.hid hB
  have Hb := Lib.hid hb
  have HE := Lib.hid (h.below hB)
  have b1 : (k == 1) = false := beq_f (by omega)
  have b2 : (k == 2) = false := beq_f (by omega)
  have b3 : (k == 3) = false := beq_f (by omega)
  have b4 : (k == 4) = false := beq_f (by omega)
  have b5 : (k == 5) = false := beq_f (by omega)
  have b6 : (k == 6) = false := beq_f (by omega)
  have b7 : (k == 7) = false := beq_f (by omega)
  have b8 : (k == 8) = false := beq_f (by omega)
  have b9 : (k == 9) = false := beq_f (by omega)
  have b10 : (k == 10) = false := beq_f (by omega)
  have b11 : (k == 11) = false := beq_f (by omega)
  have b12 : (k == 12) = false := beq_f (by omega)
  have b13 : (k == 13) = false := beq_f (by omega)
  have b14 : (k == 14) = false := beq_f (by omega)
  have b15 : (k == 15) = false := beq_f (by omega)
  clear h hb hB hk
  go_enter Tryz.func11, Tryz.ntmps11
  go_wp2_with fail
  have z1 := Hb.out.r
  have z2 := HE.out
  have z3 : DLeft w _ a := DLeft.ofBelow HB.out
  exact bodyPost_ret (v := .tuple #[.agg #[.string ⟨#[]⟩, .int .i64 0], .slice A' n' c']) (results_ct (p := 6) (q := 7) rfl _ _ (w.heap.size + 1) 38 #[.string ⟨#[]⟩, .int .i64 0] _ rfl z1 Tryz.underlying38 rfl (by kernel_rfl)) rfl ⟨rfl, z2, z3⟩
end
end Go.Proofs.YtcifkahmeimniaaGreat
namespace Go.Proofs.YtcifkahmeimniaaGreat
open Go.RowKit Go.Shelf
attribute [local go_sem] Oper.semAt_some

section
variable {w : World} {a : DAt} {D : Dev}
set_option maxRecDepth 100000 in
set_option maxHeartbeats 4000000 in
theorem rdo_2 (h : RDevIs w a D) (oa ob : Int) (fill : Nat) (short : Bool) (A : Option Addr) (n c : Nat) (A' : Option Addr) (n' c' : Nat) (t : ByteArray) (r : Int) (E : Dev)
    (HT : ∀ w2, Calls Tryz.prog 13 #[.agg #[.int .i64 2, .int .i64 oa, .int .i64 ob, .int .u8 fill, .bool short, .slice A n c], .int .i64 64] w2 fun e w' => e = .returned (.string t) ∧ Below w2.heap.size w2 w')
    (HC : ∀ w2, Below w.heap.size w w2 → Calls Tryz.prog 42 #[.pointer (some ⟨a.d, 0, none⟩), .int .i64 oa, .string t] w2 fun e w' => e = .returned (.int .i64 r) ∧ RDevIs w' a E ∧ DLeft w2 w' a) :
    Calls Tryz.prog 11 #[.pointer (some ⟨a.d, 0, none⟩), .agg #[.int .i64 2, .int .i64 oa, .int .i64 ob, .int .u8 fill, .bool short, .slice A n c], .slice A' n' c'] w fun e w' => e = .returned (.tuple #[.agg #[.string ⟨#[]⟩, .int .i64 r], .slice A' n' c']) ∧ RDevIs w' a E ∧ DLeft w w' a := by
  obtain ⟨hb, hB⟩ := boxes_new w #[.int .i64 2, .int .i64 oa, .int .i64 ob, .int .u8 fill, .bool short, .slice A n c]
  have HB := Lib.hid hB
  have Hb := Lib.hid hb
  have H := Lib.hid h
  have Hc := Lib.hid HC
  have Ht := Lib.hid HT
  clear h HC HT hb hB
  go_enter Tryz.func11, Tryz.ntmps11
  go_wp2_with fail
  generalize (((w.alloc (.cells #[.int .i64 2, .int .i64 oa, .int .i64 ob, .int .u8 fill, .bool short, .slice A n c] 43)).alloc (.cells #[.string ⟨#[]⟩, .int .i64 0] 38)).alloc (.cells #[.string ⟨#[]⟩, .int .i64 0] 38)) = W at HB Hb ⊢
  obtain ⟨v0, v1, v2, v3, v4, v5⟩ := Hb.out.op
  have hb : Boxes W.drew w.heap.size #[.int .i64 2, .int .i64 oa, .int .i64 ob, .int .u8 fill, .bool short, .slice A n c] := ⟨Hb.out.o, Hb.out.r, Hb.out.q⟩
  have hB : Below w.heap.size w W.drew := HB.out.drew
  clear Hb HB
  have HB := Lib.hid hB
  have Hb := Lib.hid hb
  clear hb hB
  go_region_held3 (fun w' => w'.cell? ⟨w.heap.size, 0, none⟩ = some (.int .i64 2) ∧ w'.cell? ⟨w.heap.size, 1, none⟩ = some (.int .i64 oa) ∧ w'.cell? ⟨w.heap.size, 2, none⟩ = some (.int .i64 ob) ∧ w'.cell? ⟨w.heap.size, 3, none⟩ = some (.int .u8 fill) ∧ w'.cell? ⟨w.heap.size, 4, none⟩ = some (.bool short) ∧ w'.cell? ⟨w.heap.size, 5, none⟩ = some (.slice A n c)) (go_keep)
    (first
    | (go_at_call 13; refine (Ht.out _).mono ?_; rintro e w1 ⟨rfl, hB1⟩; have hb1 := Hb.out.below hB1; have Hb1 := Lib.hid hb1; have HB1 := Lib.hid (HB.out.trans (hB1.mono HB.out.size)); obtain ⟨i0, i1, i2, i3, i4, i5⟩ := hb1.op; clear hb1)
    | (go_at_call 42; refine (Hc.out _ HB1.out).mono ?_; rintro e w' ⟨rfl, hE, hF⟩; have hb2 := Hb1.out.rleft H.out hF; obtain ⟨y0, y1, y2, y3, f0, f1, f2, f3⟩ := hb2.facts; obtain ⟨j0, j1, j2, j3, j4, j5⟩ := hb2.op; obtain ⟨m0, m1, m2, m3, m4, m5⟩ := hb2.opq (.int .i64 r); have Hb2 := Lib.hid hb2; clear hb2))
  go_wp2_with fail
  have hb := Hb2.out
  have hF2 := (DLeft.ofBelow HB1.out).trans hF
  obtain ⟨x1, x2, x3⟩ := hb.rq1 hE hF2 1 (.int .i64 r)
  obtain ⟨z1, z2, z3⟩ := rdo_end x1 x2 x3 (.string ⟨#[]⟩) (.int .i64 r)
  exact bodyPost_ret (v := .tuple #[.agg #[.string ⟨#[]⟩, .int .i64 r], .slice A' n' c']) (results_ct (p := 6) (q := 7) rfl _ _ (w.heap.size + 1) 38 #[.string ⟨#[]⟩, .int .i64 r] _ rfl z1 Tryz.underlying38 rfl (by kernel_rfl)) rfl ⟨rfl, z2, z3⟩
set_option maxRecDepth 100000 in
set_option maxHeartbeats 4000000 in
theorem rdo_5 (h : RDevIs w a D) (oa ob : Int) (fill : Nat) (short : Bool) (A : Option Addr) (n c : Nat) (A' : Option Addr) (n' c' : Nat) (t : ByteArray) (r : Int) (E : Dev)
    (HT : ∀ w2, Calls Tryz.prog 13 #[.agg #[.int .i64 5, .int .i64 oa, .int .i64 ob, .int .u8 fill, .bool short, .slice A n c], .int .i64 32] w2 fun e w' => e = .returned (.string t) ∧ Below w2.heap.size w2 w')
    (HC : ∀ w2, Below w.heap.size w w2 → Calls Tryz.prog 45 #[.pointer (some ⟨a.d, 0, none⟩), .int .i64 oa, .string t] w2 fun e w' => e = .returned (.int .i64 r) ∧ RDevIs w' a E ∧ DLeft w2 w' a) :
    Calls Tryz.prog 11 #[.pointer (some ⟨a.d, 0, none⟩), .agg #[.int .i64 5, .int .i64 oa, .int .i64 ob, .int .u8 fill, .bool short, .slice A n c], .slice A' n' c'] w fun e w' => e = .returned (.tuple #[.agg #[.string ⟨#[]⟩, .int .i64 r], .slice A' n' c']) ∧ RDevIs w' a E ∧ DLeft w w' a := by
  obtain ⟨hb, hB⟩ := boxes_new w #[.int .i64 5, .int .i64 oa, .int .i64 ob, .int .u8 fill, .bool short, .slice A n c]
  have HB := Lib.hid hB
  have Hb := Lib.hid hb
  have H := Lib.hid h
  have Hc := Lib.hid HC
  have Ht := Lib.hid HT
  clear h HC HT hb hB
  go_enter Tryz.func11, Tryz.ntmps11
  go_wp2_with fail
  generalize (((w.alloc (.cells #[.int .i64 5, .int .i64 oa, .int .i64 ob, .int .u8 fill, .bool short, .slice A n c] 43)).alloc (.cells #[.string ⟨#[]⟩, .int .i64 0] 38)).alloc (.cells #[.string ⟨#[]⟩, .int .i64 0] 38)) = W at HB Hb ⊢
  obtain ⟨v0, v1, v2, v3, v4, v5⟩ := Hb.out.op
  have hb : Boxes W.drew w.heap.size #[.int .i64 5, .int .i64 oa, .int .i64 ob, .int .u8 fill, .bool short, .slice A n c] := ⟨Hb.out.o, Hb.out.r, Hb.out.q⟩
  have hB : Below w.heap.size w W.drew := HB.out.drew
  clear Hb HB
  have HB := Lib.hid hB
  have Hb := Lib.hid hb
  clear hb hB
  go_region_held3 (fun w' => w'.cell? ⟨w.heap.size, 0, none⟩ = some (.int .i64 5) ∧ w'.cell? ⟨w.heap.size, 1, none⟩ = some (.int .i64 oa) ∧ w'.cell? ⟨w.heap.size, 2, none⟩ = some (.int .i64 ob) ∧ w'.cell? ⟨w.heap.size, 3, none⟩ = some (.int .u8 fill) ∧ w'.cell? ⟨w.heap.size, 4, none⟩ = some (.bool short) ∧ w'.cell? ⟨w.heap.size, 5, none⟩ = some (.slice A n c)) (go_keep)
    (first
    | (go_at_call 13; refine (Ht.out _).mono ?_; rintro e w1 ⟨rfl, hB1⟩; have hb1 := Hb.out.below hB1; have Hb1 := Lib.hid hb1; have HB1 := Lib.hid (HB.out.trans (hB1.mono HB.out.size)); obtain ⟨i0, i1, i2, i3, i4, i5⟩ := hb1.op; clear hb1)
    | (go_at_call 45; refine (Hc.out _ HB1.out).mono ?_; rintro e w' ⟨rfl, hE, hF⟩; have hb2 := Hb1.out.rleft H.out hF; obtain ⟨y0, y1, y2, y3, f0, f1, f2, f3⟩ := hb2.facts; obtain ⟨j0, j1, j2, j3, j4, j5⟩ := hb2.op; obtain ⟨m0, m1, m2, m3, m4, m5⟩ := hb2.opq (.int .i64 r); have Hb2 := Lib.hid hb2; clear hb2))
  go_wp2_with fail
  have hb := Hb2.out
  have hF2 := (DLeft.ofBelow HB1.out).trans hF
  obtain ⟨x1, x2, x3⟩ := hb.rq1 hE hF2 1 (.int .i64 r)
  obtain ⟨z1, z2, z3⟩ := rdo_end x1 x2 x3 (.string ⟨#[]⟩) (.int .i64 r)
  exact bodyPost_ret (v := .tuple #[.agg #[.string ⟨#[]⟩, .int .i64 r], .slice A' n' c']) (results_ct (p := 6) (q := 7) rfl _ _ (w.heap.size + 1) 38 #[.string ⟨#[]⟩, .int .i64 r] _ rfl z1 Tryz.underlying38 rfl (by kernel_rfl)) rfl ⟨rfl, z2, z3⟩
set_option maxRecDepth 100000 in
set_option maxHeartbeats 4000000 in
theorem rdo_14 (h : RDevIs w a D) (oa ob : Int) (fill : Nat) (short : Bool) (A : Option Addr) (n c : Nat) (A' : Option Addr) (n' c' : Nat) (I : List ByteArray)
    (HC : ∀ w2, Below w.heap.size w w2 → Calls Tryz.prog 54 #[.pointer (some ⟨a.d, 0, none⟩)] w2 fun e w' => ∃ v, e = .returned v ∧ NewTexts w2 w' v I) :
    Calls Tryz.prog 11 #[.pointer (some ⟨a.d, 0, none⟩), .agg #[.int .i64 14, .int .i64 oa, .int .i64 ob, .int .u8 fill, .bool short, .slice A n c], .slice A' n' c'] w fun e w' => ∃ v, e = .returned (.tuple #[.agg #[.string ⟨#[]⟩, .int .i64 0], v]) ∧ RDevIs w' a D ∧ DLeft w w' a ∧ Img w' v I a ∧ ∀ k, v.ownBlock = some k → w.heap.size ≤ k := by
  obtain ⟨hb, hB⟩ := boxes_new w #[.int .i64 14, .int .i64 oa, .int .i64 ob, .int .u8 fill, .bool short, .slice A n c]
  have HB := Lib.hid hB
  have Hb := Lib.hid hb
  have H := Lib.hid h
  have Hc := Lib.hid HC
  clear h HC hb hB
  go_enter Tryz.func11, Tryz.ntmps11
  go_wp2_with fail
  generalize (((w.alloc (.cells #[.int .i64 14, .int .i64 oa, .int .i64 ob, .int .u8 fill, .bool short, .slice A n c] 43)).alloc (.cells #[.string ⟨#[]⟩, .int .i64 0] 38)).alloc (.cells #[.string ⟨#[]⟩, .int .i64 0] 38)) = W at HB Hb ⊢
  obtain ⟨_, _, v2, v3, _, _, _, _⟩ := Hb.out.facts
  have hb : Boxes W.drew w.heap.size #[.int .i64 14, .int .i64 oa, .int .i64 ob, .int .u8 fill, .bool short, .slice A n c] := ⟨Hb.out.o, Hb.out.r, Hb.out.q⟩
  have hB : Below w.heap.size w W.drew := HB.out.drew
  clear Hb HB
  have HB := Lib.hid hB
  have Hb := Lib.hid hb
  clear hb hB
  go_region_held3 (fun w' => w'.cell? ⟨w.heap.size + 1 + 1, 0, none⟩ = some (.string ⟨#[]⟩) ∧ w'.cell? ⟨w.heap.size + 1 + 1, 1, none⟩ = some (.int .i64 0)) (go_keep)
    (first
    | (go_at_call 54; refine (Hc.out _ HB.out).mono ?_; rintro e w1 ⟨v, rfl, hT⟩; have hE := H.out.below (HB.out.trans (hT.2.2.mono HB.out.size)); have HI := Lib.hid (Img.rfresh hT (H.out.below HB.out)); have HW : Hid (∀ k, v.ownBlock = some k → w.heap.size ≤ k) := fun k hk => Nat.le_trans HB.out.size (hT.1.lt k hk).1; have hF := DLeft.ofBelow (a := a) (HB.out.trans (hT.2.2.mono HB.out.size)); have hb2 := Hb.out.below hT.2.2; have Hb2 := Lib.hid hb2; obtain ⟨A2, n2, c2, rfl⟩ := HI.out.slice; obtain ⟨y0, y1, y2, y3, f0, f1, f2, f3⟩ := hb2.facts; obtain ⟨m0, m1⟩ := hb2.rq (.string ⟨#[]⟩) (.int .i64 0); clear hb2 hT))
  go_wp2_with fail
  obtain ⟨z1, z2, z3⟩ := rdo_end Hb2.out.r hE hF (.string ⟨#[]⟩) (.int .i64 0)
  have hI := HI.out.set Hb2.out.r 0 (.string ⟨#[]⟩)
  have hI2 := hI.set (Hb2.out.r.set_ 0 (.string ⟨#[]⟩)) 1 (.int .i64 0)
  exact bodyPost_ret (v := .tuple #[.agg #[.string ⟨#[]⟩, .int .i64 0], .slice A2 n2 c2]) (results_ct (p := 6) (q := 7) rfl _ _ (w.heap.size + 1) 38 #[.string ⟨#[]⟩, .int .i64 0] _ rfl z1 Tryz.underlying38 rfl (by kernel_rfl)) rfl ⟨_, rfl, z2, z3, hI2, HW.out⟩
end
end Go.Proofs.YtcifkahmeimniaaGreat
namespace Go.Proofs.YtcifkahmeimniaaGreat
open Go.RowKit Go.Shelf

/-- What an operation leaves. -/
def RDoPost (a : DAt) (v : Value) (w : World) (R : DRes × Dev × List ByteArray) (e : Ending) (w' : World) : Prop :=
  ∃ v', e = .returned (.tuple #[.agg #[.string R.1.text, .int .i64 R.1.e], v']) ∧ RDevIs w' a R.2.1 ∧ DLeft w w' a ∧ Img w' v' R.2.2 a ∧ ∀ k, v'.ownBlock = some k → v.ownBlock = some k ∨ w.heap.size ≤ k
section
variable {W w : World} {a : DAt} {D : Dev} {n s f : Nat} {v : Value} {I : List ByteArray}
theorem rdo_any (h : MRDev W w a D) (hD : D.Ok n s f) (hn : n ≤ 4096) (hs : s ≤ 16) (hI : Img w v I a) (hIl : I.length ≤ 4096) (o : DOp) (x : Value) (hx : DOpOk W o x) :
    Calls Tryz.prog 11 #[.pointer (some ⟨a.d, 0, none⟩), x, v] w (RDoPost a v w (dplay o D I)) := by
  obtain ⟨kind, oa, ob, fill, short, picks⟩ := o
  obtain ⟨A, pn, pc, rfl, ⟨hfill, ha⟩, hP⟩ := hx
  obtain ⟨A', n', c', rfl⟩ := hI.slice
  have hN : D.M.length ≤ 1048576 := by rw [hD.M]; omega
  have hr := hD.left
  dsimp only at hfill ha hP ⊢
  unfold dplay
  dsimp only
  by_cases k1 : kind = 1
  · subst k1
    rw [if_pos rfl]
    refine (rdo_1 h.dev oa ob fill short A pn pc A' n' c' (if D.down then ⟨#[]⟩ else if isAt D.M oa then (D.M.getD oa.toNat default).seen else ⟨#[]⟩) (if D.down then 14 else if isAt D.M oa then 0 else 1) D (fun w2 hB => (rdRead_any (h.dev.below hB) oa).mono ?_)).mono ?_
    · rintro e w' ⟨rfl, rfl⟩
      exact ⟨rfl, h.dev.below hB, DLeft.refl _⟩
    · rintro e w' ⟨rfl, h1, h2⟩
      refine ⟨_, ?_, h1, h2, h2.rimg h.dev hI, fun k e => .inl e⟩
      cases D.down
      · by_cases hi : isAt D.M oa
        · simp [hi]
        · simp [hi]
      · simp
  rw [if_neg k1]
  by_cases k2 : kind = 2
  · subst k2
    rw [if_pos rfl]
    refine (rdo_2 h.dev oa ob fill short A pn pc A' n' c' _ _ _ (fun w2 => dText_any w2 2 oa ob fill 64 short hfill (.inl rfl) A pn pc) (fun w2 hB => rdWrite_any (h.dev.below hB) hr oa _)).mono ?_
    rintro e w' ⟨rfl, h1, h2⟩
    exact ⟨_, rfl, h1, h2, h2.rimg h.dev hI, fun k e => .inl e⟩
  rw [if_neg k2]
  by_cases k3 : kind = 3
  · subst k3
    rw [if_pos rfl]
    refine (rdo_3 h.dev oa ob fill short A pn pc A' n' c' _ _ (fun w2 hB => rdFlush_any (h.dev.below hB) hr hD.fine hN)).mono ?_
    rintro e w' ⟨rfl, h1, h2⟩
    exact ⟨_, rfl, h1, h2, h2.rimg h.dev hI, fun k e => .inl e⟩
  rw [if_neg k3]
  by_cases k4 : kind = 4
  · subst k4
    rw [if_pos rfl]
    refine (rdo_4 h.dev oa ob fill short A pn pc A' n' c' (if D.down then ⟨#[]⟩ else if inS D.slots oa then D.slots.getD oa.toNat ⟨#[]⟩ else ⟨#[]⟩) (if D.down then 14 else if inS D.slots oa then 0 else 1) D (fun w2 hB => (rdLoad_any (h.dev.below hB) oa).mono ?_)).mono ?_
    · rintro e w' ⟨rfl, rfl⟩
      exact ⟨rfl, h.dev.below hB, DLeft.refl _⟩
    · rintro e w' ⟨rfl, h1, h2⟩
      refine ⟨_, ?_, h1, h2, h2.rimg h.dev hI, fun k e => .inl e⟩
      cases D.down
      · by_cases hi : inS D.slots oa
        · simp [hi]
        · simp [hi]
      · simp
  rw [if_neg k4]
  by_cases k5 : kind = 5
  · subst k5
    rw [if_pos rfl]
    refine (rdo_5 h.dev oa ob fill short A pn pc A' n' c' _ _ _ (fun w2 => dText_any w2 5 oa ob fill 32 short hfill (.inr rfl) A pn pc) (fun w2 hB => rdStore_any (h.dev.below hB) hr oa _)).mono ?_
    rintro e w' ⟨rfl, h1, h2⟩
    exact ⟨_, rfl, h1, h2, h2.rimg h.dev hI, fun k e => .inl e⟩
  rw [if_neg k5]
  by_cases k6 : kind = 6
  · subst k6
    rw [if_pos rfl]
    refine (rdo_6 h.dev oa ob fill short A pn pc A' n' c' _ _ (fun w2 hB => rdBurn_any (h.dev.below hB) hr oa)).mono ?_
    rintro e w' ⟨rfl, h1, h2⟩
    exact ⟨_, rfl, h1, h2, h2.rimg h.dev hI, fun k e => .inl e⟩
  rw [if_neg k6]
  by_cases k7 : kind = 7
  · subst k7
    rw [if_pos rfl]
    refine (rdo_7 h.dev oa ob fill short A pn pc A' n' c' _ _ (fun w2 hB => rdRaise_any (h.dev.below hB) hr oa)).mono ?_
    rintro e w' ⟨rfl, h1, h2⟩
    exact ⟨_, rfl, h1, h2, h2.rimg h.dev hI, fun k e => .inl e⟩
  rw [if_neg k7]
  by_cases k8 : kind = 8
  · subst k8
    rw [if_pos rfl]
    refine (rdo_8 h.dev oa ob fill short A pn pc A' n' c' _ _ (fun w2 hB => rdTick_any (h.dev.below hB) hD.clock oa)).mono ?_
    rintro e w' ⟨rfl, h1, h2⟩
    by_cases hc : oa < 0 ∨ 1099511627776 - D.clock < oa
    · simp only [if_pos hc] at h1 ⊢
      exact ⟨_, rfl, h1, h2, h2.rimg h.dev hI, fun k e => .inl e⟩
    · simp only [if_neg hc] at h1 ⊢
      exact ⟨_, rfl, h1, h2, h2.rimg h.dev hI, fun k e => .inl e⟩
  rw [if_neg k8]
  by_cases k9 : kind = 9
  · subst k9
    rw [if_pos rfl]
    refine (rdo_9 h.dev oa ob fill short A pn pc A' n' c' _ (fun w2 hB => rdTrip_any (h.dev.below hB) oa)).mono ?_
    rintro e w' ⟨rfl, h1, h2⟩
    exact ⟨_, rfl, h1, h2, h2.rimg h.dev hI, fun k e => .inl e⟩
  rw [if_neg k9]
  by_cases k10 : kind = 10
  · subst k10
    rw [if_pos rfl]
    refine (rdo_10 h.dev oa ob fill short A pn pc A' n' c' { D with M := doneM (pick picks) D.M (idxs Sec.dirty D.M), down := false, left := -1 } (fun w2 hB => ?_)).mono ?_
    · have h3 := h.on hB
      obtain ⟨L3, h4⟩ := h3.dev
      obtain ⟨pb, po, hr2, hpg, hpl, hc⟩ := picks_rest hP h3.bel h4.mem.ne h4.mem.lt.1 h.hg
      exact rdMount_any h3.dev hD.fine hN _ picks pb po hr2 hpg hpl hc
    · rintro e w' ⟨rfl, h1, h2⟩
      exact ⟨_, rfl, h1, h2, h2.rimg h.dev hI, fun k e => .inl e⟩
  rw [if_neg k10]
  by_cases k11 : kind = 11
  · subst k11
    rw [if_pos rfl]
    refine (rdo_11 h.dev oa ob fill short A pn pc A' n' c' _ (fun w2 hB => rdBattery_any (h.dev.below hB) (by rw [hD.slots]; omega))).mono ?_
    rintro e w' ⟨rfl, h1, h2⟩
    exact ⟨_, rfl, h1, h2, h2.rimg h.dev hI, fun k e => .inl e⟩
  rw [if_neg k11]
  by_cases k12 : kind = 12
  · subst k12
    rw [if_pos rfl]
    refine (rdo_12 h.dev oa ob fill short A pn pc A' n' c' _ _ (fun w2 hB => rdStale_any (h.dev.below hB) oa)).mono ?_
    rintro e w' ⟨rfl, h1, h2⟩
    exact ⟨_, rfl, h1, h2, h2.rimg h.dev hI, fun k e => .inl e⟩
  rw [if_neg k12]
  by_cases k13 : kind = 13
  · subst k13
    rw [if_pos rfl]
    refine (rdo_13 h.dev oa ob fill short A pn pc A' n' c' _ _ (fun w2 hB => rdWear_any (h.dev.below hB) oa)).mono ?_
    rintro e w' ⟨rfl, h1, h2⟩
    exact ⟨_, rfl, h1, h2, h2.rimg h.dev hI, fun k e => .inl e⟩
  rw [if_neg k13]
  by_cases k14 : kind = 14
  · subst k14
    rw [if_pos rfl]
    refine (rdo_14 h.dev oa ob fill short A pn pc A' n' c' _ (fun w2 hB => rdImage_any (h.dev.below hB) hN)).mono ?_
    rintro e w' ⟨u, rfl, h1, h2, h3, h4⟩
    exact ⟨u, rfl, h1, h2, h3, fun k e => .inr (h4 k e)⟩
  rw [if_neg k14]
  by_cases k15 : kind = 15
  · subst k15
    rw [if_pos rfl]
    refine (rdo_15 h.dev oa ob fill short A pn pc A' n' c' _ _ (fun w2 hB => rdRestore_any (h.dev.below hB) _ I (hI.below hB).texts (by omega))).mono ?_
    rintro e w' ⟨rfl, h1, h2⟩
    exact ⟨_, rfl, h1, h2, h2.rimg h.dev hI, fun k e => .inl e⟩
  rw [if_neg k15]
  refine (rdo_other h.dev kind (by omega) oa ob fill short A pn pc A' n' c').mono ?_
  rintro e w' ⟨rfl, h1, h2⟩
  exact ⟨_, rfl, h1, h2, h2.rimg h.dev hI, fun k e => .inl e⟩
end
end Go.Proofs.YtcifkahmeimniaaGreat
namespace Go.Proofs.YtcifkahmeimniaaGreat
open Go.RowKit Go.Shelf
attribute [local go_sem] Oper.semAt_some

theorem toList_data (s : ByteArray) : s.toList = s.data.toList := ByteArray.toList_eq s
/-- Texts at block b from offset o on. -/
def StrAt (w : World) (A : Option Addr) (c b o : Nat) (I : List ByteArray) : Prop := I.length ≤ c ∧ c ≤ maxLen ∧ ∀ i t, I[i]? = some t → A = some ⟨b, o, none⟩ ∧ b < w.heap.size ∧ w.cell? ⟨b, o + i, none⟩ = some (.string t)
theorem StrAt.below {w w' : World} {A : Option Addr} {c b o : Nat} {I : List ByteArray} (h : StrAt w A c b o I) (hB : Below w.heap.size w w') : StrAt w' A c b o I :=
  ⟨h.1, h.2.1, fun i t ht => by
    obtain ⟨h1, h2, h3⟩ := h.2.2 i t ht
    exact ⟨h1, Nat.lt_of_lt_of_le h2 hB.size, (hB.cell (p := ⟨b, o + i, none⟩) h2).trans h3⟩⟩
/-- Texts that a row owns. -/
theorem Texts.strAt {w : World} {v : Value} {I : List ByteArray} (h : Texts w v I) : ∃ A c b, v = .slice A I.length c ∧ StrAt w A c b 0 I := by
  rcases h.2 with ⟨rfl, h0⟩ | ⟨gb, cap, cur, rfl, _, hb, h1, h2, _, _⟩
  · refine ⟨none, 0, 0, by rw [h0], by omega, by unfold maxLen; omega, fun i t ht => ?_⟩
    rw [List.eq_nil_of_length_eq_zero h0] at ht
    simp at ht
  · refine ⟨_, cap, gb, rfl, h1, h2, fun i t ht => ⟨rfl, Blk.lt hb, ?_⟩⟩
    have hl := (List.getElem?_eq_some_iff.1 ht).1
    have := World.ownsRow.cellAt h i (by omega)
    rw [Nat.zero_add, this]
    simp [strCells, ht]
set_option maxRecDepth 100000 in
set_option maxHeartbeats 1600000 in
theorem sameTexts_any (w : World) (A : Option Addr) (c b o : Nat) (I : List ByteArray) (h : StrAt w A c b o I) (A' : Option Addr) (c' b' o' : Nat) (J : List ByteArray) (h' : StrAt w A' c' b' o' J) (hN : I.length ≤ 1048576) (hN' : J.length ≤ 1048576) :
    Calls Tryz.prog 61 #[.slice A I.length c, .slice A' J.length c'] w fun e w' => e = .returned (.bool (decide (I = J))) ∧ Below w.heap.size w w' := by
  by_cases hl : I.length = J.length
  · have d0 : ((I.length : Int) != (J.length : Int)) = false := bne_f (by omega)
    have d00 : (I.length != J.length) = false := by simp [hl]
    have H := Lib.hid h
    have H' := Lib.hid h'
    have Hl := Lib.hid hl
    clear h h' hl
    go_enter Tryz.func61, Tryz.ntmps61
    go_wp2_with fail
    go_loopw [5] (fun i wr => ∃ k : Nat, k ≤ I.length ∧ i = .int .i64 k ∧ Hid (I.take k = J.take k) ∧ Hid (Below w.heap.size w wr)) (fun i _ => I.length - (intOf i).toNat)
    case atStart => exact ⟨0, Nat.zero_le _, rfl, rfl, Below.refl _ _⟩
    case round =>
      obtain ⟨k, hk, rfl, ht, hB⟩ := hrel
      by_cases hkl : k < I.length
      · have hd1 : decide (k < I.length) = true := decide_eq_true hkl
        obtain ⟨x, hx⟩ : ∃ x, I[k]? = some x := ⟨_, List.getElem?_eq_getElem hkl⟩
        obtain ⟨y, hy⟩ : ∃ y, J[k]? = some y := ⟨_, List.getElem?_eq_getElem (by have := Hl.out; omega)⟩
        have hI := (H.out.below hB.out)
        have hJ := (H'.out.below hB.out)
        obtain ⟨rfl, _, hc⟩ := hI.2.2 k x hx
        obtain ⟨rfl, _, hc'⟩ := hJ.2.2 k y hy
        have hkJ : k < J.length := by have := Hl.out; omega
        have hk0 : (0 : Int) ≤ (k : Int) := by omega
        have hkI1 : (k : Int) < I.length := by omega
        have hkJ1 : (k : Int) < J.length := by omega
        have Hkl := Lib.hid hkl
        have Hxy : Hid (x = y → I.take (k + 1) = J.take (k + 1)) := fun e => by rw [List.take_add_one, List.take_add_one, hx, hy, e, ht.out]
        have Hne : Hid (x ≠ y → I ≠ J) := fun e e2 => e (by rw [e2, hy] at hx; exact (Option.some.inj hx).symm)
        clear hx hy hI hJ hkl
        by_cases hxy : x = y
        · have dx : (x.toList == y.toList) = true := by rw [hxy]; exact beq_self_eq_true _
          have Hn := Lib.hid (Hxy.out hxy)
          clear hxy
          go_wp2_with fail
          go_quiet (fail)
          have hB2 : Hid (Below w.heap.size w (wr.drewN nq)) := below_drewN hB.out nq
          clear hc hc' hB
          generalize wr.drewN nq = w2 at hB2 ⊢
          go_wp2_with fail
          go_roundw
          case rel => exact ⟨k + 1, Hkl.out, by go_num, Hn, hB2⟩
          case measure => have := Hkl.out; simp [intOf]; omega
        · have dx : (x.toList == y.toList) = false := by
            rw [beq_eq_false_iff_ne, toList_data, toList_data]
            exact fun e => hxy (by apply ByteArray.ext; exact Array.ext' e)
          have Hn := Lib.hid (Hne.out hxy)
          clear hxy
          go_wp2_with fail
          go_quiet (fail)
          have hB2 : Hid (Below w.heap.size w (wr.drewN nq)) := below_drewN hB.out nq
          clear hc hc' hB
          generalize wr.drewN nq = w2 at hB2 ⊢
          go_wp2_with fail
          go_ret
          exact ⟨by rw [decide_eq_false Hn.out]; rfl, hB2.out⟩
      · have hd1 : decide (k < I.length) = false := decide_eq_false hkl
        have Hn : Hid (I = J) := by
          have h1 := ht.out
          rw [List.take_of_length_le (by omega), List.take_of_length_le (by have := Hl.out; omega)] at h1
          exact h1
        clear hkl hk
        go_wp2_with fail
        go_ret
        exact ⟨by rw [decide_eq_true Hn.out]; rfl, hB.out⟩
  · have d0 : ((I.length : Int) != (J.length : Int)) = true := bne_t (by omega)
    have d00 : (I.length != J.length) = true := by simp [hl]
    have Hn : Hid (I ≠ J) := fun e => hl (by rw [e])
    clear h h' hl
    go_enter Tryz.func61, Tryz.ntmps61
    go_wp2_with fail
    go_ret
    exact ⟨by rw [decide_eq_false Hn.out]; rfl, Below.refl _ _⟩
end Go.Proofs.YtcifkahmeimniaaGreat
