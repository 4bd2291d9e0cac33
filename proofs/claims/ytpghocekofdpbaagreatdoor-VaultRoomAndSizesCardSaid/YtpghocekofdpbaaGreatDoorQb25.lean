import Derived.Test.YtpghocekofdpbaaGreatDoorQb00
import Derived.Test.YtpghocekofdpbaaGreatDoorQb24
import Derived.Deep.CutRange
import Derived.Deep.CutBlock
import Derived.Deep.RegionHeld3
import Derived.Test.YtpghocekofdpbaaGreatDoorQb02
namespace Go.Proofs.YtpghocekofdpbaaGreatDoor
open Go.RowKit Go.Shelf
theorem xor_ones (x : UInt32) : wxor 4294967295 x = wnot x := by
 unfold wxor wnot
 apply UInt32.toBitVec_inj.1
 rw [UInt32.toBitVec_xor, UInt32.toBitVec_not]
 show 4294967295#32 ^^^ x.toBitVec = _
 rw [show 4294967295#32 = BitVec.allOnes 32 by decide]
 exact BitVec.allOnes_xor
theorem w_not (x : UInt32) : bits .xor .u32 IntKind.u32.max (x.toNat : Int) = ((wnot x).toNat : Int) := by
 have h := w_xor 4294967295 x
 rw [xor_ones] at h
 exact h
attribute [local go_sem] Oper.semAt_some w_xor w_and w_add w_add' w_not
theorem arr4 (g o c : Nat) (wx : World) (_hc : 4 <= c) : (Instr.arrayAt 207 (.slice (some ⟨g, o, none⟩) 4 c)).run Tryz.prog wx = .ok (.pointer (some ⟨g, o, none⟩)) wx := by
 unfold Instr.arrayAt
 simp [run_underlying Tryz.underlying207, go_sem]
theorem two_alloc (W : World) (t : TypeId) (A B : Array Value) : Blk ((W.alloc (.cells A t)).alloc (.cells B t)).drew W.heap.size t A /\ Blk ((W.alloc (.cells A t)).alloc (.cells B t)).drew (W.heap.size + 1) t B /\ Below W.heap.size W ((W.alloc (.cells A t)).alloc (.cells B t)).drew := by
 have h1 := Blk.new (W.alloc (.cells A t)) t B
 rw [World.size_alloc] at h1
 have b1 := (Below.refl _ W).alloc (Nat.le_refl _) (.cells A t)
 exact ⟨((Blk.new W t A).alloc _).drew, h1.drew, (b1.alloc b1.size _).drew⟩
theorem mix1 (w : World) (x : UInt32) : Calls Tryz.prog 150 #[u32v x, .int .i64 6, .int .i64 11, .int .i64 25] w fun e w' => e = .returned (u32v (wxor (wxor (rotl x 26) (rotl x 21)) (rotl x 7))) /\ w = w' := mix_any w x 6 11 25 (by decide) (by decide) (by decide)
theorem mix2 (w : World) (x : UInt32) : Calls Tryz.prog 150 #[u32v x, .int .i64 2, .int .i64 13, .int .i64 22] w fun e w' => e = .returned (u32v (wxor (wxor (rotl x 30) (rotl x 19)) (rotl x 10))) /\ w = w' := mix_any w x 2 13 22 (by decide) (by decide) (by decide)
theorem infoU32 : (Tryz.prog.info? 112).map (fun i => (i.zero, i.size, i.bytes)) = some (some (.int .u32 0), 1, 4) := by kernel_rfl
theorem idx_run (w : World) (t : Nat) (h : t < 64) : (Instr.index 166 (.agg kV.toArray) (.int .i64 t)).run Tryz.prog w = .ok (u32v (kAt t)) w := by
 obtain ⟨i0, hi, hz0, hz1, hz2⟩ := info_parts infoU32
 have e := kV_at t h
 have hs : (0 : Int) <= (t : Int) /\ (t : Int) < ((64 : Nat) : Int) := ⟨by omega, by omega⟩
 unfold Instr.index
 simp [run_underlying Tryz.underlying166, go_sem, sizeOf, typeInfo, hi, hz1, h, part, e]
theorem infoA8 : (Tryz.prog.info? 113).map (·.size) = some 8 := by kernel_rfl
structure CompAt (w wr : World) (sb rb wb vb eb : Nat) (s : S8) (b : List UInt8) (st : S8) : Prop where
 fs : Blk wr sb 113 (s8V s)
 fr : ∃ cs, Blk wr rb 113 cs /\ cs.size = 8
 fw : Blk wr wb 166 (schedV b).toArray
 fv : Blk wr vb 207 #[u32v st.a, u32v st.b, u32v st.c, u32v st.d]
 fe : Blk wr eb 207 #[u32v st.e, u32v st.f, u32v st.g, u32v st.h]
 bel : Below w.heap.size w wr
theorem CompAt.drew {w wr : World} {sb rb wb vb eb : Nat} {s : S8} {b : List UInt8} {st : S8} (h : CompAt w wr sb rb wb vb eb s b st) : CompAt w wr.drew sb rb wb vb eb s b st :=
 ⟨h.fs.drew, by obtain ⟨cs, h1, h2⟩ := h.fr; exact ⟨cs, h1.drew, h2⟩, h.fw.drew, h.fv.drew, h.fe.drew, h.bel.drew⟩
section
variable {g : Nat} {t : TypeId} {x0 x1 x2 x3 : Value} (w : World) (y0 y1 y2 y3 : Value)
def set4 (w : World) (g : Nat) (y0 y1 y2 y3 : Value) : World := (((w.setCell ⟨g, 0, none⟩ y0).setCell ⟨g, 1, none⟩ y1).setCell ⟨g, 2, none⟩ y2).setCell ⟨g, 3, none⟩ y3
theorem set4_blk {w : World} (h : Blk w g t #[x0, x1, x2, x3]) : Blk (set4 w g y0 y1 y2 y3) g t #[y0, y1, y2, y3] := (((h.set_ 0 y0).set_ 1 y1).set_ 2 y2).set_ 3 y3
theorem grown_tr {a b c : World} {row : Option Nat} (h : a.grownBy b row) (k : b.grownBy c row) : a.grownBy c row :=
 ⟨k.os.trans h.os, k.tape.trans h.tape, k.output.trans h.output, Nat.le_trans h.size k.size, fun j hj hne => (k.block j (Nat.lt_of_lt_of_le hj h.size) hne).trans (h.block j hj hne)⟩
theorem set4_grown (g : Nat) : w.grownBy (set4 w g y0 y1 y2 y3) (some g) :=
 grown_tr (grown_tr (grown_tr (grown_set' w g 0 y0) (grown_set' _ g 1 y1)) (grown_set' _ g 2 y2)) (grown_set' _ g 3 y3)
theorem set4_below {B : Nat} {w0 w : World} (hg : B <= g) (h : Below B w0 w) : Below B w0 (set4 w g y0 y1 y2 y3) :=
 (((h.setCell (p := ⟨g, 0, none⟩) hg y0).setCell (p := ⟨g, 1, none⟩) hg y1).setCell (p := ⟨g, 2, none⟩) hg y2).setCell (p := ⟨g, 3, none⟩) hg y3
end
theorem CompAt.next {w wz : World} {sb rb wb vb eb : Nat} {s : S8} {b : List UInt8} {st : S8} (h : CompAt w wz sb rb wb vb eb s b st) (hne : vb ≠ eb) (hv : w.heap.size <= vb) (he : w.heap.size <= eb) (p0 p1 p2 p3 q0 q1 q2 q3 : UInt32) :
  CompAt w (set4 (set4 wz eb (u32v p0) (u32v p1) (u32v p2) (u32v p3)) vb (u32v q0) (u32v q1) (u32v q2) (u32v q3)) sb rb wb vb eb s b ⟨q0, q1, q2, q3, p0, p1, p2, p3⟩ := by
 have gA := set4_grown wz (u32v p0) (u32v p1) (u32v p2) (u32v p3) eb
 have gB := set4_grown (set4 wz eb (u32v p0) (u32v p1) (u32v p2) (u32v p3)) (u32v q0) (u32v q1) (u32v q2) (u32v q3) vb
 have k : ∀ {j : Nat} {t : TypeId} {cs : Array Value}, Blk wz j t cs -> j ≠ eb -> j ≠ vb -> Blk (set4 (set4 wz eb (u32v p0) (u32v p1) (u32v p2) (u32v p3)) vb (u32v q0) (u32v q1) (u32v q2) (u32v q3)) j t cs := fun hk h1 h2 => (hk.grown gA (fun e => h1 (by cases e; rfl))).grown gB (fun e => h2 (by cases e; rfl))
 refine ⟨k h.fs (h.fs.ne_ h.fe (by decide)) (h.fs.ne_ h.fv (by decide)), ?_, k h.fw (h.fw.ne_ h.fe (by decide)) (h.fw.ne_ h.fv (by decide)), ?_, ?_, ?_⟩
 ·obtain ⟨cs, h1, h2⟩ := h.fr
  exact ⟨cs, k h1 (h1.ne_ h.fe (by decide)) (h1.ne_ h.fv (by decide)), h2⟩
 ·exact set4_blk _ _ _ _ (h.fv.grown gA (fun e => hne (by cases e; rfl)))
 ·exact (set4_blk _ _ _ _ h.fe).grown gB (fun e => hne (by cases e; rfl))
 ·exact set4_below _ _ _ _ hv (set4_below _ _ _ _ he h.bel)
def S8.get (s : S8) : Nat -> UInt32
 | 0 => s.a
 | 1 => s.b
 | 2 => s.c
 | 3 => s.d
 | 4 => s.e
 | 5 => s.f
 | 6 => s.g
 | _ => s.h
theorem s8V_at (s : S8) (j : Nat) (h : j < 8) : (s8V s)[j]? = some (u32v (s.get j)) := by
 match j, h with
 | 0, _ => rfl
 | 1, _ => rfl
 | 2, _ => rfl
 | 3, _ => rfl
 | 4, _ => rfl
 | 5, _ => rfl
 | 6, _ => rfl
 | 7, _ => rfl
theorem sadd_get (s v : S8) (j : Nat) (h : j < 8) : (sadd s v).get j = wadd (s.get j) (v.get j) := by
 match j, h with
 | 0, _ => rfl
 | 1, _ => rfl
 | 2, _ => rfl
 | 3, _ => rfl
 | 4, _ => rfl
 | 5, _ => rfl
 | 6, _ => rfl
 | 7, _ => rfl
def SumAt (w : World) (sb : Nat) (s v : S8) (k : Nat) : Prop := ∃ cs : Array Value, Blk w sb 113 cs /\ cs.size = 8 /\ ∀ j, j < 8 -> cs[j]? = some (u32v (if j % 4 < k then wadd (s.get j) (v.get j) else s.get j))
theorem sumAt_start {w : World} {sb : Nat} {s : S8} (v : S8) (h : Blk w sb 113 (s8V s)) : SumAt w sb s v 0 := ⟨_, h, rfl, fun j hj => by rw [if_neg (Nat.not_lt_zero _)]; exact s8V_at s j hj⟩
theorem sumAt_cell {w : World} {sb : Nat} {s v : S8} {k : Nat} (h : SumAt w sb s v k) (j : Nat) (hj : j < 8) : w.cell? ⟨sb, j, none⟩ = some (u32v (if j % 4 < k then wadd (s.get j) (v.get j) else s.get j)) /\ w.frozen? ⟨sb, j, none⟩ = false := by
 obtain ⟨cs, h1, h2, h3⟩ := h
 exact ⟨by rw [h1.cell]; exact h3 j hj, h1.frozen j⟩
theorem sumAt_next {w : World} {sb : Nat} {s v : S8} {k : Nat} (h : SumAt w sb s v k) (hk : k < 4) : SumAt (((w.setCell ⟨sb, k, none⟩ (u32v (wadd (s.get k) (v.get k)))).drew.setCell ⟨sb, k + 4, none⟩ (u32v (wadd (s.get (k + 4)) (v.get (k + 4))))).drew) sb s v (k + 1) := by
 obtain ⟨cs, h1, h2, h3⟩ := h
 refine ⟨_, ((h1.set_ k _).drew.set_ (k + 4) _).drew, by simp [h2], fun j hj => ?_⟩
 rw [Array.getElem?_setIfInBounds, Array.getElem?_setIfInBounds]
 by_cases e1 : k + 4 = j
 ·subst e1
  rw [if_pos rfl, if_pos (by simp; omega), if_pos (by omega)]
 ·rw [if_neg e1]
  by_cases e2 : k = j
  ·subst e2
   rw [if_pos rfl, if_pos (by omega), if_pos (by omega)]
  ·rw [if_neg e2, h3 j hj]
   by_cases e3 : j % 4 < k
   ·rw [if_pos e3, if_pos (by omega)]
   ·rw [if_neg e3, if_neg (by omega)]
theorem sumAt_done {w : World} {sb : Nat} {s v : S8} (h : SumAt w sb s v 4) : w.rangeAt sb 0 (s8V (sadd s v)).toList := by
 obtain ⟨cs, h1, h2, h3⟩ := h
 intro j x hx
 have hj : j < 8 := (List.getElem?_eq_some_iff.1 hx).1
 rw [Array.getElem?_toList, s8V_at _ j hj, sadd_get _ _ j hj] at hx
 cases hx
 rw [Nat.zero_add, h1.cell, h3 j hj, if_pos (by omega)]
theorem world_is {P : World -> Prop} {X : World} (h : ∀ W, X = W -> P W) : P X := h X rfl
def KAt (w : World) (g : Nat) : Prop := g < w.heap.size /\ w.rangeAt g 0 kV
theorem KAt.below {w w' : World} {g : Nat} (h : KAt w g) (hB : Below w.heap.size w w') : KAt w' g :=
 ⟨Nat.lt_of_lt_of_le h.1 hB.size, fun j v hv => (hB.cell (p := ⟨g, 0 + j, none⟩) h.1).trans (h.2 j v hv)⟩
set_option maxRecDepth 100000 in
set_option maxHeartbeats 1600000 in
theorem comp_any (w : World) (s : S8) (bb bo c : Nat) (b : List UInt8) (hl : b.length = 64) (hc : 64 <= c) (hb : BytesAt w bb bo b) (hK : KAt w 1) :
  Calls Tryz.prog 111 #[.agg (s8V s), .slice (some ⟨bb, bo, none⟩) 64 c] w fun e w' => e = .returned (.agg (s8V (scomp s b))) /\ Below w.heap.size w w' := by
 unfold s8V
 have HS := Lib.hid (fun wx (h : Below w.heap.size w wx) => sched_any wx bb bo c b hl hc (hb.below h))
 have hl64 := Lib.hid (schedV_len b)
 have hsz64 : Hid ((schedV b).toArray.size = 64) := by unfold Hid; rw [List.size_toArray]; exact hl64.out
 go_enter Tryz.func111, Tryz.ntmps111
 go_wp2_with fail
 have hB0 : Below w.heap.size w ((w.alloc (.cells #[u32v s.a, u32v s.b, u32v s.c, u32v s.d, u32v s.e, u32v s.f, u32v s.g, u32v s.h] 113)).alloc (.cells #[.int .u32 0, .int .u32 0, .int .u32 0, .int .u32 0, .int .u32 0, .int .u32 0, .int .u32 0, .int .u32 0] 113)) := by
  have b1 := (Below.refl _ w).alloc (Nat.le_refl _) (.cells #[u32v s.a, u32v s.b, u32v s.c, u32v s.d, u32v s.e, u32v s.f, u32v s.g, u32v s.h] 113)
  exact b1.alloc b1.size _
 have hSB : Blk ((w.alloc (.cells #[u32v s.a, u32v s.b, u32v s.c, u32v s.d, u32v s.e, u32v s.f, u32v s.g, u32v s.h] 113)).alloc (.cells #[.int .u32 0, .int .u32 0, .int .u32 0, .int .u32 0, .int .u32 0, .int .u32 0, .int .u32 0, .int .u32 0] 113)) w.heap.size 113 (s8V s) := (Blk.new w _ _).alloc _
 have hRB : Blk ((w.alloc (.cells #[u32v s.a, u32v s.b, u32v s.c, u32v s.d, u32v s.e, u32v s.f, u32v s.g, u32v s.h] 113)).alloc (.cells #[.int .u32 0, .int .u32 0, .int .u32 0, .int .u32 0, .int .u32 0, .int .u32 0, .int .u32 0, .int .u32 0] 113)) (w.heap.size + 1) 113 #[.int .u32 0, .int .u32 0, .int .u32 0, .int .u32 0, .int .u32 0, .int .u32 0, .int .u32 0, .int .u32 0] := by
  have := Blk.new (w.alloc (.cells #[u32v s.a, u32v s.b, u32v s.c, u32v s.d, u32v s.e, u32v s.f, u32v s.g, u32v s.h] 113)) 113 #[.int .u32 0, .int .u32 0, .int .u32 0, .int .u32 0, .int .u32 0, .int .u32 0, .int .u32 0, .int .u32 0]
  rw [World.size_alloc] at this
  exact this
 generalize ((w.alloc (.cells #[u32v s.a, u32v s.b, u32v s.c, u32v s.d, u32v s.e, u32v s.f, u32v s.g, u32v s.h] 113)).alloc (.cells #[.int .u32 0, .int .u32 0, .int .u32 0, .int .u32 0, .int .u32 0, .int .u32 0, .int .u32 0, .int .u32 0] 113)) = w0 at *
 refine (HS.out _ hB0).mono ?_
 rintro e w1 ⟨rfl, hB1⟩
 have hz0 := hB0.size
 have HB1 := Lib.hid (hB0.trans (hB1.mono hz0))
 have HSB1 := Lib.hid (hSB.below hB1 hSB.lt)
 have HRB1 := Lib.hid (hRB.below hB1 hRB.lt)
 clear hB0 hB1 hSB hRB hz0 HS
 have hth := Lib.hid (there_of_blk (o := 0) (n := 64) (Blk.new w1 166 z64) (by decide))
 go_upto_region 2 with (first | (refine wpList_store_mid rfl 166 _ _ rfl w1.heap.size 0 (schedV b).toArray rfl rfl ?hA ?hB ?hC ?_) | fail)
 case hA => rw [hsz64.out]; exact hth.out
 case hB => rw [hsz64.out]; exact infoA64
 case hC => exact oneCell_map _ _ (fun a => u32v_one _)
 try simp only [Act.put]
 refine world_is (P := fun W => Code.wp _ _ _ _ W) (X := (w1.alloc (.cells z64 166)).setCells w1.heap.size 0 (schedV b)) (fun W2 hW2 => ?_)
 have HWB : Hid (Blk W2 w1.heap.size 166 (schedV b).toArray) := by
  unfold Hid
  rw [<- hW2]
  exact blk_setWhole (Blk.new w1 166 z64) (schedV b) (by rw [hl64.out]; rfl)
 have HB2 : Hid (Below w1.heap.size w1 W2) := by
  unfold Hid
  rw [<- hW2]
  exact below_setCells (Nat.le_refl _) _ _ _ ((Below.refl _ w1).alloc (Nat.le_refl _) _)
 have HSB2 := Lib.hid (HSB1.out.below HB2.out HSB1.out.lt)
 have HRB2 := Lib.hid (HRB1.out.below HB2.out HRB1.out.lt)
 have HBB := Lib.hid (HB1.out.trans (HB2.out.mono HB1.out.size))
 have hs0 : W2.cell? ⟨w.heap.size, 0, none⟩ = some (u32v s.a) := HSB2.out.cell 0
 have hs1 : W2.cell? ⟨w.heap.size, 1, none⟩ = some (u32v s.b) := HSB2.out.cell 1
 have hs2 : W2.cell? ⟨w.heap.size, 2, none⟩ = some (u32v s.c) := HSB2.out.cell 2
 have hs3 : W2.cell? ⟨w.heap.size, 3, none⟩ = some (u32v s.d) := HSB2.out.cell 3
 have hs4 : W2.cell? ⟨w.heap.size, 4, none⟩ = some (u32v s.e) := HSB2.out.cell 4
 have hs5 : W2.cell? ⟨w.heap.size, 5, none⟩ = some (u32v s.f) := HSB2.out.cell 5
 have hs6 : W2.cell? ⟨w.heap.size, 6, none⟩ = some (u32v s.g) := HSB2.out.cell 6
 have hs7 : W2.cell? ⟨w.heap.size, 7, none⟩ = some (u32v s.h) := HSB2.out.cell 7
 obtain ⟨wb, hwb⟩ : ∃ wb, w1.heap.size = wb := ⟨_, rfl⟩
 rw [hwb] at HWB ⊢
 clear hW2 HB1 HB2 HSB1 HRB1 hth hwb
 have hA1 : ∀ wx, (Instr.arrayAt 207 (.slice (some ⟨w.heap.size, 0, none⟩) 4 8)).run Tryz.prog wx = .ok (.pointer (some ⟨w.heap.size, 0, none⟩)) wx := fun wx => arr4 _ _ _ _ (by decide)
 have hA2 : ∀ wx, (Instr.arrayAt 207 (.slice (some ⟨w.heap.size, 4, none⟩) 4 4)).run Tryz.prog wx = .ok (.pointer (some ⟨w.heap.size, 4, none⟩)) wx := fun wx => arr4 _ _ _ _ (by decide)
 have n0 := World.new_ne W2 _ hs0
 have hsz2 : w.heap.size < W2.heap.size := HSB2.out.lt
 go_cut [6, 7] from 15 to 20 (fun p q wx => ∃ vb eb, p = .pointer (some ⟨vb, 0, none⟩) /\ q = .pointer (some ⟨eb, 0, none⟩) /\ Hid (vb ≠ eb /\ W2.heap.size <= vb /\ W2.heap.size <= eb) /\ Hid (Blk wx vb 207 #[u32v s.a, u32v s.b, u32v s.c, u32v s.d]) /\ Hid (Blk wx eb 207 #[u32v s.e, u32v s.f, u32v s.g, u32v s.h]) /\ Hid (Below W2.heap.size W2 wx))
 case first =>
  go_region_held3 (fun w' => w'.cell? ⟨w.heap.size, 0, none⟩ = some (u32v s.a) /\ w'.cell? ⟨w.heap.size, 1, none⟩ = some (u32v s.b) /\ w'.cell? ⟨w.heap.size, 2, none⟩ = some (u32v s.c) /\ w'.cell? ⟨w.heap.size, 3, none⟩ = some (u32v s.d) /\ w'.cell? ⟨w.heap.size, 4, none⟩ = some (u32v s.e) /\ w'.cell? ⟨w.heap.size, 5, none⟩ = some (u32v s.f) /\ w'.cell? ⟨w.heap.size, 6, none⟩ = some (u32v s.g) /\ w'.cell? ⟨w.heap.size, 7, none⟩ = some (u32v s.h)) (go_keep) (fail)
  all_goals (try go_wp2_with fail)
  all_goals go_meet
  all_goals first
   | exact ⟨W2.heap.size, W2.heap.size + 1, rfl, rfl, ⟨by omega, by omega, by omega⟩, (two_alloc W2 207 _ _).1, (two_alloc W2 207 _ _).2.1, (two_alloc W2 207 _ _).2.2⟩
   | exact ⟨W2.heap.size + 1, W2.heap.size, rfl, rfl, ⟨by omega, by omega, by omega⟩, (two_alloc W2 207 _ _).2.1, (two_alloc W2 207 _ _).1, (two_alloc W2 207 _ _).2.2⟩
 case rest =>
 obtain ⟨vb, eb, rfl, rfl, hne, hV, hE, hB3⟩ := hcut
 have hC0 : Hid (CompAt w wc w.heap.size (w.heap.size + 1) wb vb eb s b s) :=
  ⟨HSB2.out.below hB3.out HSB2.out.lt, ⟨_, HRB2.out.below hB3.out HRB2.out.lt, rfl⟩, HWB.out.below hB3.out HWB.out.lt, hV.out, hE.out, HBB.out.trans (hB3.out.mono HBB.out.size)⟩
 have hK3 := Lib.hid (hK.below hC0.out.bel)
 have hK64 : Hid ((Tryz.prog.info? 166).map (·.size) = some kV.length) := by unfold Hid; rw [kV_len]; exact infoA64
 have hvw := Lib.hid (And.intro (Nat.le_trans (Nat.le_of_lt hsz2) hne.out.2.1) (Nat.le_trans (Nat.le_of_lt hsz2) hne.out.2.2))
 clear hs0 hs1 hs2 hs3 hs4 hs5 hs6 hs7 HSB2 HRB2 HWB HBB hV hE hB3 n0 hsz2 hA1 hA2 hK hb
 go_wp2_with (first | (refine wpList_load_mid rfl 166 _ rfl 1 0 rfl kV _ hK3.out.2 Tryz.underlying166 rfl hK64.out ?_) | fail)
 try simp only [Act.put, zq]
 go_loopw [22] (fun i wr => ∃ t : Nat, t <= 64 /\ i = .int .i64 t /\ Hid (CompAt w wr w.heap.size (w.heap.size + 1) wb vb eb s b (srounds s b t))) (fun i _ => 64 - (intOf i).toNat)
 case atStart => exact ⟨0, Nat.zero_le _, rfl, hC0⟩
 case round =>
  clear hC0
  obtain ⟨t, ht, rfl, hC⟩ := hrel
  by_cases h64 : t < 64
  ·have d64 : decide (t < 64) = true := decide_eq_true h64
   have d64' : decide ((t : Int) < 64) = true := decide_eq_true (by omega)
   have hk := fun wx => idx_run wx t h64
   have t0 : (0 : Int) <= (t : Int) := by omega
   have t1 : (t : Int) < 64 := by omega
   have t2 : ¬ 64 <= (t : Int) := by omega
   have hsr : Hid (srounds s b (t + 1) = sround (srounds s b t) (kAt t) (sw b t)) := rfl
   have hwt : wr.cell? ⟨wb, t, none⟩ = some (u32v (sw b t)) := by
    rw [hC.out.fw.cell t, List.getElem?_toArray]
    exact schedV_at b t h64
   generalize srounds s b t = st at *
   obtain ⟨a1, b1, c1, d1, e1, f1, g1, h1⟩ := st
   have v0 : wr.cell? ⟨vb, 0, none⟩ = some (u32v a1) := hC.out.fv.cell 0
   have v1 : wr.cell? ⟨vb, 1, none⟩ = some (u32v b1) := hC.out.fv.cell 1
   have v2 : wr.cell? ⟨vb, 2, none⟩ = some (u32v c1) := hC.out.fv.cell 2
   have v3 : wr.cell? ⟨vb, 3, none⟩ = some (u32v d1) := hC.out.fv.cell 3
   have e0 : wr.cell? ⟨eb, 0, none⟩ = some (u32v e1) := hC.out.fe.cell 0
   have e1' : wr.cell? ⟨eb, 1, none⟩ = some (u32v f1) := hC.out.fe.cell 1
   have e2 : wr.cell? ⟨eb, 2, none⟩ = some (u32v g1) := hC.out.fe.cell 2
   have e3 : wr.cell? ⟨eb, 3, none⟩ = some (u32v h1) := hC.out.fe.cell 3
   go_wp2_with fail
   go_region_held3 (fun w' => w'.cell? ⟨wb, t, none⟩ = some (u32v (sw b t)) /\ w'.cell? ⟨vb, 0, none⟩ = some (u32v a1) /\ w'.cell? ⟨vb, 1, none⟩ = some (u32v b1) /\ w'.cell? ⟨vb, 2, none⟩ = some (u32v c1) /\ w'.cell? ⟨vb, 3, none⟩ = some (u32v d1) /\ w'.cell? ⟨eb, 0, none⟩ = some (u32v e1) /\ w'.cell? ⟨eb, 1, none⟩ = some (u32v f1) /\ w'.cell? ⟨eb, 2, none⟩ = some (u32v g1) /\ w'.cell? ⟨eb, 3, none⟩ = some (u32v h1)) (go_keep) (first | (go_at_call 150; refine (mix1 _ _).mono ?_; rintro e w' ⟨rfl, rfl⟩))
   obtain ⟨X, hX⟩ : ∃ X, rx ⟨a1, b1, c1, d1, e1, f1, g1, h1⟩ (kAt t) (sw b t) = X := ⟨_, rfl⟩
   have hX2 : wadd (wadd (wadd (wadd h1 (wxor (wxor (rotl e1 26) (rotl e1 21)) (rotl e1 7))) (wxor (wand e1 f1) (wand (wnot e1) g1))) (kAt t)) (sw b t) = X := hX
   rw [hX2]
   have hC2 : Hid (CompAt w wr.drew w.heap.size (w.heap.size + 1) wb vb eb s b ⟨a1, b1, c1, d1, e1, f1, g1, h1⟩) := hC.out.drew
   clear v0 v1 v2 v3 e0 e1' e2 e3 hwt hX2 hC
   generalize wr.drew = wq at *
   have v0 : wq.cell? ⟨vb, 0, none⟩ = some (u32v a1) := hC2.out.fv.cell 0
   have v1 : wq.cell? ⟨vb, 1, none⟩ = some (u32v b1) := hC2.out.fv.cell 1
   have v2 : wq.cell? ⟨vb, 2, none⟩ = some (u32v c1) := hC2.out.fv.cell 2
   have v3 : wq.cell? ⟨vb, 3, none⟩ = some (u32v d1) := hC2.out.fv.cell 3
   go_wp2_with fail
   go_region_held3 (fun w' => w'.cell? ⟨vb, 0, none⟩ = some (u32v a1) /\ w'.cell? ⟨vb, 1, none⟩ = some (u32v b1) /\ w'.cell? ⟨vb, 2, none⟩ = some (u32v c1) /\ w'.cell? ⟨vb, 3, none⟩ = some (u32v d1)) (go_keep) (first | (go_at_call 150; refine (mix2 _ _).mono ?_; rintro e w' ⟨rfl, rfl⟩))
   obtain ⟨Y, hY⟩ : ∃ Y, ry ⟨a1, b1, c1, d1, e1, f1, g1, h1⟩ = Y := ⟨_, rfl⟩
   have hY2 : wadd (wxor (wxor (rotl a1 30) (rotl a1 19)) (rotl a1 10)) (wxor (wxor (wand a1 b1) (wand a1 c1)) (wand b1 c1)) = Y := hY
   rw [hY2]
   have hC3 : Hid (CompAt w wq.drew w.heap.size (w.heap.size + 1) wb vb eb s b ⟨a1, b1, c1, d1, e1, f1, g1, h1⟩) := hC2.out.drew
   clear v0 v1 v2 v3 hY2 hC2
   generalize wq.drew = wz at *
   have v0 : wz.cell? ⟨vb, 0, none⟩ = some (u32v a1) := hC3.out.fv.cell 0
   have v1 : wz.cell? ⟨vb, 1, none⟩ = some (u32v b1) := hC3.out.fv.cell 1
   have v2 : wz.cell? ⟨vb, 2, none⟩ = some (u32v c1) := hC3.out.fv.cell 2
   have v3 : wz.cell? ⟨vb, 3, none⟩ = some (u32v d1) := hC3.out.fv.cell 3
   have e0 : wz.cell? ⟨eb, 0, none⟩ = some (u32v e1) := hC3.out.fe.cell 0
   have e1' : wz.cell? ⟨eb, 1, none⟩ = some (u32v f1) := hC3.out.fe.cell 1
   have e2 : wz.cell? ⟨eb, 2, none⟩ = some (u32v g1) := hC3.out.fe.cell 2
   have e3 : wz.cell? ⟨eb, 3, none⟩ = some (u32v h1) := hC3.out.fe.cell 3
   have fv0 := hC3.out.fv.frozen 0
   have fv1 := hC3.out.fv.frozen 1
   have fv2 := hC3.out.fv.frozen 2
   have fv3 := hC3.out.fv.frozen 3
   have fe0 := hC3.out.fe.frozen 0
   have fe1 := hC3.out.fe.frozen 1
   have fe2 := hC3.out.fe.frozen 2
   have fe3 := hC3.out.fe.frozen 3
   have hn1 : vb ≠ eb := hne.out.1
   have hn2 : eb ≠ vb := fun e => hne.out.1 e.symm
   have hN := Lib.hid (hC3.out.next hn1 hvw.out.1 hvw.out.2 (wadd d1 X) e1 f1 g1 (wadd X Y) a1 b1 c1)
   have hs2 : Hid (srounds s b (t + 1) = ⟨wadd X Y, a1, b1, c1, wadd d1 X, e1, f1, g1⟩) := by
    unfold Hid
    rw [hsr.out]
    unfold sround
    dsimp only
    rw [hX, hY]
   clear hC3
   go_wp2_with fail
   go_roundw
   case rel => exact ⟨t + 1, by omega, by go_num, by unfold Hid; rw [hs2.out]; exact hN.out⟩
   case measure => simp [intOf]; omega
  ·have ht64 : t = 64 := by omega
   have d64 : decide (t < 64) = false := decide_eq_false h64
   have d64' : decide ((t : Int) < 64) = false := decide_eq_false (by omega)
   have t2 : (64 : Int) <= (t : Int) := by omega
   have t3 : ¬ (t : Int) < 64 := by omega
   have hsc : Hid (scomp s b = sadd s (srounds s b t)) := by unfold Hid; rw [ht64]; rfl
   clear ht64 ht
   generalize srounds s b t = V at *
   have hV4 : Hid (∀ j, j < 4 -> wr.cell? ⟨vb, j, none⟩ = some (u32v (V.get j)) /\ wr.cell? ⟨eb, j, none⟩ = some (u32v (V.get (j + 4)))) := by
    intro j hj
    rw [hC.out.fv.cell, hC.out.fe.cell]
    match j, hj with
    | 0, _ => exact ⟨rfl, rfl⟩
    | 1, _ => exact ⟨rfl, rfl⟩
    | 2, _ => exact ⟨rfl, rfl⟩
    | 3, _ => exact ⟨rfl, rfl⟩
   have hS0 : Hid (SumAt wr w.heap.size s V 0) := sumAt_start V hC.out.fs
   have hR0 : Hid (∃ cs, Blk wr (w.heap.size + 1) 113 cs /\ cs.size = 8) := hC.out.fr
   have hB0 : Hid (Below w.heap.size w wr) := hC.out.bel
   have hvs := Lib.hid (And.intro (hC.out.fv.ne_ hC.out.fs (by decide)) (hC.out.fe.ne_ hC.out.fs (by decide)))
   clear hC hK3 hK64
   go_wp2_with fail
   go_loopw [94] (fun i wx => ∃ k : Nat, k <= 4 /\ i = .int .i64 k /\ Hid (SumAt wx w.heap.size s V k) /\ Hid (∀ j, j < 4 -> wx.cell? ⟨vb, j, none⟩ = some (u32v (V.get j)) /\ wx.cell? ⟨eb, j, none⟩ = some (u32v (V.get (j + 4)))) /\ Hid (∃ cs, Blk wx (w.heap.size + 1) 113 cs /\ cs.size = 8) /\ Hid (Below w.heap.size w wx)) (fun i _ => 4 - (intOf i).toNat)
   case atStart => exact ⟨0, Nat.zero_le _, rfl, hS0, hV4, hR0, hB0⟩
   case round =>
    clear hS0 hV4 hR0 hB0
    obtain ⟨k, hk, rfl, hS, hV, hR, hB⟩ := hrel
    by_cases hk4 : k < 4
    ·have dk : decide (k < 4) = true := decide_eq_true hk4
     have dk' : decide ((k : Int) < 4) = true := decide_eq_true (by omega)
     have k0 : (0 : Int) <= (k : Int) := by omega
     have k1 : (k : Int) < 4 := by omega
     have k2 : ¬ 4 <= (k : Int) := by omega
     have k3 : ¬ 8 <= (k : Int) := by omega
     have k5 : ¬ 8 <= (k : Int) + 4 := by omega
     have k6 : (k : Int) < 8 := by omega
     have k7 : (k : Int) + 4 < 8 := by omega
     have k8 : (0 : Int) <= (k : Int) + 4 := by omega
     obtain ⟨c1, f1⟩ := sumAt_cell hS.out k (by omega)
     obtain ⟨c2, f2⟩ := sumAt_cell hS.out (k + 4) (by omega)
     rw [if_neg (by omega)] at c1 c2
     obtain ⟨c3, c4⟩ := hV.out k hk4
     have n1 := hvs.out.1
     have n2 := hvs.out.2
     have hSn := Lib.hid (sumAt_next hS.out hk4)
     have hVn : Hid (∀ j, j < 4 -> (((wr.setCell ⟨w.heap.size, k, none⟩ (u32v (wadd (s.get k) (V.get k)))).drew.setCell ⟨w.heap.size, k + 4, none⟩ (u32v (wadd (s.get (k + 4)) (V.get (k + 4))))).drew).cell? ⟨vb, j, none⟩ = some (u32v (V.get j)) /\ (((wr.setCell ⟨w.heap.size, k, none⟩ (u32v (wadd (s.get k) (V.get k)))).drew.setCell ⟨w.heap.size, k + 4, none⟩ (u32v (wadd (s.get (k + 4)) (V.get (k + 4))))).drew).cell? ⟨eb, j, none⟩ = some (u32v (V.get (j + 4)))) := by
      intro j hj
      obtain ⟨q1, q2⟩ := hV.out j hj
      have r1 : ∀ (W : World) (i : Nat) (x : Value), (W.setCell ⟨w.heap.size, i, none⟩ x).cell? ⟨vb, j, none⟩ = W.cell? ⟨vb, j, none⟩ := fun W i x => World.cell?_setCell_far _ _ _ _ (fun e => n1 e.symm)
      have r2 : ∀ (W : World) (i : Nat) (x : Value), (W.setCell ⟨w.heap.size, i, none⟩ x).cell? ⟨eb, j, none⟩ = W.cell? ⟨eb, j, none⟩ := fun W i x => World.cell?_setCell_far _ _ _ _ (fun e => n2 e.symm)
      refine ⟨?_, ?_⟩
      ·refine (r1 _ _ _).trans ((r1 _ _ _).trans q1)
      ·refine (r2 _ _ _).trans ((r2 _ _ _).trans q2)
     have hRn : Hid (∃ cs, Blk (((wr.setCell ⟨w.heap.size, k, none⟩ (u32v (wadd (s.get k) (V.get k)))).drew.setCell ⟨w.heap.size, k + 4, none⟩ (u32v (wadd (s.get (k + 4)) (V.get (k + 4))))).drew) (w.heap.size + 1) 113 cs /\ cs.size = 8) := by
      obtain ⟨cs, h1, h2⟩ := hR.out
      exact ⟨cs, (((h1.grown (grown_set' wr w.heap.size k _) (by simp)).drew).grown (grown_set' _ w.heap.size (k + 4) _) (by simp)).drew, h2⟩
     have hBn : Hid (Below w.heap.size w (((wr.setCell ⟨w.heap.size, k, none⟩ (u32v (wadd (s.get k) (V.get k)))).drew.setCell ⟨w.heap.size, k + 4, none⟩ (u32v (wadd (s.get (k + 4)) (V.get (k + 4))))).drew)) :=
      (((hB.out.setCell (p := ⟨w.heap.size, k, none⟩) (Nat.le_refl _) _).drew).setCell (p := ⟨w.heap.size, k + 4, none⟩) (Nat.le_refl _) _).drew
     generalize s.get k = x1 at *
     generalize V.get k = x2 at *
     generalize s.get (k + 4) = x3 at *
     generalize V.get (k + 4) = x4 at *
     clear hS hV hR hB hvs
     go_wp2_with fail
     go_region
     go_wp2_with fail
     go_region
     go_wp2_with fail
     go_roundw
     case rel => exact ⟨k + 1, by omega, by go_num, hSn, hVn, hRn, hBn⟩
     case measure => simp [intOf]; omega
    ·have hk44 : k = 4 := by omega
     have dk : decide (k < 4) = false := decide_eq_false hk4
     have dk' : decide ((k : Int) < 4) = false := decide_eq_false (by omega)
     have k2 : (4 : Int) <= (k : Int) := by omega
     have k3 : ¬ (k : Int) < 4 := by omega
     have hrg : Hid (wr.rangeAt w.heap.size 0 (s8V (scomp s b)).toList) := by
      have h4 := hS.out
      rw [hk44] at h4
      unfold Hid
      rw [hsc.out]
      exact sumAt_done h4
     clear hk44 hk hS hV
     obtain ⟨S, hSS⟩ : ∃ S, scomp s b = S := ⟨_, rfl⟩
     rw [hSS] at hrg
     have hSh := Lib.hid hSS
     have q0 : wr.cell? ⟨w.heap.size, 0, none⟩ = some (u32v S.a) := hrg.out 0 _ rfl
     have q1 : wr.cell? ⟨w.heap.size, 1, none⟩ = some (u32v S.b) := hrg.out 1 _ rfl
     have q2 : wr.cell? ⟨w.heap.size, 2, none⟩ = some (u32v S.c) := hrg.out 2 _ rfl
     have q3 : wr.cell? ⟨w.heap.size, 3, none⟩ = some (u32v S.d) := hrg.out 3 _ rfl
     have q4 : wr.cell? ⟨w.heap.size, 4, none⟩ = some (u32v S.e) := hrg.out 4 _ rfl
     have q5 : wr.cell? ⟨w.heap.size, 5, none⟩ = some (u32v S.f) := hrg.out 5 _ rfl
     have q6 : wr.cell? ⟨w.heap.size, 6, none⟩ = some (u32v S.g) := hrg.out 6 _ rfl
     have q7 : wr.cell? ⟨w.heap.size, 7, none⟩ = some (u32v S.h) := hrg.out 7 _ rfl
     obtain ⟨cs, hb1, hb2⟩ := hR.out
     obtain ⟨y0, z0⟩ : ∃ y, wr.cell? ⟨w.heap.size + 1, 0, none⟩ = some y := ⟨_, (hb1.cell 0).trans (Array.getElem?_eq_getElem (by omega))⟩
     have f0 := hb1.frozen 0
     obtain ⟨y1, z1⟩ : ∃ y, wr.cell? ⟨w.heap.size + 1, 1, none⟩ = some y := ⟨_, (hb1.cell 1).trans (Array.getElem?_eq_getElem (by omega))⟩
     have f1 := hb1.frozen 1
     obtain ⟨y2, z2⟩ : ∃ y, wr.cell? ⟨w.heap.size + 1, 2, none⟩ = some y := ⟨_, (hb1.cell 2).trans (Array.getElem?_eq_getElem (by omega))⟩
     have f2 := hb1.frozen 2
     obtain ⟨y3, z3⟩ : ∃ y, wr.cell? ⟨w.heap.size + 1, 3, none⟩ = some y := ⟨_, (hb1.cell 3).trans (Array.getElem?_eq_getElem (by omega))⟩
     have f3 := hb1.frozen 3
     obtain ⟨y4, z4⟩ : ∃ y, wr.cell? ⟨w.heap.size + 1, 4, none⟩ = some y := ⟨_, (hb1.cell 4).trans (Array.getElem?_eq_getElem (by omega))⟩
     have f4 := hb1.frozen 4
     obtain ⟨y5, z5⟩ : ∃ y, wr.cell? ⟨w.heap.size + 1, 5, none⟩ = some y := ⟨_, (hb1.cell 5).trans (Array.getElem?_eq_getElem (by omega))⟩
     have f5 := hb1.frozen 5
     obtain ⟨y6, z6⟩ : ∃ y, wr.cell? ⟨w.heap.size + 1, 6, none⟩ = some y := ⟨_, (hb1.cell 6).trans (Array.getElem?_eq_getElem (by omega))⟩
     have f6 := hb1.frozen 6
     obtain ⟨y7, z7⟩ : ∃ y, wr.cell? ⟨w.heap.size + 1, 7, none⟩ = some y := ⟨_, (hb1.cell 7).trans (Array.getElem?_eq_getElem (by omega))⟩
     have f7 := hb1.frozen 7
     have hb3 := Lib.hid hb1
     have hb4 := Lib.hid hb2
     clear hSS hsc hrg hR hb1 hb2
     go_wp2_with fail
     have hL := blk_setWhole hb3.out [u32v S.a, u32v S.b, u32v S.c, u32v S.d, u32v S.e, u32v S.f, u32v S.g, u32v S.h] (by rw [hb4.out]; rfl)
     have hBL := below_setCells (g := w.heap.size + 1) (Nat.le_succ _) [u32v S.a, u32v S.b, u32v S.c, u32v S.d, u32v S.e, u32v S.f, u32v S.g, u32v S.h] 0 _ hB.out
     rw [hSh.out]
     exact bodyPost_ret (results_c (P := Tryz.prog) rfl _ _ (w.heap.size + 1) 113 #[u32v S.a, u32v S.b, u32v S.c, u32v S.d, u32v S.e, u32v S.f, u32v S.g, u32v S.h] _ rfl hL Tryz.underlying113 rfl infoA8) rfl ⟨rfl, hBL⟩
end Go.Proofs.YtpghocekofdpbaaGreatDoor
namespace Go.Proofs.YtpghocekofdpbaaGreatDoor
open Go.RowKit Go.Shelf
attribute [local go_sem] Oper.semAt_some
def iv : S8 := ⟨0x6a09e667, 0xbb67ae85, 0x3c6ef372, 0xa54ff53a, 0x510e527f, 0x9b05688c, 0x1f83d9ab, 0x5be0cd19⟩
def strL (s : S8) (k : List UInt8) (n : Nat) : List Value := (s8V s).toList ++ k.map (fun x => .int .u8 (x.toNat : Int)) ++ [.int .u64 (n : Int)]
theorem infoStr : (Tryz.prog.info? 116).map (·.size) = some 73 := by kernel_rfl
theorem strIv_size : (strL iv (List.replicate 64 0) 0).toArray.size = 73 := by kernel_rfl
theorem zeroStr_size : (Tryz.zeroCells116).size = 73 := by kernel_rfl
theorem begin_any (w : World) : Calls Tryz.prog 76 #[] w fun e w' => e = .returned (.agg (strL iv (List.replicate 64 0) 0).toArray) /\ Below w.heap.size w w' := by
 go_enter Tryz.func76, Tryz.ntmps76
 have hBk := Blk.new w 116 Tryz.zeroCells116
 have hBl := (Below.refl _ w).alloc (Nat.le_refl _) (.cells Tryz.zeroCells116 116)
 go_wp2_with (first | (refine wpList_store_mid rfl 116 _ _ rfl w.heap.size 0 (strL iv (List.replicate 64 0) 0).toArray rfl rfl ?hA ?hB ?hC ?_) | fail)
 case hA => exact there_of_blk hBk (by rw [strIv_size, zeroStr_size]; exact Nat.le_refl _)
 case hB => rw [strIv_size]; exact infoStr
 case hC => kernel_rfl
 simp only [Act.put]
 exact bodyPost_ret (results_c (P := Tryz.prog) rfl _ _ w.heap.size 116 (strL iv (List.replicate 64 0) 0).toArray _ rfl (blk_setWhole hBk (strL iv (List.replicate 64 0) 0) (by rw [zeroStr_size]; rfl)) Tryz.underlying116 rfl (by rw [strIv_size]; exact infoStr)) rfl ⟨rfl, below_setCells (Nat.le_refl _) _ _ _ hBl⟩
end Go.Proofs.YtpghocekofdpbaaGreatDoor
namespace Go.Proofs.YtpghocekofdpbaaGreatDoor
open Go.RowKit Go.Shelf
theorem s8V_len (s : S8) : (s8V s).toList.length = 8 := rfl
theorem strL_len (s : S8) (k : List UInt8) (n : Nat) : (strL s k n).length = 8 + k.length + 1 := by
 unfold strL
 rw [List.length_append, List.length_append, List.length_map, s8V_len]
 rfl
theorem strL_word (s : S8) (k : List UInt8) (n j : Nat) (h : j < 8) : (strL s k n)[j]? = some (u32v (s.get j)) := by
 unfold strL
 rw [List.append_assoc, List.getElem?_append_left (by rw [s8V_len]; exact h), Array.getElem?_toList]
 exact s8V_at s j h
theorem strL_byte (s : S8) (k : List UInt8) (n i : Nat) (x : UInt8) (h : k[i]? = some x) : (strL s k n)[8 + i]? = some (.int .u8 (x.toNat : Int)) := by
 have hi : i < k.length := (List.getElem?_eq_some_iff.1 h).1
 unfold strL
 rw [List.append_assoc, List.getElem?_append_right (by rw [s8V_len]; omega), s8V_len, Nat.add_sub_cancel_left, List.getElem?_append_left (by rw [List.length_map]; exact hi), List.getElem?_map, h]
 rfl
theorem strL_n (s : S8) (k : List UInt8) (n : Nat) (h : k.length = 64) : (strL s k n)[72]? = some (.int .u64 (n : Int)) := by
 unfold strL
 rw [List.getElem?_append_right (by rw [List.length_append, List.length_map, s8V_len]; omega), List.length_append, List.length_map, s8V_len, h]
 rfl
theorem str_bytes {w : World} {g : Nat} {t : TypeId} {s : S8} {k : List UInt8} {n : Nat} (h : Blk w g t (strL s k n).toArray) : BytesAt w g 8 k :=
 ⟨h.lt, fun i x hx => by rw [h.cell, List.getElem?_toArray]; exact strL_byte s k n i x hx⟩
theorem str_word {w : World} {g : Nat} {t : TypeId} {s : S8} {k : List UInt8} {n : Nat} (h : Blk w g t (strL s k n).toArray) (j : Nat) (hj : j < 8) : w.cell? ⟨g, j, none⟩ = some (u32v (s.get j)) := by
 rw [h.cell, List.getElem?_toArray]
 exact strL_word s k n j hj
theorem str_n {w : World} {g : Nat} {t : TypeId} {s : S8} {k : List UInt8} {n : Nat} (h : Blk w g t (strL s k n).toArray) (hk : k.length = 64) : w.cell? ⟨g, 72, none⟩ = some (.int .u64 (n : Int)) := by
 rw [h.cell, List.getElem?_toArray]
 exact strL_n s k n hk
end Go.Proofs.YtpghocekofdpbaaGreatDoor
namespace Go.Proofs.YtpghocekofdpbaaGreatDoor
open Go.RowKit Go.Shelf
def byteV (x : UInt8) : Value := .int .u8 (x.toNat : Int)
theorem strL_eq (s : S8) (k : List UInt8) (n : Nat) : strL s k n = (s8V s).toList ++ k.map byteV ++ [.int .u64 (n : Int)] := rfl
theorem str_size (s : S8) (k : List UInt8) (n : Nat) (hk : k.length = 64) : (strL s k n).toArray.size = 73 := by
 rw [List.size_toArray, strL_len, hk]
theorem str_copied (s : S8) (k c : List UInt8) (n o : Nat) (hk : k.length = 64) (ho : o + c.length <= 64) :
  (strL s k n).toArray.toList.take (8 + o) ++ c.map byteV ++ (strL s k n).toArray.toList.drop (8 + o + (c.map byteV).length) = strL s (k.take o ++ c ++ k.drop (o + c.length)) n := by
 have e8 := s8V_len s
 rw [strL_eq, strL_eq, List.length_map, List.append_assoc (s8V s).toList]
 have hA : (s8V s).toList.length = 8 := e8
 generalize (s8V s).toList = A at *
 have hN : ([Value.int .u64 (n : Int)] : List Value).length = 1 := rfl
 generalize ([Value.int .u64 (n : Int)] : List Value) = N at *
 show (A ++ (k.map byteV ++ N)).take (8 + o) ++ c.map byteV ++ (A ++ (k.map byteV ++ N)).drop (8 + o + c.length) = _
 rw [<- hA, Nat.add_assoc, List.take_length_add_append, List.drop_length_add_append, List.take_append_of_le_length (by rw [List.length_map]; omega), List.drop_append_of_le_length (by rw [List.length_map]; omega)]
 simp only [List.map_append, List.map_take, List.map_drop, List.append_assoc]
theorem str_copy {w : World} {g : Nat} {t : TypeId} {s : S8} {k : List UInt8} {n : Nat} (h : Blk w g t (strL s k n).toArray) (c : List UInt8) (o : Nat) (hk : k.length = 64) (ho : o + c.length <= 64) :
  Blk (w.setRow g ((strL s k n).toArray.toList.take (8 + o) ++ c.map byteV ++ (strL s k n).toArray.toList.drop (8 + o + (c.map byteV).length)).toArray) g t (strL s (k.take o ++ c ++ k.drop (o + c.length)) n).toArray := by
 rw [str_copied s k c n o hk ho]
 exact setRow_heap w g _ _ t (0, 0) h
theorem str_setn {w : World} {g : Nat} {t : TypeId} {s : S8} {k : List UInt8} {n : Nat} (h : Blk w g t (strL s k n).toArray) (hk : k.length = 64) (m : Nat) : Blk (w.setCell ⟨g, 72, none⟩ (.int .u64 (m : Int))) g t (strL s k m).toArray := by
 have h1 := h.set_ 72 (.int .u64 (m : Int))
 have e : (strL s k n).toArray.setIfInBounds 72 (.int .u64 (m : Int)) = (strL s k m).toArray := by
  rw [strL_eq, strL_eq, List.setIfInBounds_toArray, List.set_append_right _ _ (by rw [List.length_append, List.length_map, s8V_len, hk]; exact Nat.le_refl _), List.length_append, List.length_map, s8V_len, hk]
  rfl
 rw [e] at h1
 exact h1
def set8 (w : World) (g : Nat) (s : S8) : World := w.setCells g 0 [u32v s.a, u32v s.b, u32v s.c, u32v s.d, u32v s.e, u32v s.f, u32v s.g, u32v s.h]
theorem past8 (s : S8) (l : List Value) (j : Nat) (h : ¬ j < 8) : ((s8V s).toList ++ l)[j]? = l[j - 8]? := by
 rw [List.getElem?_append_right (by rw [s8V_len]; omega), s8V_len]
theorem str_sets {w : World} {g : Nat} {t : TypeId} {s : S8} {k : List UInt8} {n : Nat} (h : Blk w g t (strL s k n).toArray) (hk : k.length = 64) (s' : S8) : Blk (set8 w g s') g t (strL s' k n).toArray := by
 obtain ⟨ds, h1, h2, h3, h4⟩ := blk_setCells [u32v s'.a, u32v s'.b, u32v s'.c, u32v s'.d, u32v s'.e, u32v s'.f, u32v s'.g, u32v s'.h] 0 w _ h
 have e : ds = (strL s' k n).toArray := by
  apply Array.ext_getElem?
  intro j
  rw [show (strL s' k n).toArray[j]? = (strL s' k n)[j]? from List.getElem?_toArray]
  by_cases hj : j < 8
  ·rw [h3 j (Nat.zero_le _) (by simp only [List.length_cons, List.length_nil]; omega) (by rw [str_size _ _ _ hk]; omega), strL_word _ _ _ j hj, <- s8V_at s' j hj, Nat.sub_zero, show s8V s' = [u32v s'.a, u32v s'.b, u32v s'.c, u32v s'.d, u32v s'.e, u32v s'.f, u32v s'.g, u32v s'.h].toArray from rfl, List.getElem?_toArray]
  ·rw [h4 j (.inr (by simp only [List.length_cons, List.length_nil]; omega)), List.getElem?_toArray, strL_eq, strL_eq, List.append_assoc (s8V s).toList, List.append_assoc (s8V s').toList, past8 s _ j hj, past8 s' _ j hj]
 rw [e] at h1
 exact h1
theorem set8_below {B : Nat} {w0 w : World} {g : Nat} (s : S8) (hg : B <= g) (h : Below B w0 w) : Below B w0 (set8 w g s) := below_setCells hg _ 0 w h
end Go.Proofs.YtpghocekofdpbaaGreatDoor
namespace Go.Proofs.YtpghocekofdpbaaGreatDoor
def zerosOf (n : Nat) : Nat := (119 - n % 64) % 64
theorem zerosOf_ends (n : Nat) : (n + 1 + zerosOf n) % 64 = 56 := by unfold zerosOf; omega
theorem zerosOf_first (n k : Nat) (h : k < zerosOf n) : (n + 1 + k) % 64 ≠ 56 := by unfold zerosOf at h; omega
def be64 (n : Nat) : List UInt8 := (List.range 8).map fun i => UInt8.ofNat (n / 2 ^ (56 - 8 * i))
theorem be64_len (n : Nat) : (be64 n).length = 8 := by unfold be64; rw [List.length_map, List.length_range]
theorem be64_snoc (n i : Nat) (h : i < 8) : (be64 n).take (i + 1) = (be64 n).take i ++ [UInt8.ofNat (n / 2 ^ (56 - 8 * i))] := by
 rw [List.take_add_one]
 unfold be64
 rw [List.getElem?_map, List.getElem?_range h]
 rfl
theorem byte_of (n : Nat) : ((n : Int) % 256) = ((UInt8.ofNat n).toNat : Int) := by
 rw [UInt8.toNat_ofNat']
 omega
def padL (n : Nat) : List UInt8 := 128 :: (List.replicate (zerosOf n) 0 ++ be64 (8 * n % 18446744073709551616))
theorem padL_len (n : Nat) : (padL n).length = zerosOf n + 9 := by
 unfold padL
 rw [List.length_cons, List.length_append, List.length_replicate, be64_len]
theorem padded_len (b : List UInt8) : (b ++ padL b.length).length % 64 = 0 := by
 have h := zerosOf_ends b.length
 rw [List.length_append, padL_len]
 omega
def sumS (b : List UInt8) : S8 := sblocks iv ((b ++ padL b.length).length / 64) (b ++ padL b.length)
def digest (s : S8) : List UInt8 := (List.range 32).map fun i => UInt8.ofNat ((s.get (i / 4)).toNat / 2 ^ (24 - 8 * (i % 4)))
theorem digest_len (s : S8) : (digest s).length = 32 := by unfold digest; rw [List.length_map, List.length_range]
def sumL (b : List UInt8) : List UInt8 := digest (sumS b)
theorem sum_of_stream {b : List UInt8} {s : S8} {k : List UInt8} (h : StrOf iv (b ++ padL b.length) s k) : s = sumS b := h.st
end Go.Proofs.YtpghocekofdpbaaGreatDoor
namespace Go.Proofs.YtpghocekofdpbaaGreatDoor
open Go.RowKit Go.Shelf
attribute [local go_sem] Oper.semAt_some
theorem wor_comm (x y : UInt32) : wor x y = wor y x := by
 unfold wor
 apply UInt32.toBitVec_inj.1
 rw [UInt32.toBitVec_or, UInt32.toBitVec_or]
 exact BitVec.or_comm _ _
theorem i64_fin : ∀ s : Fin 33, IntKind.i64.wrap ((s.val : Nat) : Int) = ((s.val : Nat) : Int) := by decide +kernel
theorem i64_small (s : Nat) (h : s <= 32) : IntKind.i64.wrap (s : Int) = (s : Int) := i64_fin ⟨s, by omega⟩
theorem rotr_any (w : World) (x : UInt32) (n s : Nat) (h1 : 1 <= n) (h2 : n <= 31) (hs : 32 - n = s) :
  Calls Tryz.prog 114 #[u32v x, .int .i64 n] w fun e w' => e = .returned (u32v (rotl x s)) /\ ∃ q, w' = w.drewN q := by
 have hr := shr_eq x n (by omega)
 have hl := shl_eq x s (by omega)
 have hn : 32 - s = n := by omega
 have hr2 : (x.toNat : Int) / 2 ^ n = ((wshr x n).toNat : Int) := by rw [<- hr, Nat.min_eq_left (by omega)]
 have hl2 : (x.toNat : Int) * 2 ^ s % 4294967296 = ((wshl x s).toNat : Int) := by rw [<- hl, Nat.min_eq_left (by omega)]
 have hl3 : IntKind.u32.wrap ((x.toNat : Int) * 2 ^ s) = ((wshl x s).toNat : Int) := by rw [<- hl2]; simp [IntKind.wrap, IntKind.bits, IntKind.signed]
 have hws : IntKind.i64.wrap (s : Int) = (s : Int) := i64_small s (by omega)
 have hw' : (32 : Int) - (n : Int) = (s : Int) := by clear hr hl hr2 hl2 hl3 hws; omega
 have hw : wrap64 (32 - (n : Int)) = (s : Int) := by rw [hw']; clear hr hl hr2 hl2 hl3 hws; unfold wrap64; omega
 have n0 : (0 : Int) <= (n : Int) := by clear hr hl hr2 hl2 hl3 hws hw hw'; omega
 have n1 : ¬ (n : Int) < 0 := by clear hr hl hr2 hl2 hl3 hws hw hw'; omega
 have s0 : (0 : Int) <= (s : Int) := by clear hr hl hr2 hl2 hl3 hws hw hw'; omega
 have s1 : ¬ (s : Int) < 0 := by clear hr hl hr2 hl2 hl3 hws hw hw'; omega
 have ho := w_or (wshr x n) (wshl x s)
 have hE : rotl x s = wor (wshr x n) (wshl x s) := by unfold rotl; rw [hn]; exact wor_comm _ _
 rw [hE]
 clear hE hn hs h1 h2
 go_enter Tryz.func114, Tryz.ntmps114
 go_wp2_with fail
 go_quiet (fail)
 go_wp2_with fail
 go_ret
 exact ⟨rfl, _, rfl⟩
end Go.Proofs.YtpghocekofdpbaaGreatDoor
