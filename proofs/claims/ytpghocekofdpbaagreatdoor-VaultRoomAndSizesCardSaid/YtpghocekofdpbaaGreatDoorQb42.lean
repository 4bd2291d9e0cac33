import Derived.Test.YtpghocekofdpbaaGreatDoorQb41
import Derived.Test.YtpghocekofdpbaaGreatDoorQb16
namespace Go.Proofs.YtpghocekofdpbaaGreatDoor
open Go.RowKit Go.Shelf
attribute [local go_sem] Oper.semAt_some
section
variable {w : World} {ab jc jb g o c h bank : Nat} {l : List ByteArray}
theorem slice_part (g o c n u m : Nat) (hu : u < m) (hm : m <= n) (hc : n <= c) (w : World) : (Instr.slice 35 (.slice (some ⟨g, o, none⟩) n c) (some (.int .i64 (u : Int))) (some (.int .i64 (m : Int))) none).run Tryz.prog w = .ok (.slice (some ⟨g, o + u, none⟩) (m - u) (c - u)) w := by
 have e1 : ¬ m < u := by omega
 have e2 : ¬ c < m := by omega
 have e3 : u <= m := by omega
 have e4 : ¬ c = u := by omega
 have e5 : ¬ c < u := by omega
 have e6 : m <= c := by omega
 simp [go_sem, e3, e4, e6]
theorem RowAt.part {W : World} (hr : RowAt W g o c l) (u m : Nat) (hm : u + m <= l.length) : RowAt W g (o + u) (c - u) ((l.drop u).take m) := by
 obtain ⟨h1, h2, h3, h4⟩ := hr
 have hlen : ((l.drop u).take m).length = m := by simp; omega
 refine ⟨h1, by omega, by omega, fun i t ht => ?_⟩
 have hi : i < m := by have := (List.getElem?_eq_some_iff.1 ht).1; omega
 rw [List.getElem?_take, if_pos hi, List.getElem?_drop] at ht
 rw [Nat.add_assoc]
 exact h4 _ t ht
def Found (w : World) (r : Nat) (B : Rows8) (c : Code) (pre : List (Nat × Nat × List UInt8)) (W : World) : Prop :=
 c = .ret /\ Blk W r 3 #[.int .i64 (firstNo B : Int)] /\ Below w.heap.size w W /\ pre = pre
def Finding (w : World) (r bb g o c : Nat) (l : List ByteArray) (pre : List (Nat × Nat × List UInt8)) (W : World) : Prop :=
 pre = [] /\ Blk W bb 35 #[.slice (some ⟨g, o, none⟩) l.length c] /\ RowAt W g o c l /\ Blk W r 3 #[.int .i64 0] /\ Below w.heap.size w W
theorem below_own {W W' : World} {row : Option Nat} {B : Nat} (h : Below w.heap.size w W) (hB : w.heap.size <= B) (hg : W.grownBy W' row) (hr : ∀ r, row = some r -> B <= r) : Below w.heap.size w W' :=
 h.grown hg h.size (fun g e => by have := hr g e; omega)
theorem finding_own {r bb : Nat} (B : Nat) (hB : w.heap.size <= B) (h0 : 0 < l.length) : OwnFrom B (Finding w r bb g o c l) := by
 rintro pre W W' row ⟨h1, h2, h3, h4, h5⟩ hg hr
 have hr2 := fun r e => (hr r e).2
 exact ⟨h1, h2.grown hg (blk_row h2 hr2), rowAt_grown h3 hg (rowAt_row h3 h0 hr2), h4.grown hg (blk_row h4 hr2), below_own h5 hB hg (fun r e => (hr r e).1)⟩
theorem found_own {r : Nat} {Bk : Rows8} {cd : Code} (B : Nat) (hB : w.heap.size <= B) : OwnFrom B (Found w r Bk cd) := by
 rintro pre W W' row ⟨h1, h4, h5, h6⟩ hg hr
 have hr2 := fun r e => (hr r e).2
 exact ⟨h1, h4.grown hg (blk_row h4 hr2), below_own h5 hB hg (fun r e => (hr r e).1), h6⟩
theorem results_int {fn : Func} {p : Tmp} (h : fn.results = #[.cell p 3]) (tmps : Array Value) (w : World) (g : Nat) (v : Value) (hp : tmps.getD p undef = .pointer (some ⟨g, 0, none⟩)) (hc : w.cell? ⟨g, 0, none⟩ = some v) :
  (results fn tmps).run Tryz.prog w = .ok v w := by
 have hp' : tmps[p]?.getD undef = .pointer (some ⟨g, 0, none⟩) := by simpa using hp
 simp [results, h, hp', loadVar, asAddr, go_sem, hc]
set_option maxRecDepth 100000 in
set_option maxHeartbeats 4000000 in
theorem jfirst_any (ha : Blk w ab 35 #[.slice (some ⟨g, o, none⟩) l.length c]) (hjc : Blk w jc 76 #[.pointer (some ⟨jb, 0, none⟩)]) (hjb : jb < w.heap.size) (hj1 : w.cell? ⟨jb, 1, none⟩ = some (.int .i64 (h : Int))) (hrow : RowAt w g o c l) (hbk : bank <= 1) (hl : l.length = 2 * h) (hh : 1 <= h /\ h <= 2048) :
  Calls Tryz.prog 106 #[.int .i64 (bank : Int), .pointer (some ⟨ab, 0, none⟩), .pointer (some ⟨jc, 0, none⟩)] w fun e w' =>
   e = .returned (.int .i64 (firstNo (rowsOf ((l.drop (bank * h)).take h)) : Int)) /\ Below w.heap.size w w' := by
 obtain ⟨lo, hlo⟩ : ∃ lo, bank * h = lo := ⟨_, rfl⟩
 obtain ⟨hi, hhi⟩ : ∃ hi, (bank + 1) * h = hi := ⟨_, rfl⟩
 have hlh : hi = lo + h := by rw [<- hhi, <- hlo, Nat.add_mul, Nat.one_mul]
 have hlo2 : lo <= h := by
  rw [<- hlo]
  have := Nat.mul_le_mul_right h hbk
  omega
 have hpart := hrow.part lo h (by omega)
 have hlp : ((l.drop lo).take h).length = h := by simp; omega
 have hB1 : Below w.heap.size w (w.alloc (.cells #[.int .i64 0] 3)) := (Below.refl _ w).alloc (Nat.le_refl _) _
 have hx1 := Blk.new w 3 #[.int .i64 0]
 obtain ⟨w1, hw1⟩ : ∃ w1, w.alloc (.cells #[.int .i64 0] 3) = w1 := ⟨_, rfl⟩
 have hs1 : w1.heap.size = w.heap.size + 1 := by rw [<- hw1]; simp
 rw [hw1] at hB1 hx1
 have y0 : w1.cell? ⟨ab, 0, none⟩ = some (.slice (some ⟨g, o, none⟩) l.length c) := (ha.below hB1 ha.lt).cell 0
 have y1 : w1.cell? ⟨jc, 0, none⟩ = some (.pointer (some ⟨jb, 0, none⟩)) := (hjc.below hB1 hjc.lt).cell 0
 have y2 : w1.cell? ⟨jb, 1, none⟩ = some (.int .i64 (h : Int)) := (hB1.cell (p := ⟨jb, 1, none⟩) hjb).trans hj1
 have hsl := fun wx => slice_part g o c l.length lo hi (by omega) (by omega) hrow.2.1 wx
 have hp1 := hpart.below hB1
 have e0 : ∀ x : Int, IntKind.i64.wrap x = wrap64 x := fun x => by rw [IntKind.wrap_i64, wrap64]
 have n0 : ab < w1.heap.size := by have := ha.lt; omega
 have n1 : jc < w1.heap.size := by have := hjc.lt; omega
 have n2 : jb < w1.heap.size := by omega
 have hml : hi - lo = h := by omega
 have big : ∀ n : Nat, n <= 8192 -> wrap64 (n : Int) = (n : Int) := fun n hn => wrap_small (Nat.le_trans hn (by decide))
 have hlo3 : lo <= 8192 := by omega
 have hhi3 : hi <= 8192 := by omega
 have hbk3 : bank + 1 <= 8192 := by omega
 have hw1' : wrap64 ((bank : Int) + 1) = ((bank + 1 : Nat) : Int) := big (bank + 1) hbk3
 have hm1 : (bank : Int) * (h : Int) = (lo : Int) := by rw [<- hlo]; exact (Int.natCast_mul bank h).symm
 have hm2 : ((bank + 1 : Nat) : Int) * (h : Int) = (hi : Int) := by rw [<- hhi]; exact (Int.natCast_mul (bank + 1) h).symm
 have q1 : wrap64 ((bank : Int) * (h : Int)) = (lo : Int) := by rw [hm1]; exact big lo hlo3
 have q2 : wrap64 (((bank + 1 : Nat) : Int) * (h : Int)) = (hi : Int) := by rw [hm2]; exact big hi hhi3
 have q3 : IntKind.i64.wrap ((bank : Int) * (h : Int)) = (lo : Int) := by rw [e0]; exact q1
 have q4 : IntKind.i64.wrap (IntKind.i64.wrap ((bank : Int) + 1) * (h : Int)) = (hi : Int) := by rw [e0, e0, hw1']; exact q2
 rw [hlo]
 rw [hml] at hsl
 have Hh := Lib.hid hh
 have Hlp := Lib.hid hlp
 clear big hlo3 hhi3 hbk3 hm1 hm2 e0 hlo hhi hlh hlo2 ha hjc hj1 hrow hbk hl hpart hlp hml hh
 generalize (l.drop lo).take h = L at *
 refine (callsIn_wide (n := 4)).1 ?_
 refine callsIn_of_wp_marks Tryz.func106 rfl trivial ?_ rfl
 simp only [Tryz.ntmps106, List.size_toArray, List.length_cons, List.length_nil, Nat.reduceAdd, Nat.reduceSub, Array.replicate_succ, Array.replicate_zero, List.push_toArray, List.append_toArray, List.nil_append, List.cons_append]
 gi_wp2_with fail
 refine wpIn_wide.2 ?_
 go_region_held3 (fun w' => w'.cell? ⟨ab, 0, none⟩ = some (.slice (some ⟨g, o, none⟩) l.length c) /\ w'.cell? ⟨jc, 0, none⟩ = some (.pointer (some ⟨jb, 0, none⟩)) /\ w'.cell? ⟨jb, 1, none⟩ = some (.int .i64 (h : Int))) (go_keep)
  (first | (go_at_call 107; refine (jrecords_any w1.drew (some ⟨g, o + lo, none⟩) h (c - lo)).mono ?_; rintro e w3 ⟨rfl, hb3, hB3⟩; have v0 := (hB3.cell (p := ⟨ab, 0, none⟩) n0).trans y0; have v1 := (hB3.cell (p := ⟨jc, 0, none⟩) n1).trans y1; have v2 := (hB3.cell (p := ⟨jb, 1, none⟩) n2).trans y2))
 have hs2 : w1.drew.heap.size = w.heap.size + 1 := hs1
 rw [hs2] at hb3 hB3
 have hBw : Below w.heap.size w w3 := hB1.drew.trans (hB3.mono (Nat.le_succ _))
 have hB3' : Below w1.heap.size w1 w3 := by
  rw [hs1]
  exact ⟨hB3.os, hB3.tape, hB3.output, hB3.size, hB3.block⟩
 have hx3 : Blk w3 w.heap.size 3 #[.int .i64 0] := hx1.below hB3' (by omega)
 have hp3 : RowAt w3 g (o + lo) (c - lo) L := hp1.below hB3'
 clear hsl v0 v1 v2 y0 y1 y2 n0 n1 n2 hw1' q1 q2 q3 q4
 gi_wp2_with fail
 have hle : w.heap.size <= w3.heap.size := hBw.size
 refine wpIn_rangeFunc_steps2 rfl (by decide) (gf := 147) (lb := #[.pointer (some ⟨w.heap.size + 1, 0, none⟩)]) rfl trivial (enters_of Tryz.func147 (by kernel_rfl) rfl)
  (jrecords1_seq 3 (by decide) (w.heap.size + 1) g (o + lo) (c - lo) L (by have := Hlp.out; have := Hh.out; omega)) (fun _ => rfl)
  (Finding w w.heap.size (w.heap.size + 1) g (o + lo) (c - lo) L) (Found w w.heap.size (rowsOf L)) (finding_own _ hle (by have := Hlp.out; have := Hh.out; omega)) (fun _ => found_own _ hle)
  (fun pre W1 hI => ⟨hI.2.1, hI.2.2.1⟩) (fun pre x _ W W' row h hg hr => h)
  ⟨rfl, by rw [Hlp.out]; exact hb3, hp3, hx3, hBw⟩
  (fun _ x a₁ W => ∃ (k : Nat), a₁ = { tmps := #[.int .i64 (bank : Int), .pointer (some ⟨ab, 0, none⟩), .pointer (some ⟨jc, 0, none⟩), undef, .pointer (some ⟨w.heap.size, 0, none⟩), undef, .pointer (some ⟨k, 0, none⟩), .slice (some ⟨g, o, none⟩) l.length c, .int .i64 (bank : Int), .pointer (some ⟨jb, 0, none⟩), .pointer (some ⟨jb, 0, none⟩), .pointer (some ⟨jb, 1, none⟩), .int .i64 (h : Int), .int .i64 (lo : Int), .int .i64 (bank : Int), .int .i64 (wrap64 ((bank : Int) + 1)), .pointer (some ⟨jb, 0, none⟩), .pointer (some ⟨jb, 0, none⟩), .pointer (some ⟨jb, 1, none⟩), .int .i64 (h : Int), .int .i64 (hi : Int), .slice (some ⟨g, o + lo, none⟩) h (c - lo), .func (.func 147) #[] #[.pointer (some ⟨w.heap.size + 1, 0, none⟩)], .int .i64 (x.1 : Int), .agg #[.int .i64 (x.2.1 : Int), .string ⟨x.2.2.toArray⟩], undef, undef], defers := [] } /\ Blk W k 134 #[.int .i64 (x.2.1 : Int), .string ⟨x.2.2.toArray⟩]) ?has ?assign ?body ?done ?stop
 case has =>
  rintro pre x a₁ _ W W' row ⟨k, e, hk⟩ hg hr
  exact ⟨k, e, hk.grown hg (blk_row hk (fun r e => (hr r e).2))⟩
 case assign =>
  rintro lv pre ⟨z, N, T⟩ W K hW _ hK
  have HK := Lib.hid hK
  clear hK
  dsimp only [recV]
  gi_wp2
  exact HK.out _ _ ⟨W.heap.size, rfl, Blk.new _ _ _⟩ ((Below.refl _ _).alloc (Nat.le_refl _) _)
 case body =>
  rintro lv pre ⟨z, N, T⟩ _ W hW ⟨rfl, j2, j3, j4, j5⟩ hnx ⟨k, rfl, hk⟩
  have hf : firstNo (rowsOf L) = N := by
   unfold firstNo
   rw [List.head?_eq_getElem?]
   have e : (recs (rowsOf L))[0]? = some (z, N, T) := hnx
   rw [e]
   rfl
  have c0 : W.cell? ⟨w.heap.size, 0, none⟩ = some (.int .i64 0) := j4.cell 0
  have f0 := j4.frozen 0
  have c1 : W.cell? ⟨k, 0, none⟩ = some (.int .i64 (N : Int)) := hk.cell 0
  dsimp only
  gi_wp2
  exact ⟨KeepsOthers.setCell _ _ _, rfl, by rw [hf]; exact j4.set_ 0 _, j5.setCell (p := ⟨w.heap.size, 0, none⟩) (Nat.le_refl _) _, rfl⟩
 case done =>
  rintro E xs W hE hxs ⟨rfl, j2, j3, j4, j5⟩ hK
  have hf : firstNo (rowsOf L) = 0 := by
   unfold firstNo
   have e : recs (rowsOf L) = [] := hxs.symm
   rw [e]
   rfl
  have c0 : W.cell? ⟨w.heap.size, 0, none⟩ = some (.int .i64 0) := j4.cell 0
  have f0 := j4.frozen 0
  gi_wp2
  have hK2 := (KeepsOthers.setCell W ⟨w.heap.size, 0, none⟩ (.int .i64 0)).same E _ hK rfl
  refine ⟨by simp, .inl ⟨_, _, rfl, run_takeDeferred hK2, ?_⟩⟩
  have q2 := j4.set_ 0 (.int .i64 0)
  have hgp := grownBy_putObj' (W.setCell ⟨w.heap.size, 0, none⟩ (.int .i64 0)) E (.deferred none)
  have hrr : ∀ r, some E = some r -> ∃ o : Obj, (W.setCell ⟨w.heap.size, 0, none⟩ (.int .i64 0)).heap[r]? = some o /\ o.isCells = false := fun r e => by cases e; exact ⟨_, hK2, rfl⟩
  refine ⟨_, results_int rfl _ _ w.heap.size _ rfl ((q2.grown hgp (blk_row q2 hrr)).cell 0), by rw [hf]; rfl, below_own (j5.setCell (p := ⟨w.heap.size, 0, none⟩) (Nat.le_refl _) _) (Nat.le_refl _) hgp (fun r e => by cases e; omega)⟩
 case stop =>
  rintro E _ pre W hE ⟨rfl, j4, j5, _⟩ hK
  gi_wp2
  refine ⟨by simp, .inl ⟨_, _, rfl, run_takeDeferred hK, ?_⟩⟩
  have hgp := grownBy_putObj' W E (.deferred none)
  have hrr : ∀ r, some E = some r -> ∃ o : Obj, W.heap[r]? = some o /\ o.isCells = false := fun r e => by cases e; exact ⟨_, hK, rfl⟩
  exact ⟨_, results_int rfl _ _ w.heap.size _ rfl ((j4.grown hgp (blk_row j4 hrr)).cell 0), rfl, below_own j5 (Nat.le_refl _) hgp (fun r e => by cases e; omega)⟩
end
end Go.Proofs.YtpghocekofdpbaaGreatDoor
