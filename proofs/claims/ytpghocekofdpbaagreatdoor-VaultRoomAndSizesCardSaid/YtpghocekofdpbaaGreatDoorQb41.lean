import Derived.Test.YtpghocekofdpbaaGreatDoorQb22
import Derived.Test.YtpghocekofdpbaaGreatDoorQb16
import Derived.Test.YtpghocekofdpbaaGreatDoorQb21
import Derived.Test.YtpghocekofdpbaaGreatDoorQb02
import Derived.Shelf.Abstract
import Derived.Shelf.RegionOpen
import Derived.OwnWalkIn
import Derived.TacticsInMore
import Derived.LoopNIn
import Derived.LoopIn
import Derived.Test.YtpghocekofdpbaaGreatDoorQb00
import Derived.Test.YtpghocekofdpbaaGreatDoorQb03
import Derived.RangeFuncBox
import Derived.Deep.RegionHeld3
import Derived.Deep.AppendLies
namespace Go.Proofs.YtpghocekofdpbaaGreatDoor
open Go.RowKit Go.Shelf
open Sec (joinL joinE joinV StrsAt)
attribute [local go_sem] Oper.semAt_some
def rowsOf (l : List ByteArray) : Rows8 := l.map fun s => s.data.toList
def recV (x : Nat × Nat × List UInt8) : Array Value := #[.int .i64 (x.1 : Int), .agg #[.int .i64 (x.2.1 : Int), .string ⟨x.2.2.toArray⟩]]
def RowAt (W : World) (g o c : Nat) (l : List ByteArray) : Prop := g < W.heap.size /\ l.length <= c /\ c <= maxLen /\ ∀ i t, l[i]? = some t -> W.cell? ⟨g, o + i, none⟩ = some (.string t)
theorem RowAt.below {W W' : World} {g o c : Nat} {l : List ByteArray} (h : RowAt W g o c l) (hB : Below W.heap.size W W') : RowAt W' g o c l :=
 ⟨Nat.lt_of_lt_of_le h.1 hB.size, h.2.1, h.2.2.1, fun i t ht => (hB.cell (p := ⟨g, o + i, none⟩) h.1).trans (h.2.2.2 i t ht)⟩
theorem RowAt.strs {W : World} {g o c u : Nat} {l : List ByteArray} (h : RowAt W g o c l) (hu : u < l.length) : StrsAt W (.slice (some ⟨g, o + u, none⟩) (l.length - u) (c - u)) (l.drop u) := by
 obtain ⟨h1, h2, h3, h4⟩ := h
 refine ⟨_, c - u, by rw [List.length_drop], by rw [List.length_drop]; omega, by omega, fun _ => ⟨g, o + u, rfl, h1, fun i t ht => ?_⟩⟩
 rw [List.getElem?_drop] at ht
 rw [Nat.add_assoc]
 exact h4 _ t ht
theorem rows_drop (l : List ByteArray) (u : Nat) : joinE (l.drop u) = joinL ((rowsOf l).drop u) := by
 unfold joinE rowsOf
 rw [List.map_drop]
theorem slice_from (g o c n u : Nat) (hu : u < n) (hc : n <= c) (w : World) : (Instr.slice 35 (.slice (some ⟨g, o, none⟩) n c) (some (.int .i64 (u : Int))) none none).run Tryz.prog w = .ok (.slice (some ⟨g, o + u, none⟩) (n - u) (c - u)) w := by
 have e1 : ¬ n < u := by omega
 have e2 : ¬ c < u := by omega
 have e3 : u <= n := by omega
 have e4 : ¬ c = u := by omega
 simp [go_sem, e3, e4]
def SeesBank (bb g o c : Nat) (l : List ByteArray) (_pre : List (Nat × Nat × List UInt8)) (W : World) : Prop :=
 Blk W bb 35 #[.slice (some ⟨g, o, none⟩) l.length c] /\ RowAt W g o c l
set_option maxRecDepth 100000 in
set_option maxHeartbeats 4000000 in
theorem jrecords1_seq (m : Nat) (hm : 1 <= m) (bb g o c : Nat) (l : List ByteArray) (hl : l.length <= 4096) :
  SeqSteps Fence.wide m Tryz.prog 147 #[.pointer (some ⟨bb, 0, none⟩)] recV (SeesBank bb g o c l) (fun pre x _ => (recs (rowsOf l))[pre.length]? = some x) (fun xs => xs = recs (rowsOf l)) := by
 intro lv J Jx W hG hJ hJx hY h0
 have HG := Lib.hid hG
 have HJ := Lib.hid hJ
 have HJx := Lib.hid hJx
 have HY := Lib.hid hY
 clear hG hJ hJx hY
 have hlr : (rowsOf l).length = l.length := List.length_map ..
 refine callsIn_of_wp Tryz.func147 rfl trivial ?_ rfl
 simp only [Tryz.ntmps147, List.size_toArray, List.length_cons, List.length_nil, Nat.reduceAdd, Nat.reduceSub, Array.replicate_succ, Array.replicate_zero, List.push_toArray, List.append_toArray, List.nil_append, List.cons_append]
 gi_wp2_with fail
 gi_loopw [3, 4] (fun a b wr => ∃ (u la : Nat) (pre : List (Nat × Nat × List UInt8)), a = .int .i64 u /\ b = .int .i64 la /\ Hid (Path (rowsOf l) 0 0 pre u la) /\ J pre wr) (fun a _ _ => l.length - (intOf a).toNat)
 case atStart => exact ⟨0, 0, [], rfl, rfl, .nil _ _, h0⟩
 case round =>
  obtain ⟨u, la, pre, rfl, rfl, hp, hJk⟩ := hrel
  obtain ⟨hbb, hrow⟩ := HG.out pre wr hJk
  have c1 : wr.cell? ⟨bb, 0, none⟩ = some (.slice (some ⟨g, o, none⟩) l.length c) := hbb.cell 0
  have hul : u <= l.length := by have := path_to hp.out; rw [hlr] at this; omega
  by_cases hlt : u < l.length
  ·have hd1 : decide (u < l.length) = true := decide_eq_true hlt
   have hsl := fun wx => slice_from g o c l.length u hlt hrow.2.1 wx
   have hjn := Sec.Join_any (hrow.strs hlt)
   rw [rows_drop] at hjn
   have hus := fun h => join_used (l := (rowsOf l).drop u) h
   rw [List.length_drop, hlr] at hus
   have hra : Hid (recAt (rowsOf l) u la = if (joinL ((rowsOf l).drop u)).e = 0 /\ la < (joinL ((rowsOf l).drop u)).number then some (u + (joinL ((rowsOf l).drop u)).used, (joinL ((rowsOf l).drop u)).number, (joinL ((rowsOf l).drop u)).text) else none) := by
    unfold Hid recAt
    by_cases hc : (joinL ((rowsOf l).drop u)).e = 0 /\ la < (joinL ((rowsOf l).drop u)).number
    ·rw [if_pos hc, if_pos ⟨by rw [hlr]; exact hlt, hc⟩]
    ·rw [if_neg hc, if_neg (fun k => hc k.2)]
   generalize joinL ((rowsOf l).drop u) = R at hjn hus hra
   obtain ⟨N, T, U, E⟩ := R
   have HJn := Lib.hid (callsIn_wide (n := m - 1) |>.2 hjn)
   unfold joinV at HJn
   dsimp only at hus hra HJn
   clear hjn hrow hbb
   by_cases he : E = 0
   ·subst he
    have hus2 := hus rfl
    by_cases hla : la < N
    ·obtain ⟨z, hz⟩ : ∃ z, u + U = z := ⟨_, rfl⟩
     have hx : recAt (rowsOf l) u la = some (z, N, T) := by rw [hra.out, if_pos ⟨rfl, hla⟩, hz]
     have hnx := Lib.hid (recs_next hp.out hx)
     have hpn := Lib.hid (path_snoc hp.out hx)
     have dn : decide ((N : Int) <= (la : Int)) = false := decide_eq_false (by omega)
     have dn' : decide (N <= la) = false := decide_eq_false (by omega)
     have du : decide ((U : Int) < 1) = false := decide_eq_false (by omega)
     have du' : decide (U < 1) = false := decide_eq_false (by omega)
     have hwu : wrap64 ((u : Int) + (U : Int)) = (z : Int) := by rw [<- hz]; exact wrap_sum (by omega)
     have Hz := Lib.hid (And.intro hz hus2)
     clear hz
     clear hx hra hus hus2 hla
     gi_wp2_with (refine ⟨trivial, ?_⟩; gi_at_call 148; refine HJn.out.mono ?_; rintro e w2 ⟨rfl, hB2⟩; obtain ⟨fn, tmps, assign, body, hy, hR⟩ := HY.out pre (z, N, T) w2 (HJ.out pre wr w2 hJk hB2) hnx.out; have HR := Lib.hid hR; clear hR; dsimp only [recV] at hy)
     refine HR.out.mono ?_
     rintro e W' (⟨rfl, hJ'⟩ | ⟨rfl, hJ'⟩)
     ·gi_wp2
      go_roundw
      case rel => exact ⟨z, N, _, by go_num, rfl, hpn.out, hJ'⟩
      case measure => have := Hz.out; simp [intOf]; omega
     ·gi_wp2
      (try simp only [Exit.inBlock, Exit.then])
      refine bodyPost_ret (results_none rfl _ _ _) rfl ?_
      exact ⟨⟨_, rfl⟩, .inr ⟨_, hJ'⟩⟩
    ·have hend : recAt (rowsOf l) u la = none := by rw [hra.out, if_neg (fun k => hla k.2)]
     have hre := Lib.hid (recs_end hp.out hend)
     have dn : decide ((N : Int) <= (la : Int)) = true := decide_eq_true (by omega)
     have dn' : decide (N <= la) = true := decide_eq_true (by omega)
     clear hend hra hus hus2 hla
     gi_wp2_with (refine ⟨trivial, ?_⟩; gi_at_call 148; refine HJn.out.mono ?_; rintro e w2 ⟨rfl, hB2⟩)
     (try simp only [Exit.inBlock, Exit.then])
     refine bodyPost_ret (results_none rfl _ _ _) rfl ?_
     exact ⟨⟨_, rfl⟩, .inl ⟨_, hre.out.symm, HJ.out pre wr w2 hJk hB2⟩⟩
   ·have hend : recAt (rowsOf l) u la = none := by rw [hra.out, if_neg (fun k => he k.1)]
    have hre := Lib.hid (recs_end hp.out hend)
    have de : (E == 0) = false := by simpa using he
    have df : (E != 0) = true := by simpa using he
    clear hend hra hus
    gi_wp2_with (refine ⟨trivial, ?_⟩; gi_at_call 148; refine HJn.out.mono ?_; rintro e w2 ⟨rfl, hB2⟩)
    (try simp only [Exit.inBlock, Exit.then])
    refine bodyPost_ret (results_none rfl _ _ _) rfl ?_
    exact ⟨⟨_, rfl⟩, .inl ⟨_, hre.out.symm, HJ.out pre wr w2 hJk hB2⟩⟩
  ·have hd1 : decide (u < l.length) = false := decide_eq_false hlt
   have hend : recAt (rowsOf l) u la = none := by
    unfold recAt
    rw [if_neg (fun k => hlt (by rw [<- hlr]; exact k.1))]
   have hre := recs_end hp.out hend
   gi_wp2_with fail
   go_end0
   exact ⟨⟨_, rfl⟩, .inl ⟨_, hre.symm, hJk⟩⟩
end Go.Proofs.YtpghocekofdpbaaGreatDoor
namespace Go.Proofs.YtpghocekofdpbaaGreatDoor
open Go.RowKit Go.Shelf
attribute [local go_sem] Oper.semAt_some
set_option maxRecDepth 100000 in
set_option maxHeartbeats 1600000 in
theorem jrecords_any (w : World) (A : Option Addr) (n c : Nat) : Calls Tryz.prog 107 #[.slice A n c] w fun e w' => e = .returned (.func (.func 147) #[] #[.pointer (some ⟨w.heap.size, 0, none⟩)]) /\ Blk w' w.heap.size 35 #[.slice A n c] /\ Below w.heap.size w w' := by
 go_enter Tryz.func107, Tryz.ntmps107
 go_wp2_with fail
 go_ret
 exact ⟨rfl, Blk.new _ _ _, (Below.refl _ _).alloc (Nat.le_refl _) _⟩
end Go.Proofs.YtpghocekofdpbaaGreatDoor
namespace Go.Proofs.YtpghocekofdpbaaGreatDoor
open Go.RowKit Go.Shelf
attribute [local go_sem] Oper.semAt_some
theorem entCells_at : ∀ (l : List (Nat × ByteArray)) (k : Nat) (e : Nat × ByteArray), l[k]? = some e -> (entCells l)[k * 2]? = some (.int .i64 (e.1 : Int)) /\ (entCells l)[k * 2 + 1]? = some (.string e.2)
 | [], k, e, h => by simp at h
 | x :: r, 0, e, h => by
  simp at h
  subst h
  exact ⟨rfl, rfl⟩
 | x :: r, k + 1, e, h => by
  have ih := entCells_at r k e (by simpa using h)
  have e1 : entCells (x :: r) = .int .i64 (x.1 : Int) :: .string x.2 :: entCells r := rfl
  rw [e1, show (k + 1) * 2 = k * 2 + 1 + 1 by omega, show k * 2 + 1 + 1 + 1 = (k * 2 + 1) + 1 + 1 by omega]
  simpa using ih
section
variable {w : World} {a : DAt} {jb h : Nat} {J : Jrn} {v : Value}
set_option maxRecDepth 100000 in
set_option maxHeartbeats 4000000 in
theorem jRecords_any (kj : JIs w jb a h J v) (hN : J.l.length <= 1048576) :
  Calls Tryz.prog 66 #[.pointer (some ⟨jb, 0, none⟩)] w fun e w' => ∃ u, e = .returned u /\ NewTexts w w' u (J.l.map Prod.snd) := by
 obtain ⟨i0, hi, hz0, hz1, hz2⟩ := info_parts infoString
 obtain ⟨L, hL⟩ : ∃ L, J.l = L := ⟨_, rfl⟩
 have hrow := kj.row
 rw [hL] at hN hrow ⊢
 obtain ⟨A, c, rfl⟩ := Sec.ownsRow_slice hrow
 have c5 : w.cell? ⟨jb, 5, none⟩ = some (.slice A L.length c) := kj.blk.cell 5
 have Hr := Lib.hid hrow
 have Hjb := Lib.hid kj.lt
 clear kj hrow hL
 go_enter Tryz.func66, Tryz.ntmps66
 go_wp2_with fail
 go_loopw [3, 11] (fun u i wr => ∃ (k : Nat) (u0 : Value), u0 = u /\ k <= L.length /\ i = .int .i64 k /\ wr.ownsRow w.heap.size 9 1 u0 k (strCells ((L.map Prod.snd).take k)) /\ (u0 = .slice none 0 0 ↔ k = 0) /\ Below w.heap.size w wr) (fun _ i _ => L.length - (intOf i).toNat)
 case atStart => exact ⟨0, _, rfl, Nat.zero_le _, rfl, World.ownsRow_nil _ _ _ _, by simp, Below.refl _ _⟩
 case round =>
  obtain ⟨k, u, rfl, hk, rfl, hown, hnil, hB⟩ := hrel
  have hBs := hB.size
  have hwk : wrap64 ((k : Int) + 1) = (k : Int) + 1 := by unfold wrap64; omega
  by_cases hkl : k < L.length
  ·have hd1 : decide (k < L.length) = true := decide_eq_true hkl
   obtain ⟨e, he⟩ : ∃ e, L[k]? = some e := ⟨_, List.getElem?_eq_getElem hkl⟩
   obtain ⟨g, rfl⟩ : ∃ g, A = some ⟨g, 0, none⟩ := by
    rcases Hr.out.2 with ⟨_, h1⟩ | ⟨g, _, _, h0, _⟩
    ·omega
    ·cases h0; exact ⟨g, rfl⟩
   obtain ⟨q0, q1⟩ := entCells_at L k e he
   have hrw := ownsRow_below Hr.out hB (Nat.le_refl _)
   have y0 : wr.cell? ⟨g, k * 2, none⟩ = some (.int .i64 (e.1 : Int)) := (World.ownsRow.cellAt hrw (k * 2) (by omega)).trans q0
   have y1 : wr.cell? ⟨g, k * 2 + 1, none⟩ = some (.string e.2) := (World.ownsRow.cellAt hrw (k * 2 + 1) (by omega)).trans q1
   have hle : Hid (k + 1 <= maxLen) := by unfold Hid maxLen; omega
   have htk : Hid ((L.map Prod.snd).take (k + 1) = (L.map Prod.snd).take k ++ [e.2]) := by
    unfold Hid
    rw [List.take_add_one]; simp [he]
   clear he q0 q1 hrw
   go_wp2_with (at_builtin; refine wpList_append_own _ rfl _ _ 35 rfl w.heap.size 9 i0 _ 1 16 Tryz.underlying35 hi hz0 hz1 hz2 rfl (by decide) _ k (strCells ((L.map Prod.snd).take k)) rfl ((hown.alloc _).alloc _) ⟨wr.heap.size + 1, 0, none⟩ 1 1 [.string e.2] rfl rfl ?c1 ?c2 ?c3 ?c4 ?c5 ?_)
   case c1 =>
    have := news_cells (Blk.new (wr.alloc (.cells #[.int .i64 (e.1 : Int), .string e.2] 134)) 9 #[.string e.2])
    rw [World.size_alloc] at this
    exact this
   case c2 => simp [Value.oneCell']
   case c3 => exact hle.out
   case c4 => omega
   case c5 => simp; omega
   intro v' w3 hown3 hg3 hn3
   have hB3 : Below w.heap.size w w3 := (((hB.alloc (by omega) _).alloc (by simp; omega) _)).grown hg3 (by simp; omega) (fun g e => (hown.lt g e).1)
   have hnil3 : v' = .slice none 0 0 ↔ k + 1 = 0 := ⟨fun e => (hn3 e).elim, fun e => by omega⟩
   have hown4 : w3.ownsRow w.heap.size 9 1 v' (k + 1) (strCells ((L.map Prod.snd).take (k + 1))) := by
    rw [htk.out, strCells_snoc]; exact hown3
   clear hg3 hn3 hown3 hown hnil
   go_wp2_with fail
   go_roundw
   case rel => exact ⟨k + 1, _, rfl, by omega, by go_num, hown4, hnil3, hB3⟩
   case measure => exact meas_up hkl
  ·obtain rfl : k = L.length := by omega
   have hd1 : decide (L.length < L.length) = false := decide_eq_false hkl
   go_wp2_with fail
   go_ret
   have hn4 := hnil.trans (show L.length = 0 ↔ L.map Prod.snd = [] by simp)
   rw [List.take_of_length_le (by simp)] at hown
   exact ⟨_, rfl, by simpa using hown, hn4, hB⟩
end
end Go.Proofs.YtpghocekofdpbaaGreatDoor
namespace Go.Proofs.YtpghocekofdpbaaGreatDoor
open Go.RowKit Go.Shelf
attribute [local go_sem] Oper.semAt_some
section
variable {w : World} {a : DAt} {jb h : Nat} {J : Jrn} {v : Value}
set_option maxRecDepth 100000 in
set_option maxHeartbeats 4000000 in
theorem jNumbers_any (kj : JIs w jb a h J v) (hN : J.l.length <= 1048576) :
  Calls Tryz.prog 67 #[.pointer (some ⟨jb, 0, none⟩)] w fun e w' => ∃ u, e = .returned u /\ NewInts w w' u (J.l.map Prod.fst) := by
 obtain ⟨i0, hi, hz0, hz1, hz2⟩ := info_parts infoInt
 obtain ⟨L, hL⟩ : ∃ L, J.l = L := ⟨_, rfl⟩
 have hrow := kj.row
 rw [hL] at hN hrow ⊢
 obtain ⟨A, c, rfl⟩ := Sec.ownsRow_slice hrow
 have c5 : w.cell? ⟨jb, 5, none⟩ = some (.slice A L.length c) := kj.blk.cell 5
 have Hr := Lib.hid hrow
 have Hjb := Lib.hid kj.lt
 clear kj hrow hL
 go_enter Tryz.func67, Tryz.ntmps67
 go_wp2_with fail
 go_loopw [3, 11] (fun u i wr => ∃ (k : Nat) (u0 : Value), u0 = u /\ k <= L.length /\ i = .int .i64 k /\ wr.ownsRow w.heap.size 3 1 u0 k (intCells ((L.map Prod.fst).take k)) /\ (u0 = .slice none 0 0 ↔ k = 0) /\ Below w.heap.size w wr) (fun _ i _ => L.length - (intOf i).toNat)
 case atStart => exact ⟨0, _, rfl, Nat.zero_le _, rfl, World.ownsRow_nil _ _ _ _, by simp, Below.refl _ _⟩
 case round =>
  obtain ⟨k, u, rfl, hk, rfl, hown, hnil, hB⟩ := hrel
  have hBs := hB.size
  have hwk : wrap64 ((k : Int) + 1) = (k : Int) + 1 := by unfold wrap64; omega
  by_cases hkl : k < L.length
  ·have hd1 : decide (k < L.length) = true := decide_eq_true hkl
   obtain ⟨e, he⟩ : ∃ e, L[k]? = some e := ⟨_, List.getElem?_eq_getElem hkl⟩
   obtain ⟨g, rfl⟩ : ∃ g, A = some ⟨g, 0, none⟩ := by
    rcases Hr.out.2 with ⟨_, h1⟩ | ⟨g, _, _, h0, _⟩
    ·omega
    ·cases h0; exact ⟨g, rfl⟩
   obtain ⟨q0, q1⟩ := entCells_at L k e he
   have hrw := ownsRow_below Hr.out hB (Nat.le_refl _)
   have y0 : wr.cell? ⟨g, k * 2, none⟩ = some (.int .i64 (e.1 : Int)) := (World.ownsRow.cellAt hrw (k * 2) (by omega)).trans q0
   have y1 : wr.cell? ⟨g, k * 2 + 1, none⟩ = some (.string e.2) := (World.ownsRow.cellAt hrw (k * 2 + 1) (by omega)).trans q1
   have hle : Hid (k + 1 <= maxLen) := by unfold Hid maxLen; omega
   have htk : Hid ((L.map Prod.fst).take (k + 1) = (L.map Prod.fst).take k ++ [e.1]) := by
    unfold Hid
    rw [List.take_add_one]; simp [he]
   clear he q0 q1 hrw
   go_wp2_with (at_builtin; refine wpList_append_own _ rfl _ _ 30 rfl w.heap.size 3 i0 _ 1 8 Tryz.underlying30 hi hz0 hz1 hz2 rfl (by decide) _ k (intCells ((L.map Prod.fst).take k)) rfl ((hown.alloc _).alloc _) ⟨wr.heap.size + 1, 0, none⟩ 1 1 [.int .i64 (e.1 : Int)] rfl rfl ?c1 ?c2 ?c3 ?c4 ?c5 ?_)
   case c1 =>
    have := news_cells (Blk.new (wr.alloc (.cells #[.int .i64 (e.1 : Int), .string e.2] 134)) 3 #[.int .i64 (e.1 : Int)])
    rw [World.size_alloc] at this
    exact this
   case c2 => simp [Value.oneCell']
   case c3 => exact hle.out
   case c4 => omega
   case c5 => simp; omega
   intro v' w3 hown3 hg3 hn3
   have hB3 : Below w.heap.size w w3 := (((hB.alloc (by omega) _).alloc (by simp; omega) _)).grown hg3 (by simp; omega) (fun g e => (hown.lt g e).1)
   have hnil3 : v' = .slice none 0 0 ↔ k + 1 = 0 := ⟨fun e => (hn3 e).elim, fun e => by omega⟩
   have hown4 : w3.ownsRow w.heap.size 3 1 v' (k + 1) (intCells ((L.map Prod.fst).take (k + 1))) := by
    rw [htk.out, intCells_snoc]; exact hown3
   clear hg3 hn3 hown3 hown hnil
   go_wp2_with fail
   go_roundw
   case rel => exact ⟨k + 1, _, rfl, by omega, by go_num, hown4, hnil3, hB3⟩
   case measure => exact meas_up hkl
  ·obtain rfl : k = L.length := by omega
   have hd1 : decide (L.length < L.length) = false := decide_eq_false hkl
   go_wp2_with fail
   go_ret
   have hn4 := hnil.trans (show L.length = 0 ↔ L.map Prod.fst = [] by simp)
   rw [List.take_of_length_le (by simp)] at hown
   exact ⟨_, rfl, by simpa using hown, hn4, hB⟩
end
end Go.Proofs.YtpghocekofdpbaaGreatDoor
namespace Go.Proofs.YtpghocekofdpbaaGreatDoor
open Go.RowKit Go.Shelf
attribute [local go_sem] Oper.semAt_some
def entOf (x : Nat × Nat × List UInt8) : Nat × ByteArray := (x.2.1, ⟨x.2.2.toArray⟩)
def usedOf (xs : List (Nat × Nat × List UInt8)) : Nat := (xs.getLast?.map fun x => x.1).getD 0
theorem recsF_len (B : Rows8) : ∀ (f u last : Nat), (recsF f B u last).length <= f
 | 0, _, _ => Nat.le_refl _
 | f + 1, u, last => by
  show (match recAt B u last with | none => [] | some x => x :: recsF f B x.1 x.2.1).length <= f + 1
  cases recAt B u last with
  | none => exact Nat.zero_le _
  | some x => exact Nat.succ_le_succ (recsF_len B f _ _)
theorem recs_len (B : Rows8) : (recs B).length <= B.length + 1 := recsF_len B _ _ _
theorem usedOf_snoc (pre : List (Nat × Nat × List UInt8)) (x : Nat × Nat × List UInt8) : usedOf (pre ++ [x]) = x.1 := by simp [usedOf]
theorem entCells_snoc2 (pre : List (Nat × Nat × List UInt8)) (x : Nat × Nat × List UInt8) : entCells ((pre ++ [x]).map entOf) = entCells (pre.map entOf) ++ [.int .i64 (x.2.1 : Int), .string ⟨x.2.2.toArray⟩] := by
 rw [List.map_append]
 unfold entCells
 rw [List.flatMap_append]
 rfl
theorem blk_row {W : World} {row : Option Nat} {k : Nat} {t : TypeId} {cs : Array Value} (hk : Blk W k t cs) (hr : ∀ r, row = some r -> ∃ o : Obj, W.heap[r]? = some o /\ o.isCells = false) : some k ≠ row := by
 intro e
 obtain ⟨o, ho, hc⟩ := hr k e.symm
 unfold Blk at hk
 rw [hk] at ho
 cases ho
 cases hc
theorem ownsRow_grown {W W' : World} {row : Option Nat} {base sz n : Nat} {e : TypeId} {v : Value} {cs : List Value} (h : W.ownsRow base e sz v n cs) (hg : W.grownBy W' row) (hr : ∀ r, row = some r -> ∃ o : Obj, W.heap[r]? = some o /\ o.isCells = false) : W'.ownsRow base e sz v n cs := by
 obtain ⟨hl, ⟨rfl, h0⟩ | ⟨g, cap, cur, rfl, h1, h2, h3⟩⟩ := h
 ·exact ⟨hl, .inl ⟨rfl, h0⟩⟩
 ·have hk : Blk W g e cur := h2
  exact ⟨hl, .inr ⟨g, cap, cur, rfl, h1, hk.grown hg (blk_row hk hr), h3⟩⟩
def Taking (w : World) (bx bb jb g o c : Nat) (l : List ByteArray) (f0 f1 f4 f6 f7 : Value) (bank : Nat) (pre : List (Nat × Nat × List UInt8)) (W : World) : Prop :=
 Blk W bx 76 #[.pointer (some ⟨jb, 0, none⟩)] /\ Blk W bb 35 #[.slice (some ⟨g, o, none⟩) l.length c] /\ RowAt W g o c l /\
  (∃ u, Blk W jb 126 #[f0, f1, .int .i64 bank, .int .i64 (usedOf pre : Int), f4, u, f6, f7] /\ W.ownsRow w.heap.size 134 2 u pre.length (entCells (pre.map entOf))) /\ w.grownBy W (some jb)
section
variable {w : World} {bx bb jb g o c bank : Nat} {l : List ByteArray} {f0 f1 f4 f6 f7 : Value}
theorem rowAt_grown {W W' : World} {row : Option Nat} (h : RowAt W g o c l) (hg : W.grownBy W' row) (hr : some g ≠ row) : RowAt W' g o c l :=
 ⟨Nat.lt_of_lt_of_le h.1 hg.size, h.2.1, h.2.2.1, fun i t ht => hg.cell (h.2.2.2 i t ht) hr⟩
theorem rowAt_row {W : World} {row : Option Nat} (h : RowAt W g o c l) (h0 : 0 < l.length) (hr : ∀ r, row = some r -> ∃ o : Obj, W.heap[r]? = some o /\ o.isCells = false) : some g ≠ row := by
 intro e
 obtain ⟨ob, h1, h2⟩ := hr g e.symm
 have h3 := h.2.2.2 0 l[0] (List.getElem?_eq_getElem h0)
 unfold World.cell? at h3
 rw [h1] at h3
 cases ob <;> first | (simp [Obj.isCells] at h2; done) | (simp at h3; done)
theorem taking_app {V w4 : World} {u : Value} {k g2 cap z N n : Nat} {T : ByteArray} {cs : List Value} (hg : g < w.heap.size) (_hjb : jb < w.heap.size) (hbx : bx ≠ jb) (hbb : bb ≠ jb) (hgj : g ≠ jb) (hkj : k ≠ jb) (hok : u.ownBlock ≠ some k)
  (k1 : Blk V bx 76 #[.pointer (some ⟨jb, 0, none⟩)]) (k2 : Blk V bb 35 #[.slice (some ⟨g, o, none⟩) l.length c]) (k3 : RowAt V g o c l) (k4 : Blk V jb 126 #[f0, f1, .int .i64 bank, .int .i64 z, f4, u, f6, f7]) (k5 : V.ownsRow w.heap.size 134 2 u n cs)
  (k6 : w.grownBy V (some jb)) (kk : Blk V k 134 #[.int .i64 N, .string T])
  (hown : w4.ownsRow w.heap.size 134 2 (.slice (some ⟨g2, 0, none⟩) (n + 1) cap) (n + 1) (cs ++ [.int .i64 N, .string T])) (hgrow : (V.drew.alloc (.cells #[.int .i64 N, .string T] 134)).grownBy w4 u.ownBlock) :
  Blk w4 jb 126 #[f0, f1, .int .i64 bank, .int .i64 z, f4, u, f6, f7] /\ Blk w4 bx 76 #[.pointer (some ⟨jb, 0, none⟩)] /\ Blk w4 k 134 #[.int .i64 N, .string T] /\
  Blk (w4.setCell ⟨jb, 5, none⟩ (.slice (some ⟨g2, 0, none⟩) (n + 1) cap)) bx 76 #[.pointer (some ⟨jb, 0, none⟩)] /\ Blk (w4.setCell ⟨jb, 5, none⟩ (.slice (some ⟨g2, 0, none⟩) (n + 1) cap)) k 134 #[.int .i64 N, .string T] /\
  Blk (w4.setCell ⟨jb, 5, none⟩ (.slice (some ⟨g2, 0, none⟩) (n + 1) cap)) bb 35 #[.slice (some ⟨g, o, none⟩) l.length c] /\ RowAt (w4.setCell ⟨jb, 5, none⟩ (.slice (some ⟨g2, 0, none⟩) (n + 1) cap)) g o c l /\
  Blk (w4.setCell ⟨jb, 5, none⟩ (.slice (some ⟨g2, 0, none⟩) (n + 1) cap)) jb 126 #[f0, f1, .int .i64 bank, .int .i64 z, f4, .slice (some ⟨g2, 0, none⟩) (n + 1) cap, f6, f7] /\
  (w4.setCell ⟨jb, 5, none⟩ (.slice (some ⟨g2, 0, none⟩) (n + 1) cap)).ownsRow w.heap.size 134 2 (.slice (some ⟨g2, 0, none⟩) (n + 1) cap) (n + 1) (cs ++ [.int .i64 N, .string T]) /\
  w.grownBy (w4.setCell ⟨jb, 5, none⟩ (.slice (some ⟨g2, 0, none⟩) (n + 1) cap)) (some jb) /\ KeepsOthers V (w4.setCell ⟨jb, 5, none⟩ (.slice (some ⟨g2, 0, none⟩) (n + 1) cap)) := by
 have gV : V.grownBy (V.drew.alloc (.cells #[.int .i64 N, .string T] 134)) u.ownBlock := by
  have h := World.grownBy_alloc V.drew (.cells #[.int .i64 N, .string T] 134) u.ownBlock
  exact ⟨h.os, h.tape, h.output, h.size, h.block⟩
 have gA := gV.trans hgrow
 have q1 := k1.grown gA (own_blk_ne k5 k1 (by decide)).symm
 have q2 := k2.grown gA (own_blk_ne k5 k2 (by decide)).symm
 have q3 := rowAt_grown k3 gA (fun e => by have := (k5.lt _ e.symm).1; omega)
 have q4 := k4.grown gA (own_blk_ne k5 k4 (by decide)).symm
 have qk := kk.grown gA hok.symm
 have gs := grown_set w4 jb 5 (.slice (some ⟨g2, 0, none⟩) (n + 1) cap)
 refine ⟨q4, q1, qk, q1.grown gs (by simp; exact hbx), qk.grown gs (by simp; exact hkj), q2.grown gs (by simp; exact hbb), rowAt_grown q3 gs (by simp; exact hgj), q4.set_ 5 _, hown.kept gs (.inr (own_blk_ne hown q4 (by decide))), ?_, ?_⟩
 ·exact (k6.andThen gA (fun j e => .inl (k5.lt j e).1)).trans gs
 ·refine (KeepsOthers.of_grownBy gA (fun j ob e ho => ?_)).trans (KeepsOthers.setCell _ _ _)
  obtain ⟨hl, ⟨rfl, h0⟩ | ⟨g3, cap3, cur, rfl, h1, h2, h3⟩⟩ := k5
  ·cases e
  ·cases e
   rw [h2] at ho
   cases ho
   rfl
theorem taking_own (B : Nat) (hB : w.heap.size <= B) (h0 : 0 < l.length) : OwnFrom B (Taking w bx bb jb g o c l f0 f1 f4 f6 f7 bank) := by
 rintro pre W W' row ⟨h1, h2, h3, ⟨u, h4, h5⟩, h6⟩ hg hr
 have hr2 := fun r e => (hr r e).2
 refine ⟨h1.grown hg (blk_row h1 hr2), h2.grown hg (blk_row h2 hr2), rowAt_grown h3 hg (rowAt_row h3 h0 hr2), ⟨u, h4.grown hg (blk_row h4 hr2), ownsRow_grown h5 hg hr2⟩, h6.andThen hg (fun j e => .inl (by have := (hr j e).1; omega))⟩
set_option maxRecDepth 100000 in
set_option maxHeartbeats 4000000 in
theorem jtake_any {n0 : Value} {u0 : Value} {n1 : Value} (hj : Blk w jb 126 #[f0, f1, n0, n1, f4, u0, f6, f7]) (hrow : RowAt w g o c l) (h0 : 0 < l.length) (hl : l.length <= 4096) (hgj : g ≠ jb) :
  Calls Tryz.prog 108 #[.pointer (some ⟨jb, 0, none⟩), .int .i64 bank, .slice (some ⟨g, o, none⟩) l.length c] w fun e w' =>
   (∃ v, e = .returned v) /\ ∃ u, Blk w' jb 126 #[f0, f1, .int .i64 bank, .int .i64 (usedOf (recs (rowsOf l)) : Int), f4, u, f6, f7] /\ w'.ownsRow w.heap.size 134 2 u (recs (rowsOf l)).length (entCells ((recs (rowsOf l)).map entOf)) /\ w.grownBy w' (some jb) := by
 obtain ⟨i0, hi, hz0, hz1, hz2⟩ := info_parts infoEnt
 have hB1 : Below w.heap.size w (w.alloc (.cells #[.pointer (some ⟨jb, 0, none⟩)] 76)) := (Below.refl _ w).alloc (Nat.le_refl _) _
 have hx1 := Blk.new w 76 #[.pointer (some ⟨jb, 0, none⟩)]
 obtain ⟨w1, hw1⟩ : ∃ w1, w.alloc (.cells #[.pointer (some ⟨jb, 0, none⟩)] 76) = w1 := ⟨_, rfl⟩
 have hs1 : w1.heap.size = w.heap.size + 1 := by rw [<- hw1]; simp
 rw [hw1] at hB1 hx1
 have hj1 := hj.below hB1 hj.lt
 have hrow1 := hrow.below hB1
 have hjlt := hj.lt
 have hg1 : w.grownBy w1 (some jb) := by rw [<- hw1]; exact World.grownBy_alloc _ _ _
 refine (callsIn_wide (n := 4)).1 ?_
 refine callsIn_of_wp_marks Tryz.func108 rfl trivial ?_ rfl
 simp only [Tryz.ntmps108, List.size_toArray, List.length_cons, List.length_nil, Nat.reduceAdd, Nat.reduceSub, Array.replicate_succ, Array.replicate_zero, List.push_toArray, List.append_toArray, List.nil_append, List.cons_append]
 have y0 : w1.cell? ⟨w.heap.size, 0, none⟩ = some (.pointer (some ⟨jb, 0, none⟩)) := hx1.cell 0
 have y2 : w1.cell? ⟨jb, 2, none⟩ = some n0 := hj1.cell 2
 have y3 : w1.cell? ⟨jb, 3, none⟩ = some n1 := hj1.cell 3
 have y5 : w1.cell? ⟨jb, 5, none⟩ = some u0 := hj1.cell 5
 have z2 := hj1.frozen 2
 have z3 := hj1.frozen 3
 have z5 := hj1.frozen 5
 have hne : jb ≠ w.heap.size := by omega
 gi_wp2_with fail
 refine wpIn_wide.2 ?_
 go_region_held3 (fun w' => w'.cell? ⟨w.heap.size, 0, none⟩ = some (.pointer (some ⟨jb, 0, none⟩))) (go_keep) (fail)
 have hj2 := (((hj1.set_ 2 (.int .i64 (bank : Int))).set_ 3 (.int .i64 0)).set_ 5 (.slice none 0 0)).drew
 have g2 := ((grown_set w1 jb 2 (.int .i64 (bank : Int))).trans (grown_set _ jb 3 (.int .i64 0))).trans (grown_set _ jb 5 (.slice none 0 0))
 have g3 : w1.grownBy (((w1.setCell ⟨jb, 2, none⟩ (.int .i64 (bank : Int))).setCell ⟨jb, 3, none⟩ (.int .i64 0)).setCell ⟨jb, 5, none⟩ (.slice none 0 0)).drew (some jb) := ⟨g2.os, g2.tape, g2.output, g2.size, g2.block⟩
 clear g2 y0 y2 y3 y5 z2 z3 z5
 generalize (((w1.setCell ⟨jb, 2, none⟩ (.int .i64 (bank : Int))).setCell ⟨jb, 3, none⟩ (.int .i64 0)).setCell ⟨jb, 5, none⟩ (.slice none 0 0)).drew = w2 at *
 have hx2 : Blk w2 w.heap.size 76 #[.pointer (some ⟨jb, 0, none⟩)] := hx1.grown g3 (by simp; omega)
 have hrow2 := rowAt_grown hrow1 g3 (by simp; exact hgj)
 have hg2 : w.grownBy w2 (some jb) := hg1.trans g3
 have hs2 : w.heap.size + 1 <= w2.heap.size := by rw [<- hs1]; exact g3.size
 gi_wp2_with (refine ⟨trivial, ?_⟩; gi_at_call 107; refine (callsIn_wide.2 (jrecords_any w2 (some ⟨g, o, none⟩) l.length c)).mono ?_; rintro e w3 ⟨rfl, hb3, hB3⟩)
 have hle : w.heap.size <= w3.heap.size := by have := hB3.size; omega
 refine wpIn_rangeFunc_steps2 rfl (by decide) (gf := 147) (lb := #[.pointer (some ⟨w2.heap.size, 0, none⟩)]) rfl trivial (enters_of Tryz.func147 (by kernel_rfl) rfl)
  (jrecords1_seq 3 (by decide) w2.heap.size g o c l hl) (fun _ => rfl)
  (Taking w w.heap.size w2.heap.size jb g o c l f0 f1 f4 f6 f7 bank) (fun _ _ _ => False) (taking_own _ hle h0) (fun _ _ _ _ _ h _ _ => h)
  (fun pre W1 hI => ⟨hI.2.1, hI.2.2.1⟩) (fun pre x _ W W' row h hg hr => h)
  ⟨hx2.below hB3 hx2.lt, hb3, hrow2.below hB3, ⟨_, hj2.below hB3 hj2.lt, World.ownsRow_nil _ _ _ _⟩, hg2.andThen (row' := none) ⟨hB3.os, hB3.tape, hB3.output, hB3.size, fun k hk _ => hB3.block k hk⟩ (fun j e => by cases e)⟩
  (fun _ x a₁ W => ∃ (k : Nat) (cs : Array Value) (u : Value), Blk W jb 126 cs /\ cs[5]? = some u /\ u.ownBlock ≠ some k /\ a₁ = { tmps := #[.pointer (some ⟨jb, 0, none⟩), .int .i64 bank, .slice (some ⟨g, o, none⟩) l.length c, .pointer (some ⟨w.heap.size, 0, none⟩), undef, undef, .int .i64 (x.1 : Int), .pointer (some ⟨k, 0, none⟩), .pointer (some ⟨jb, 0, none⟩), .pointer (some ⟨jb, 0, none⟩), .pointer (some ⟨jb, 0, none⟩), .int .i64 bank, .pointer (some ⟨jb, 0, none⟩), .pointer (some ⟨jb, 2, none⟩), .pointer (some ⟨jb, 0, none⟩), .pointer (some ⟨jb, 3, none⟩), .pointer (some ⟨jb, 0, none⟩), .pointer (some ⟨jb, 5, none⟩), .slice (some ⟨g, o, none⟩) l.length c, .func (.func 147) #[] #[.pointer (some ⟨w2.heap.size, 0, none⟩)], .int .i64 (x.1 : Int), .agg #[.int .i64 (x.2.1 : Int), .string ⟨x.2.2.toArray⟩], undef, undef, undef, undef, undef, undef, undef, undef, undef, undef, undef, undef, undef, undef], defers := [] } /\ Blk W k 134 #[.int .i64 (x.2.1 : Int), .string ⟨x.2.2.toArray⟩]) ?has ?assign ?body ?done ?stop
 case has =>
  rintro pre x a₁ _ W W' row ⟨k, cs, u, hb, hu, hne, e, hk⟩ hg hr
  exact ⟨k, cs, u, hb.grown hg (blk_row hb (fun r e => (hr r e).2)), hu, hne, e, hk.grown hg (blk_row hk (fun r e => (hr r e).2))⟩
 case assign =>
  rintro lv pre ⟨z, N, T⟩ W K hW ⟨j1, j2, j3, ⟨u, j4, j5⟩, j6⟩ hK
  have HK := Lib.hid hK
  have hok : Hid (u.ownBlock ≠ some W.heap.size) := fun e => by have := (j5.lt _ e).2; omega
  have H4 := Lib.hid (j4.alloc (.cells #[.int .i64 (N : Int), .string ⟨T.toArray⟩] 134))
  clear hK j1 j2 j3 j4 j5 j6
  dsimp only [recV]
  gi_wp2
  exact HK.out _ _ ⟨W.heap.size, _, u, H4.out, rfl, hok.out, rfl, Blk.new _ _ _⟩ ((Below.refl _ _).alloc (Nat.le_refl _) _)
 case body =>
  rintro lv pre ⟨z, N, T⟩ _ W hW ⟨j1, j2, j3, ⟨u, j4, j5⟩, j6⟩ hnx ⟨k, cs, u', hcs, hu', hok, rfl, hk⟩
  obtain rfl : u' = u := by
   have e : Obj.cells cs 126 = Obj.cells _ 126 := Option.some.inj (hcs.symm.trans j4)
   cases e
   exact (Option.some.inj hu').symm
  have hlen : pre.length < (recs (rowsOf l)).length := (List.getElem?_eq_some_iff.1 hnx).1
  have hrl := recs_len (rowsOf l)
  have hlr : (rowsOf l).length = l.length := List.length_map ..
  have hmx : Hid (pre.length + 1 <= maxLen /\ pre.length <= 4096) := by
   unfold Hid maxLen
   omega
  have c0 : W.cell? ⟨w.heap.size, 0, none⟩ = some (.pointer (some ⟨jb, 0, none⟩)) := j1.cell 0
  have c3 : W.cell? ⟨jb, 3, none⟩ = some (.int .i64 (usedOf pre : Int)) := j4.cell 3
  have f3 := j4.frozen 3
  have hnk : jb ≠ k := fun e => j4.ne_ hk (by decide) e
  have k4 := j4.set_ 3 (.int .i64 (z : Int))
  have k1 := j1.grown (grown_set W jb 3 (.int .i64 (z : Int))) (by simp; omega)
  have k2 := j2.grown (grown_set W jb 3 (.int .i64 (z : Int))) (by simp; omega)
  have k3 := rowAt_grown j3 (grown_set W jb 3 (.int .i64 (z : Int))) (by simp; exact hgj)
  have k5 := j5.kept (grown_set W jb 3 (.int .i64 (z : Int))) (.inr (own_blk_ne j5 j4 (by decide)))
  have k6 := j6.trans (grown_set W jb 3 (.int .i64 (z : Int)))
  have kk := hk.grown (grown_set W jb 3 (.int .i64 (z : Int))) (by simp; exact fun e => hnk e.symm)
  have kK := KeepsOthers.setCell W ⟨jb, 3, none⟩ (.int .i64 (z : Int))
  dsimp only
  gi_wp2_with fail
  clear c0 c3 f3 j1 j2 j3 j4 j5 j6 hk hcs
  generalize hV : W.setCell ⟨jb, 3, none⟩ (.int .i64 (z : Int)) = V at *
  have x1 : V.drew.cell? ⟨w.heap.size, 0, none⟩ = some (.pointer (some ⟨jb, 0, none⟩)) := k1.drew.cell 0
  have x2 : V.drew.cell? ⟨k, 0, none⟩ = some (.int .i64 (N : Int)) := kk.drew.cell 0
  have x3 : V.drew.cell? ⟨k, 1, none⟩ = some (.string ⟨T.toArray⟩) := kk.drew.cell 1
  have x5 : V.drew.cell? ⟨jb, 5, none⟩ = some u' := k4.drew.cell 5
  have kA := k1.drew.alloc (.cells #[.int .i64 (N : Int), .string ⟨T.toArray⟩] 134)
  have kB := kk.drew.alloc (.cells #[.int .i64 (N : Int), .string ⟨T.toArray⟩] 134)
  have hSA : (V.drew.alloc (.cells #[.int .i64 (N : Int), .string ⟨T.toArray⟩] 134)).cell? ⟨w.heap.size, 0, none⟩ = some (.pointer (some ⟨jb, 0, none⟩)) /\ (V.drew.alloc (.cells #[.int .i64 (N : Int), .string ⟨T.toArray⟩] 134)).cell? ⟨k, 0, none⟩ = some (.int .i64 (N : Int)) /\ (V.drew.alloc (.cells #[.int .i64 (N : Int), .string ⟨T.toArray⟩] 134)).cell? ⟨k, 1, none⟩ = some (.string ⟨T.toArray⟩) := ⟨kA.cell 0, kB.cell 0, kB.cell 1⟩
  have x6 : (V.alloc (.cells #[.int .i64 (N : Int), .string ⟨T.toArray⟩] 134)).drew.cell? ⟨jb, 5, none⟩ = some u' := (k4.drew.alloc (.cells #[.int .i64 (N : Int), .string ⟨T.toArray⟩] 134)).cell 5
  have hkA : Hid ((V.drew.alloc (.cells #[.int .i64 (N : Int), .string ⟨T.toArray⟩] 134)).ownsRow w.heap.size 134 2 u' pre.length (entCells (pre.map entOf))) := (k5.drew).alloc _
  have hsA : Hid (w.heap.size <= (V.drew.alloc (.cells #[.int .i64 (N : Int), .string ⟨T.toArray⟩] 134)).heap.size) := by
   have := k6.size
   unfold Hid
   rw [World.size_alloc]
   exact Nat.le_succ_of_le this
  have hnb : w2.heap.size ≠ jb := by omega
  refine region_round (S := fun w' => w'.cell? ⟨w.heap.size, 0, none⟩ = some (.pointer (some ⟨jb, 0, none⟩)) /\ w'.cell? ⟨k, 0, none⟩ = some (.int .i64 (N : Int)) /\ w'.cell? ⟨k, 1, none⟩ = some (.string ⟨T.toArray⟩)) (by kernel_rfl) (by kernel_rfl) (by rintro ⟨a, w, h⟩; exact h) ⟨x1, x2, x3⟩ (fun hHeld => ?_)
  refine' tk 0 rfl hHeld ?_
  try simp only [Act.put, zq]
  refine' tk 1 rfl hHeld ?_
  try simp only [Act.put]
  refine' tk 2 rfl hHeld ?_
  try simp only [Act.put]
  refine' tk 3 rfl hHeld ?_
  try simp only [Act.put]
  refine' tk 5 rfl hHeld ?_
  try simp only [Act.put]
  refine wpAnyH_ready (rs := [4, 6]) (by kernel_rfl) (by simp) ?_
  refine AllReadyH.cons rfl (fun K hK => ?_) (AllReadyH.cons rfl (fun K hK => ?_) AllReadyH.nil)
  ·go_simp
   refine hK.out _ _ hHeld (fun hHeld => ?_)
   clear hK K
   try simp only [Act.put, zq]
   refine td 6 rfl (fun K hK => ?_)
   go_simp
   refine hK.out _ _ hSA (fun hHeld => ?_)
   clear hK K
   try simp only [Act.put, zq]
   refine td 7 rfl (fun K hK => ?_)
   refine step_append_lies _ (by rfl) _ _ _ (by rfl) w.heap.size 134 i0 _ 2 24 Tryz.underlying124 hi hz0 hz1 hz2 rfl (by omega) u' pre.length (entCells (pre.map entOf)) (by rfl) (hkA.out) ⟨V.heap.size, 0, none⟩ 1 1 [.int .i64 (N : Int), .string ⟨T.toArray⟩] (by rfl) (by rfl) (fun j u hu => World.news_of_block (heap_alloc_new V.drew _) j u hu) (by simp [Value.oneCell']) (by omega) hmx.out.1 (by have := hmx.out.2; omega) hsA.out (V.heap.size + 1) (by simp) ?_
   intro g2 cap w4 hown4 hgrow4 _ _
   obtain ⟨p4, p1, pk, r1, rk, r2, r3, r4, r5, r6, r7⟩ := taking_app hrow.1 hjlt hne.symm hnb hgj hnk.symm hok k1 k2 k3 k4 k5 k6 kk hown4 hgrow4
   have y5 : w4.cell? ⟨jb, 5, none⟩ = some u' := p4.cell 5
   have g5 := p4.frozen 5
   refine hK.out _ _ ⟨p1.cell 0, pk.cell 0, pk.cell 1⟩ (fun hHeld => ?_)
   clear hK K hown4 hgrow4
   try simp only [Act.put, zq]
   refine' tk 8 rfl hHeld ?_
   try simp only [Act.put]
   refine' tk 9 rfl hHeld ?_
   try simp only [Act.put]
   refine td 10 rfl (fun K hK => ?_)
   go_simp
   refine hK.out _ _ ⟨r1.cell 0, rk.cell 0, rk.cell 1⟩ (fun hHeld => ?_)
   clear hK K
   refine wpAnyH_done (by kernel_rfl) ?_ _
   refine ⟨kK.trans r7, r1, r2, r3, ⟨.slice (some ⟨g2, 0, none⟩) (pre.length + 1) cap, ?_, ?_⟩, r6⟩
   ·rw [usedOf_snoc]; exact r4
   ·rw [entCells_snoc2, List.length_append]; exact r5
  ·go_simp
   refine hK.out _ _ hSA (fun hHeld => ?_)
   clear hK K
   try simp only [Act.put, zq]
   refine td 4 rfl (fun K hK => ?_)
   go_simp
   refine hK.out _ _ hHeld (fun hHeld => ?_)
   clear hK K
   try simp only [Act.put, zq]
   refine td 7 rfl (fun K hK => ?_)
   refine step_append_lies _ (by rfl) _ _ _ (by rfl) w.heap.size 134 i0 _ 2 24 Tryz.underlying124 hi hz0 hz1 hz2 rfl (by omega) u' pre.length (entCells (pre.map entOf)) (by rfl) (hkA.out) ⟨V.heap.size, 0, none⟩ 1 1 [.int .i64 (N : Int), .string ⟨T.toArray⟩] (by rfl) (by rfl) (fun j u hu => World.news_of_block (heap_alloc_new V.drew _) j u hu) (by simp [Value.oneCell']) (by omega) hmx.out.1 (by have := hmx.out.2; omega) hsA.out (V.heap.size + 1) (by simp) ?_
   intro g2 cap w4 hown4 hgrow4 _ _
   obtain ⟨p4, p1, pk, r1, rk, r2, r3, r4, r5, r6, r7⟩ := taking_app hrow.1 hjlt hne.symm hnb hgj hnk.symm hok k1 k2 k3 k4 k5 k6 kk hown4 hgrow4
   have y5 : w4.cell? ⟨jb, 5, none⟩ = some u' := p4.cell 5
   have g5 := p4.frozen 5
   refine hK.out _ _ ⟨p1.cell 0, pk.cell 0, pk.cell 1⟩ (fun hHeld => ?_)
   clear hK K hown4 hgrow4
   try simp only [Act.put, zq]
   refine' tk 8 rfl hHeld ?_
   try simp only [Act.put]
   refine' tk 9 rfl hHeld ?_
   try simp only [Act.put]
   refine td 10 rfl (fun K hK => ?_)
   go_simp
   refine hK.out _ _ ⟨r1.cell 0, rk.cell 0, rk.cell 1⟩ (fun hHeld => ?_)
   clear hK K
   refine wpAnyH_done (by kernel_rfl) ?_ _
   refine ⟨kK.trans r7, r1, r2, r3, ⟨.slice (some ⟨g2, 0, none⟩) (pre.length + 1) cap, ?_, ?_⟩, r6⟩
   ·rw [usedOf_snoc]; exact r4
   ·rw [entCells_snoc2, List.length_append]; exact r5
 case done =>
  rintro E xs W hE hxs ⟨j1, j2, j3, ⟨u, j4, j5⟩, j6⟩ hK
  gi_wp2
  refine ⟨by simp, .inl ⟨_, _, rfl, run_takeDeferred hK, ?_⟩⟩
  have hgp := grownBy_putObj' W E (.deferred none)
  have hrr : ∀ r, some E = some r -> ∃ o : Obj, W.heap[r]? = some o /\ o.isCells = false := fun r e => by cases e; exact ⟨_, hK, rfl⟩
  subst hxs
  exact ⟨_, results_none rfl _ _ _, ⟨_, rfl⟩, _, j4.grown hgp (blk_row j4 hrr), ownsRow_grown j5 hgp hrr, j6.andThen hgp (fun j e => by cases e; exact .inl (by omega))⟩
 case stop =>
  rintro E c pre W hE hx
  exact hx.elim
end
end Go.Proofs.YtpghocekofdpbaaGreatDoor
