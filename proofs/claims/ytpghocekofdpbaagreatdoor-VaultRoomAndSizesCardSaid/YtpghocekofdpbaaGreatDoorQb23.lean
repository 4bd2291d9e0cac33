import Derived.Test.YtpghocekofdpbaaGreatDoorQb19
import Derived.Test.YtpghocekofdpbaaGreatDoorQb22
namespace Go.Proofs.YtpghocekofdpbaaGreatDoor
open Go.RowKit Go.Shelf
attribute [local go_sem] Oper.semAt_some
section
variable {w w' : World} {a : DAt} {D : Dev} {l : List ByteArray} {v : Value}
theorem dread_on (h : DevIs w a D) (hu : DOn D) (i : Nat) (x : Sec) (hx : D.M[i]? = some x) (hc : x.dirty = false) :
  Calls Tryz.prog 104 #[.pointer (some ⟨a.d, 0, none⟩), .int .i64 i] w fun e w' => e = .returned (.tuple #[.string x.now, .int .i64 0]) /\ w = w' := by
 have hj := (List.getElem?_eq_some_iff.1 hx).1
 have hi : isAt D.M (i : Int) := ⟨by omega, by omega⟩
 have e1 : (if D.down = true then (⟨#[]⟩ : ByteArray) else if isAt D.M (i : Int) then (D.M.getD (i : Int).toNat default).seen else ⟨#[]⟩) = x.now := by
  rw [if_neg (by rw [hu.down]; decide), if_pos hi, Int.toNat_natCast, List.getD_eq_getElem?_getD, hx]
  show x.seen = x.now
  unfold Sec.seen
  rw [hc]
  rfl
 have e2 : (if D.down = true then (14 : Int) else if isAt D.M (i : Int) then 0 else 1) = 0 := by
  rw [if_neg (by rw [hu.down]; decide), if_pos hi]
 have h1 := dRead_any h i
 rw [e1, e2] at h1
 exact h1
set_option maxRecDepth 100000 in
set_option maxHeartbeats 4000000 in
theorem each_write_on (h : DevIs w a D) (hu : DOn D) (lb ab o : Nat) (hlb : Blk w lb 35 #[v]) (hab : Blk w ab 3 #[.int .i64 o]) (hI : Img w v l a) (hl : ∀ s ∈ l, s.size = 64) (hb : o + l.length <= D.M.length) (hD : D.M.length <= 1048576) :
  Calls Tryz.prog 124 #[.func (.func 125) #[.pointer (some ⟨a.d, 0, none⟩)] #[], .pointer (some ⟨lb, 0, none⟩), .pointer (some ⟨ab, 0, none⟩)] w fun e w' =>
   (e = .returned (.int .i64 0) /\ (D.left < 0 \/ ((l.length : Nat) : Int) <= D.left) /\ DevIs w' a (D.on l.length (wrL l o D.M)) /\ DLeft w w' a) \/
   (e = .returned (.int .i64 14) /\ D.fails l.length /\ DevIs w' a (D.off (wrL (l.take D.left.toNat) o D.M)) /\ DLeft w w' a) := by
 obtain ⟨A, n, c, rfl⟩ := hI.slice
 have hn : n = l.length := by
  rcases hI.texts.2 with ⟨h0, h1⟩ | ⟨_, _, _, h0, _⟩
  ·cases h0; exact h1.symm
  ·cases h0; rfl
 subst hn
 have HI := Lib.hid hI
 have Hl := Lib.hid hl
 have Hb := Lib.hid (And.intro hb hD)
 have Hu := Lib.hid hu
 have H := Lib.hid h
 have HL := Lib.hid hlb
 have HA := Lib.hid hab
 have x1 := hlb.cell 0
 have H0 : Hid (DevIs w a (D.on 0 (wrL (l.take 0) o D.M))) := by
  unfold Hid
  rw [List.take_zero]
  show DevIs w a (D.on 0 D.M)
  rw [on_zero]
  exact h
 have HL0 : Hid (D.left < 0 \/ ((0 : Nat) : Int) <= D.left) := by unfold Hid; omega
 clear h hu hlb hI hl hb hD hab
 go_enter Tryz.func124, Tryz.ntmps124
 go_wp2_with fail
 go_loopw [10] (fun i wr => ∃ k : Nat, k <= l.length /\ i = .int .i64 k /\ Hid (D.left < 0 \/ (k : Int) <= D.left) /\ Hid (DevIs wr a (D.on k (wrL (l.take k) o D.M))) /\ Hid (DLeft w wr a)) (fun i _ => l.length - (intOf i).toNat)
 case atStart => exact ⟨0, Nat.zero_le _, rfl, HL0.out, H0.out, DLeft.refl _⟩
 case round =>
  obtain ⟨k, hk, rfl, hlf, hd, hF⟩ := hrel
  have hwk : wrap64 ((k : Int) + 1) = (k : Int) + 1 := by have := Hb.out; unfold wrap64; omega
  have hwo : wrap64 ((o : Int) + (k : Int)) = (o + k : Nat) := by have := Hb.out; unfold wrap64; omega
  by_cases hkl : k < l.length
  ·have Hkl := Lib.hid hkl
   have hd1 : decide (k < l.length) = true := decide_eq_true hkl
   obtain ⟨s, hs⟩ : ∃ s, l[k]? = some s := ⟨_, List.getElem?_eq_getElem hkl⟩
   have hI2 := hF.out.img H.out HI.out
   obtain ⟨g, rfl⟩ : ∃ g, A = some ⟨g, 0, none⟩ := by
    rcases hI2.texts.2 with ⟨_, h1⟩ | ⟨g, _, _, h0, _⟩
    ·omega
    ·cases h0; exact ⟨g, rfl⟩
   have cs := hI2.cell hs
   have ca := (hF.out.box H.out HA.out (by decide)).cell 0
   have hc : chk (isAt (D.on k (wrL (l.take k) o D.M)).M ((o + k : Nat) : Int) /\ s.size = 64) = 0 := by
    unfold chk
    rw [if_pos ⟨⟨by omega, by show ((o + k : Nat) : Int) < ((wrL (l.take k) o D.M).length : Nat); rw [wrL_len]; have := Hb.out; omega⟩, Hl.out s (List.mem_of_getElem? hs)⟩]
   have hwt0 := dWrite_any hd.out (on_on (M := wrL (l.take k) o D.M) Hu.out hlf.out).left ((o + k : Nat) : Int) s
   rw [hc] at hwt0
   have hnx : Hid (upd (fun x => x.write s) (wrL (l.take k) o D.M) ((o + k : Nat) : Int) = wrL (l.take (k + 1)) o D.M) := by
    have e : l.take (k + 1) = l.take k ++ [s] := by rw [List.take_add_one, hs]; rfl
    unfold Hid
    rw [e, wrL_snoc, List.length_take, Nat.min_eq_left (by omega)]
   clear hs hI2 hkl hc
   by_cases hoff : (k : Int) = D.left
   ·rw [step_off Hu.out _ k _ hoff] at hwt0
    have hwt := Lib.hid hwt0
    have hkk : D.left.toNat = k := by omega
    have hff : D.fails l.length := by have := Hkl.out; exact ⟨by omega, by omega⟩
    have Hff := Lib.hid hff
    have Hkk := Lib.hid hkk
    clear hwt0 hoff hkk hff
    go_wp2_with (first | (go_at_call 125; refine hwt.out.mono ?_; rintro e w1 ⟨rfl, h1, h2⟩))
    go_ret
    refine .inr ⟨rfl, Hff.out, ?_, hF.out.trans h2⟩
    rw [Hkk.out]
    exact h1
   ·rw [step_on Hu.out _ k _ (by have := hlf.out; omega)] at hwt0
    have hwt := Lib.hid hwt0
    have hlf2 : Hid (D.left < 0 \/ ((k + 1 : Nat) : Int) <= D.left) := by have := hlf.out; unfold Hid; omega
    clear hwt0 hoff
    go_wp2_with (first | (go_at_call 125; refine hwt.out.mono ?_; rintro e w1 ⟨rfl, h1, h2⟩))
    go_roundw
    case rel => exact ⟨k + 1, Hkl.out, by go_num, hlf2.out, by rw [<- hnx.out]; exact h1, hF.out.trans h2⟩
    case measure => rw [hwk]; exact meas_up Hkl.out
  ·obtain rfl : k = l.length := by omega
   have hd1 : decide (l.length < l.length) = false := decide_eq_false hkl
   have hfin := hd.out
   rw [List.take_length] at hfin
   have Hfin := Lib.hid hfin
   clear hkl hfin hd
   go_wp2_with fail
   go_ret
   exact .inl ⟨rfl, hlf.out, Hfin.out, hF.out⟩
set_option maxRecDepth 100000 in
set_option maxHeartbeats 4000000 in
theorem put2_on (h : DevIs w a D) (hu : DOn D) (i : Nat) (x : Sec) (hx : D.M[i]? = some x) (hc : x.dirty = false) (s : ByteArray) (jx jb wb : Nat) (b : Bool) (hjx : Blk w jx 76 #[.pointer (some ⟨jb, 0, none⟩)]) (hjd : w.cell? ⟨jb, 0, none⟩ = some (.pointer (some ⟨a.d, 0, none⟩))) (hwb : Blk w wb 4 #[.bool b]) :
  Calls Tryz.prog 127 #[.int .i64 i, .string s, .pointer (some ⟨jx, 0, none⟩), .pointer (some ⟨wb, 0, none⟩)] w fun e w' => e = .returned (.int .i64 0) /\ w' = w.setCell ⟨wb, 0, none⟩ (.bool (b || !(x.now.toList == s.toList))) := by
 have HR := Lib.hid (dread_on h hu i x hx hc)
 have x1 := hjx.cell 0
 have x2 := hwb.cell 0
 have x3 := hwb.frozen 0
 clear h hu hx hc hjx hwb
 cases b with
 | true =>
  go_enter Tryz.func127, Tryz.ntmps127
  go_wp2_with (first | (go_at_call 104; refine HR.out.mono ?_; rintro e w1 ⟨rfl, rfl⟩))
  go_ret
  exact ⟨rfl, rfl⟩
 | false =>
  go_enter Tryz.func127, Tryz.ntmps127
  go_wp2_with (first | (go_at_call 104; refine HR.out.mono ?_; rintro e w1 ⟨rfl, rfl⟩))
  go_ret
  exact ⟨rfl, by simp⟩
set_option maxRecDepth 100000 in
set_option maxHeartbeats 4000000 in
theorem each_read_on (h : DevIs w a D) (hu : DOn D) (hc : Clean D.M) (jx jb wb lb ab o : Nat) (cs : Array Value) (hlb : Blk w lb 35 #[v]) (hab : Blk w ab 3 #[.int .i64 o]) (hjx : Blk w jx 76 #[.pointer (some ⟨jb, 0, none⟩)]) (hjb : Blk w jb 126 cs) (hjd : cs[0]? = some (.pointer (some ⟨a.d, 0, none⟩)))
  (hwb : Blk w wb 4 #[.bool false]) (hI : Img w v l a) (hb : o + l.length <= D.M.length) (hD : D.M.length <= 1048576) (hoff : wb ≠ a.d /\ wb ≠ a.b /\ wb ≠ a.g /\ wb ≠ a.sb /\ wb ≠ a.fb) (hvw : v.ownBlock ≠ some wb) :
  Calls Tryz.prog 124 #[.func (.func 127) #[] #[.pointer (some ⟨jx, 0, none⟩), .pointer (some ⟨wb, 0, none⟩)], .pointer (some ⟨lb, 0, none⟩), .pointer (some ⟨ab, 0, none⟩)] w fun e w' => e = .returned (.int .i64 0) /\ Blk w' wb 4 #[.bool (badM l o D.M l.length)] /\ w.grownBy w' (some wb) := by
 obtain ⟨A, n, c, rfl⟩ := hI.slice
 have hn : n = l.length := by
  rcases hI.texts.2 with ⟨h0, h1⟩ | ⟨_, _, _, h0, _⟩
  ·cases h0; exact h1.symm
  ·cases h0; rfl
 subst hn
 have n1 : some lb ≠ some wb := fun e => hwb.ne_ hlb (by decide) (by cases e; rfl)
 have n2 : some ab ≠ some wb := fun e => hwb.ne_ hab (by decide) (by cases e; rfl)
 have n3 : some jx ≠ some wb := fun e => hwb.ne_ hjx (by decide) (by cases e; rfl)
 have n4 : some jb ≠ some wb := fun e => hwb.ne_ hjb (by decide) (by cases e; rfl)
 have HI := Lib.hid hI
 have Hb := Lib.hid (And.intro hb hD)
 have Hu := Lib.hid hu
 have Hc := Lib.hid hc
 have H := Lib.hid h
 have HL := Lib.hid hlb
 have HA := Lib.hid hab
 have HX := Lib.hid hjx
 have HJ := Lib.hid hjb
 have HW := Lib.hid hwb
 have x1 := hlb.cell 0
 clear h hu hc hlb hI hb hD hab hjx hjb hwb
 go_enter Tryz.func124, Tryz.ntmps124
 go_wp2_with fail
 go_loopw [10] (fun i wr => ∃ k : Nat, k <= l.length /\ i = .int .i64 k /\ Hid (w.grownBy wr (some wb)) /\ Hid (Blk wr wb 4 #[.bool (badM l o D.M k)])) (fun i _ => l.length - (intOf i).toNat)
 case atStart => exact ⟨0, Nat.zero_le _, rfl, grown_refl _ _, HW.out⟩
 case round =>
  obtain ⟨k, hk, rfl, hg, hw⟩ := hrel
  have hwk : wrap64 ((k : Int) + 1) = (k : Int) + 1 := by have := Hb.out; unfold wrap64; omega
  have hwo : wrap64 ((o : Int) + (k : Int)) = (o + k : Nat) := by have := Hb.out; unfold wrap64; omega
  by_cases hkl : k < l.length
  ·have Hkl := Lib.hid hkl
   have hd1 : decide (k < l.length) = true := decide_eq_true hkl
   obtain ⟨s, hs⟩ : ∃ s, l[k]? = some s := ⟨_, List.getElem?_eq_getElem hkl⟩
   obtain ⟨x, hx⟩ : ∃ x, D.M[o + k]? = some x := ⟨_, List.getElem?_eq_getElem (by have := Hb.out; omega)⟩
   have hI2 := HI.out.off hg.out hvw
   obtain ⟨g, rfl⟩ : ∃ g, A = some ⟨g, 0, none⟩ := by
    rcases hI2.texts.2 with ⟨_, h1⟩ | ⟨g, _, _, h0, _⟩
    ·omega
    ·cases h0; exact ⟨g, rfl⟩
   have cs2 := hI2.cell hs
   have ca := (HA.out.grown hg.out n2).cell 0
   have hjc : wr.cell? ⟨jb, 0, none⟩ = some (.pointer (some ⟨a.d, 0, none⟩)) := ((HJ.out.grown hg.out n4).cell 0).trans hjd
   have hp := Lib.hid (put2_on (H.out.off hg.out hoff) Hu.out (o + k) x hx (Hc.out x (List.mem_of_getElem? hx)) s jx jb wb _ (HX.out.grown hg.out n3) hjc hw.out)
   have hnx : Hid (Blk (wr.setCell ⟨wb, 0, none⟩ (.bool (badM l o D.M k || !(x.now.toList == s.toList)))) wb 4 #[.bool (badM l o D.M (k + 1))]) := by
    unfold Hid
    rw [badM_succ l o D.M k x s hx hs, <- ByteArray.toList_eq, <- ByteArray.toList_eq]
    exact hw.out.set_ 0 _
   clear hs hx hI2 hjc hkl
   go_wp2_with (first | (go_at_call 127; refine hp.out.mono ?_; rintro e w1 ⟨rfl, rfl⟩))
   go_roundw
   case rel => exact ⟨k + 1, Hkl.out, by go_num, grown_trans hg.out (grown_set _ _ _ _), hnx.out⟩
   case measure => rw [hwk]; exact meas_up Hkl.out
  ·obtain rfl : k = l.length := by omega
   have hd1 : decide (l.length < l.length) = false := decide_eq_false hkl
   clear hkl
   go_wp2_with fail
   go_ret
   exact ⟨rfl, hw.out, hg.out⟩
end
end Go.Proofs.YtpghocekofdpbaaGreatDoor
namespace Go.Proofs.YtpghocekofdpbaaGreatDoor
open Go.RowKit Go.Shelf
open Sec (countN mostN packE)
attribute [local go_sem] Oper.semAt_some
section
variable {w w' : World} {a : DAt} {D : Dev} {jb h : Nat} {J : Jrn} {v : Value}
set_option maxRecDepth 100000 in
set_option maxHeartbeats 4000000 in
theorem vput_ok (hd : DevIs w a D) (hu : DOn D) (hf : Fine D.M) (hc : Clean D.M) (hj : JIs w jb a h J v) (o : Nat) (t : ByteArray) (hN : 1 <= J.next /\ J.next <= mostN) (ht : t.size <= 8000) (hb : o + countN t.size <= D.M.length) (hD : D.M.length <= 4096) (hl : D.left < 0 \/ ((countN t.size + 1 : Nat) : Int) <= D.left) (hbad : badM (packB J.next t) o (putM (packB J.next t) o D.M) (countN t.size) = false) :
  Calls Tryz.prog 88 #[.pointer (some ⟨jb, 0, none⟩), .int .i64 o, .string t] w fun e w' =>
   e = .returned (.tuple #[.int .i64 (J.next : Int), .int .i64 0]) /\ DevIs w' a (D.on (countN t.size + 1) (putM (packB J.next t) o D.M)) /\ JIs w' jb a h { J with next := J.next + 1 } v /\ JLeft w w' a jb := by
 obtain ⟨w0, hw0⟩ : ∃ w0, (w.alloc (.cells #[.pointer (some ⟨jb, 0, none⟩)] 76)).alloc (.cells #[.int .i64 o] 3) = w0 := ⟨_, rfl⟩
 have hB0 : Below w.heap.size w w0 := by rw [<- hw0]; exact ((Below.refl _ w).alloc (Nat.le_refl _) _).alloc (by simp) _
 have hs0 : w0.heap.size = w.heap.size + 1 + 1 := by rw [<- hw0]; simp
 have hx0 : Blk w0 w.heap.size 76 #[.pointer (some ⟨jb, 0, none⟩)] := by rw [<- hw0]; exact (Blk.new w _ _).alloc _
 have ha0 : Blk w0 (w.heap.size + 1) 3 #[.int .i64 o] := by
  have := Blk.new (w.alloc (.cells #[.pointer (some ⟨jb, 0, none⟩)] 76)) 3 #[.int .i64 o]
  rw [World.size_alloc] at this
  rw [<- hw0]; exact this
 have hp0 : PutW w0 a D jb h J v w.heap.size (w.heap.size + 1) o := ⟨hd.below hB0, hj.below hB0, hx0, ha0⟩
 have hjl := hj.lt
 obtain ⟨w1, hw1⟩ : ∃ w1, w0.setCell ⟨jb, 4, none⟩ (.int .i64 ((J.next : Int) + 1)) = w1 := ⟨_, rfl⟩
 have hp1 : PutW w1 a D jb h { J with next := J.next + 1 } v w.heap.size (w.heap.size + 1) o := by
  rw [<- hw1]
  exact ⟨hp0.j.dev hp0.dev 4 _, hp0.j.next_ (J.next + 1), hx0.other (a := ⟨jb, 4, none⟩) (by show w.heap.size ≠ jb; omega) _, ha0.other (a := ⟨jb, 4, none⟩) (by show w.heap.size + 1 ≠ jb; omega) _⟩
 have hF1 : JLeft w w1 a jb := by rw [<- hw1]; exact (JLeft.ofBelow hB0).set 4 _
 have hs1 : w1.heap.size = w0.heap.size := by rw [<- hw1]; simp [World.setCell]
 obtain ⟨y1, y2, y3⟩ := hp0.cells
 have y4 : w0.cell? ⟨jb, 4, none⟩ = some (.int .i64 (J.next : Int)) := hp0.j.blk.cell 4
 have y5 : w0.frozen? ⟨jb, 4, none⟩ = false := hp0.j.blk.frozen 4
 have hwn : wrap64 ((J.next : Int) + 1) = (J.next : Int) + 1 := by have : mostN = 4611686018427387904 := rfl; unfold wrap64; omega
 obtain ⟨N, hNe⟩ : ∃ N, J.next = N := ⟨_, rfl⟩
 rw [hNe] at hN hp1 y4 hwn hw1 hbad ⊢
 have hpk := Sec.pack_any w1 N t
 rw [packE_good N t hN ht] at hpk
 have Hpk := Lib.hid hpk
 have hsz := packB_size N t
 have hln := packB_len N t
 obtain ⟨L, hL⟩ : ∃ L, packB N t = L := ⟨_, rfl⟩
 rw [hL] at Hpk hsz hln hbad ⊢
 obtain ⟨C, hC⟩ : ∃ C, countN t.size = C := ⟨_, rfl⟩
 rw [hC] at hb hln hl hbad ⊢
 subst hln
 have Hp1 := Lib.hid hp1
 have HF1 := Lib.hid hF1
 have Hu := Lib.hid hu
 have Hl1 := Lib.hid hl
 have Hbad := Lib.hid hbad
 have Hf := Lib.hid hf
 have Hc := Lib.hid hc
 have Hz := Lib.hid hsz
 have Hb := Lib.hid (And.intro hb hD)
 have Hs := Lib.hid (And.intro hs0 (And.intro hs1 hjl))
 clear hl hbad hd hu hf hc hj hN ht hb hD hB0 hx0 ha0 hp0 hp1 hF1 hpk hsz hL hC hNe hs1 hjl
 go_enter Tryz.func88, Tryz.ntmps88
 go_wp2_with fail
 refine Hpk.out.mono ?_
 rintro e w2 ⟨vP, rfl, hT⟩
 have hB2 := hT.2.2
 have hp2 := Hp1.out.below hB2
 have hI2 := Img.ofNew hT Hp1.out.dev
 have hlt2 := hT.1.lt
 obtain ⟨Ap, np, cp, rfl⟩ := hI2.slice
 obtain ⟨vP, hvP⟩ : ∃ vP, vP = Value.slice Ap np cp := ⟨_, rfl⟩
 rw [<- hvP] at hT hI2 hlt2
 obtain ⟨w3, hw3⟩ : ∃ w3, (w2.alloc (.cells #[.slice none 0 0] 35)).setCell ⟨w2.heap.size, 0, none⟩ vP = w3 := ⟨_, rfl⟩
 have hB3 : Below w2.heap.size w2 w3 := by rw [<- hw3]; exact ((Below.refl _ w2).alloc (Nat.le_refl _) _).setCell (p := ⟨w2.heap.size, 0, none⟩) (Nat.le_refl _) _
 rw [hvP] at hw3
 have hl3 : Blk w3 w2.heap.size 35 #[vP] := by rw [<- hw3, hvP]; exact (Blk.new w2 35 #[.slice none 0 0]).set_ 0 _
 have hs3 : w3.heap.size = w2.heap.size + 1 := by rw [<- hw3]; simp [World.setCell]
 have hp3 := hp2.below hB3
 have hI3 := hI2.below hB3
 obtain ⟨z1, z2, z3⟩ := hp3.cells
 have hE : Hid (Calls Tryz.prog 124 #[.func (.func 125) #[.pointer (some ⟨a.d, 0, none⟩)] #[], .pointer (some ⟨w2.heap.size, 0, none⟩), .pointer (some ⟨w.heap.size + 1, 0, none⟩)] w3 fun e w' => e = .returned (.int .i64 0) /\ DevIs w' a (D.on L.length (wrL L o D.M)) /\ DLeft w3 w' a) := by
  refine (each_write_on hp3.dev Hu.out w2.heap.size (w.heap.size + 1) o hl3 hp3.ba hI3 Hz.out Hb.out.1 (by have := Hb.out.2; omega)).mono ?_
  rintro e w' (⟨h1, _, h2, h3⟩ | ⟨_, h1, _⟩)
  ·exact ⟨h1, h2, h3⟩
  ·exfalso
   have h2 := Hl1.out
   unfold Dev.fails at h1
   omega
 have hF3 : JLeft w w3 a jb := HF1.out.trans ((JLeft.ofBelow hB2).trans (JLeft.ofBelow hB3))
 have Hp3 := Lib.hid hp3
 have Hl3 := Lib.hid hl3
 have HI3 := Lib.hid hI3
 have HF3 := Lib.hid hF3
 have Hlt : Hid (∀ k, vP.ownBlock = some k -> k < w2.heap.size) := fun k e => (hlt2 k e).2
 have Hs2 := Lib.hid (And.intro hs3 (And.intro hB2.size hB3.size))
 clear hT hB2 hp2 hI2 hlt2 hB3 hl3 hp3 hI3 hF3 Hpk Hp1 HF1 y1 y2 y3 y4 y5 hw0 hw1
 go_wp2_with fail
 refine hE.out.mono ?_
 rintro e w4 ⟨rfl, hd4, hF4⟩
 have hp4 := Hp3.out.left hF4 hd4
 have hl4 := hF4.box Hp3.out.dev Hl3.out (by decide)
 have hI4 := hF4.img Hp3.out.dev HI3.out
 obtain ⟨z1, z2, z3⟩ := hp4.cells
 have hfl : Hid (Calls Tryz.prog 126 #[.pointer (some ⟨a.d, 0, none⟩)] w4 fun e w' => e = .returned (.int .i64 0) /\ DevIs w' a (D.on (L.length + 1) (putM L o D.M)) /\ DLeft w4 w' a) := by
  have h1 := dFlush_any hd4 (on_on (k := L.length) (M := wrL L o D.M) Hu.out (by have := Hl1.out; omega)).left (wrL_fine L o D.M Hf.out Hz.out Hb.out.1) (by show (wrL L o D.M).length <= _; rw [wrL_len]; have := Hb.out.2; omega)
  rw [step_on Hu.out _ L.length _ (by have := Hl1.out; omega)] at h1
  exact h1
 have Hp4 := Lib.hid hp4
 have Hl4 := Lib.hid hl4
 have HI4 := Lib.hid hI4
 have HF4 := Lib.hid (HF3.out.trans (JLeft.ofD hF4))
 have Hs4 := Lib.hid hF4.size
 clear hE hd4 hF4 hp4 hl4 hI4 Hp3 Hl3 HI3 HF3 hw3
 go_wp2_with fail
 refine hfl.out.mono ?_
 rintro e w5 ⟨rfl, hd5, hF5⟩
 have hp5 := Hp4.out.left hF5 hd5
 have hl5 := hF5.box Hp4.out.dev Hl4.out (by decide)
 have hI5 := hF5.img Hp4.out.dev HI4.out
 obtain ⟨w6, hw6⟩ : ∃ w6, (w5.alloc (.cells #[.bool false] 4)).setCell ⟨w5.heap.size, 0, none⟩ (.bool false) = w6 := ⟨_, rfl⟩
 have hB6 : Below w5.heap.size w5 w6 := by rw [<- hw6]; exact ((Below.refl _ w5).alloc (Nat.le_refl _) _).setCell (p := ⟨w5.heap.size, 0, none⟩) (Nat.le_refl _) _
 have hb6 : Blk w6 w5.heap.size 4 #[.bool false] := by rw [<- hw6]; exact (Blk.new w5 4 #[.bool false]).set_ 0 _
 have hp6 := hp5.below hB6
 have hl6 := hl5.below hB6 hl5.lt
 have hI6 := hI5.below hB6
 obtain ⟨z1, z2, z3⟩ := hp6.cells
 have hcl : Clean (putM L o D.M) := putM_clean Hf.out Hz.out Hb.out.1
 have hsz5 : w.heap.size <= w5.heap.size := (HF4.out.trans (JLeft.ofD hF5)).size
 have hvl : ∀ k, vP.ownBlock = some k -> k < w5.heap.size := fun k e => by
  have h1 := Hlt.out k e
  have h2 := Hs2.out.1
  have h3 := Hs4.out
  have h4 := hF5.size
  omega
 have hRd := Lib.hid (each_read_on (l := L) hp6.dev (on_on (k := L.length + 1) (M := putM L o D.M) Hu.out Hl1.out) hcl w.heap.size jb w5.heap.size w2.heap.size (w.heap.size + 1) o _ hl6 hp6.ba hp6.bx hp6.j.blk rfl hb6 hI6 (by show o + L.length <= (putM L o D.M).length; rw [putM_len]; exact Hb.out.1) (by show (putM L o D.M).length <= _; rw [putM_len]; have := Hb.out.2; omega)
  (by
   obtain ⟨l1, l2, l3, l4⟩ := DevIs.sizes hd5
   have l5 := hd5.mem.lt.1
   exact ⟨by omega, by omega, by omega, by omega, by omega⟩) (fun e => by have := hvl _ e; omega))
 have Hp6 := Lib.hid hp6
 have Hb6 := Lib.hid hb6
 have Hd5 := Lib.hid hd5
 have HF6 := Lib.hid ((HF4.out.trans (JLeft.ofD hF5)).trans (JLeft.ofBelow hB6))
 have HS := Lib.hid hsz5
 clear hfl hd5 hF5 hp5 hl5 hI5 hB6 hb6 hp6 hl6 hI6 hcl Hp4 Hl4 HI4 HF4 hvl hsz5
 go_wp2_with fail
 refine hRd.out.mono ?_
 rintro e w7 ⟨rfl, hb7, hg7⟩
 have z4 := hb7.cell 0
 have hfin : Hid (DevIs w7 a (D.on (L.length + 1) (putM L o D.M)) /\ JIs w7 jb a h { J with next := N + 1 } v /\ JLeft w w7 a jb) := by
  obtain ⟨l1, l2, l3, l4⟩ := DevIs.sizes Hd5.out
  have l5 := Hd5.out.mem.lt.1
  have lj := Hs.out.2.2
  have ls := HS.out
  refine ⟨Hp6.out.dev.off hg7 ⟨by omega, by omega, by omega, by omega, by omega⟩, ⟨Hp6.out.j.blk.grown hg7 (fun e => by cases e; omega), Hp6.out.j.row.kept hg7 (.inr (own_blk_ne Hp6.out.j.row Hb6.out (by decide)))⟩, ?_⟩
  have hF := HF6.out
  exact ⟨hg7.os.trans hF.os, hg7.tape.trans hF.tape, hg7.output.trans hF.output, Nat.le_trans hF.size hg7.size, fun k hk h1 h2 h3 h4 h5 => (hg7.block k (Nat.lt_of_lt_of_le hk hF.size) (fun e => by cases e; omega)).trans (hF.rest k hk h1 h2 h3 h4 h5)⟩
 clear hRd hb7 hg7 Hp6 Hd5 HF6 HS hw6
 have z4b : w7.cell? ⟨w5.heap.size, 0, none⟩ = some (.bool false) := z4.trans (by show (#[Value.bool (badM L o (putM L o D.M) L.length)] : Array Value)[0]? = _; rw [Hbad.out]; rfl)
 clear z4
 go_wp2_with fail
 all_goals go_ret2
 all_goals exact ⟨rfl, hfin.out⟩
set_option maxRecDepth 100000 in
set_option maxHeartbeats 4000000 in
theorem vput_off (hd : DevIs w a D) (hu : DOn D) (hf : Fine D.M) (hc : Clean D.M) (hj : JIs w jb a h J v) (o : Nat) (t : ByteArray) (hN : 1 <= J.next /\ J.next <= mostN) (ht : t.size <= 8000) (hb : o + countN t.size <= D.M.length) (hD : D.M.length <= 4096) (hl : D.fails (countN t.size + 1)) :
  Calls Tryz.prog 88 #[.pointer (some ⟨jb, 0, none⟩), .int .i64 o, .string t] w fun e w' =>
   e = .returned (.tuple #[.int .i64 0, .int .i64 14]) /\ DevIs w' a (D.off (wrL ((packB J.next t).take D.left.toNat) o D.M)) /\ Blk w' jb 126 #[.pointer (some ⟨a.d, 0, none⟩), .int .i64 h, .int .i64 J.bank, .int .i64 J.used, .int .i64 ((J.next + 1 : Nat) : Int), v, .bool J.spoiled, .bool true] /\ JLeft w w' a jb := by
 obtain ⟨w0, hw0⟩ : ∃ w0, (w.alloc (.cells #[.pointer (some ⟨jb, 0, none⟩)] 76)).alloc (.cells #[.int .i64 o] 3) = w0 := ⟨_, rfl⟩
 have hB0 : Below w.heap.size w w0 := by rw [<- hw0]; exact ((Below.refl _ w).alloc (Nat.le_refl _) _).alloc (by simp) _
 have hs0 : w0.heap.size = w.heap.size + 1 + 1 := by rw [<- hw0]; simp
 have hx0 : Blk w0 w.heap.size 76 #[.pointer (some ⟨jb, 0, none⟩)] := by rw [<- hw0]; exact (Blk.new w _ _).alloc _
 have ha0 : Blk w0 (w.heap.size + 1) 3 #[.int .i64 o] := by
  have := Blk.new (w.alloc (.cells #[.pointer (some ⟨jb, 0, none⟩)] 76)) 3 #[.int .i64 o]
  rw [World.size_alloc] at this
  rw [<- hw0]; exact this
 have hp0 : PutW w0 a D jb h J v w.heap.size (w.heap.size + 1) o := ⟨hd.below hB0, hj.below hB0, hx0, ha0⟩
 have hjl := hj.lt
 obtain ⟨w1, hw1⟩ : ∃ w1, w0.setCell ⟨jb, 4, none⟩ (.int .i64 ((J.next : Int) + 1)) = w1 := ⟨_, rfl⟩
 have hp1 : PutW w1 a D jb h { J with next := J.next + 1 } v w.heap.size (w.heap.size + 1) o := by
  rw [<- hw1]
  exact ⟨hp0.j.dev hp0.dev 4 _, hp0.j.next_ (J.next + 1), hx0.other (a := ⟨jb, 4, none⟩) (by show w.heap.size ≠ jb; omega) _, ha0.other (a := ⟨jb, 4, none⟩) (by show w.heap.size + 1 ≠ jb; omega) _⟩
 have hF1 : JLeft w w1 a jb := by rw [<- hw1]; exact (JLeft.ofBelow hB0).set 4 _
 have hs1 : w1.heap.size = w0.heap.size := by rw [<- hw1]; simp [World.setCell]
 obtain ⟨y1, y2, y3⟩ := hp0.cells
 have y4 : w0.cell? ⟨jb, 4, none⟩ = some (.int .i64 (J.next : Int)) := hp0.j.blk.cell 4
 have y5 : w0.frozen? ⟨jb, 4, none⟩ = false := hp0.j.blk.frozen 4
 have hwn : wrap64 ((J.next : Int) + 1) = (J.next : Int) + 1 := by have : mostN = 4611686018427387904 := rfl; unfold wrap64; omega
 obtain ⟨N, hNe⟩ : ∃ N, J.next = N := ⟨_, rfl⟩
 rw [hNe] at hN hp1 y4 hwn hw1  ⊢
 have hpk := Sec.pack_any w1 N t
 rw [packE_good N t hN ht] at hpk
 have Hpk := Lib.hid hpk
 have hsz := packB_size N t
 have hln := packB_len N t
 obtain ⟨L, hL⟩ : ∃ L, packB N t = L := ⟨_, rfl⟩
 rw [hL] at Hpk hsz hln  ⊢
 obtain ⟨C, hC⟩ : ∃ C, countN t.size = C := ⟨_, rfl⟩
 rw [hC] at hb hln hl
 subst hln
 have Hp1 := Lib.hid hp1
 have HF1 := Lib.hid hF1
 have Hu := Lib.hid hu
 have Hl1 := Lib.hid hl
 have Hf := Lib.hid hf
 have Hc := Lib.hid hc
 have Hz := Lib.hid hsz
 have Hb := Lib.hid (And.intro hb hD)
 have Hs := Lib.hid (And.intro hs0 (And.intro hs1 hjl))
 clear hl hd hu hf hc hj hN ht hb hD hB0 hx0 ha0 hp0 hp1 hF1 hpk hsz hL hC hNe hs1 hjl
 go_enter Tryz.func88, Tryz.ntmps88
 go_wp2_with fail
 refine Hpk.out.mono ?_
 rintro e w2 ⟨vP, rfl, hT⟩
 have hB2 := hT.2.2
 have hp2 := Hp1.out.below hB2
 have hI2 := Img.ofNew hT Hp1.out.dev
 have hlt2 := hT.1.lt
 obtain ⟨Ap, np, cp, rfl⟩ := hI2.slice
 obtain ⟨vP, hvP⟩ : ∃ vP, vP = Value.slice Ap np cp := ⟨_, rfl⟩
 rw [<- hvP] at hT hI2 hlt2
 obtain ⟨w3, hw3⟩ : ∃ w3, (w2.alloc (.cells #[.slice none 0 0] 35)).setCell ⟨w2.heap.size, 0, none⟩ vP = w3 := ⟨_, rfl⟩
 have hB3 : Below w2.heap.size w2 w3 := by rw [<- hw3]; exact ((Below.refl _ w2).alloc (Nat.le_refl _) _).setCell (p := ⟨w2.heap.size, 0, none⟩) (Nat.le_refl _) _
 rw [hvP] at hw3
 have hl3 : Blk w3 w2.heap.size 35 #[vP] := by rw [<- hw3, hvP]; exact (Blk.new w2 35 #[.slice none 0 0]).set_ 0 _
 have hs3 : w3.heap.size = w2.heap.size + 1 := by rw [<- hw3]; simp [World.setCell]
 have hp3 := hp2.below hB3
 have hI3 := hI2.below hB3
 obtain ⟨z1, z2, z3⟩ := hp3.cells
 have hE : Hid (Calls Tryz.prog 124 #[.func (.func 125) #[.pointer (some ⟨a.d, 0, none⟩)] #[], .pointer (some ⟨w2.heap.size, 0, none⟩), .pointer (some ⟨w.heap.size + 1, 0, none⟩)] w3 fun e w' => (e = .returned (.int .i64 0) /\ ((L.length : Nat) : Int) = D.left /\ DevIs w' a (D.on L.length (wrL L o D.M)) /\ DLeft w3 w' a) \/ (e = .returned (.int .i64 14) /\ DevIs w' a (D.off (wrL (L.take D.left.toNat) o D.M)) /\ DLeft w3 w' a)) := by
  refine (each_write_on hp3.dev Hu.out w2.heap.size (w.heap.size + 1) o hl3 hp3.ba hI3 Hz.out Hb.out.1 (by have := Hb.out.2; omega)).mono ?_
  rintro e w' (⟨h1, h0, h2, h3⟩ | ⟨h1, _, h2, h3⟩)
  ·refine .inl ⟨h1, ?_, h2, h3⟩
   have h4 := Hl1.out
   unfold Dev.fails at h4
   omega
  ·exact .inr ⟨h1, h2, h3⟩
 have hF3 : JLeft w w3 a jb := HF1.out.trans ((JLeft.ofBelow hB2).trans (JLeft.ofBelow hB3))
 have Hp3 := Lib.hid hp3
 have Hl3 := Lib.hid hl3
 have HI3 := Lib.hid hI3
 have HF3 := Lib.hid hF3
 have Hlt : Hid (∀ k, vP.ownBlock = some k -> k < w2.heap.size) := fun k e => (hlt2 k e).2
 have Hs2 := Lib.hid (And.intro hs3 (And.intro hB2.size hB3.size))
 clear hT hB2 hp2 hI2 hlt2 hB3 hl3 hp3 hI3 hF3 Hpk Hp1 HF1 y1 y2 y3 y4 y5 hw0 hw1
 go_wp2_with fail
 refine hE.out.mono ?_
 rintro e w4 (⟨rfl, hln, hd4, hF4⟩ | ⟨rfl, hd4, hF4⟩)
 ·have hp4 := Hp3.out.left hF4 hd4
  obtain ⟨z1, z2, z3⟩ := hp4.cells
  have z7 : w4.cell? ⟨jb, 7, none⟩ = some (.bool false) := hp4.j.blk.cell 7
  have hfl : Hid (Calls Tryz.prog 126 #[.pointer (some ⟨a.d, 0, none⟩)] w4 fun e w' => e = .returned (.int .i64 14) /\ DevIs w' a (D.off (wrL (L.take D.left.toNat) o D.M)) /\ DLeft w4 w' a) := by
   have h1 := dFlush_any hd4 (on_on (k := L.length) (M := wrL L o D.M) Hu.out (by omega)).left (wrL_fine L o D.M Hf.out Hz.out Hb.out.1) (by show (wrL L o D.M).length <= _; rw [wrL_len]; have := Hb.out.2; omega)
   rw [step_off Hu.out _ L.length _ hln] at h1
   have e : L.take D.left.toNat = L := List.take_of_length_le (by omega)
   rw [e]
   exact h1
  have Hp4 := Lib.hid hp4
  have HF4 := Lib.hid (HF3.out.trans (JLeft.ofD hF4))
  clear hE hd4 hF4 hp4 Hp3 Hl3 HI3 HF3 hw3 hln
  go_wp2_with fail
  refine hfl.out.mono ?_
  rintro e w5 ⟨rfl, hd5, hF5⟩
  have hp5 := Hp4.out.left hF5 hd5
  have hB6 : Below w5.heap.size w5 (w5.alloc (.cells #[.bool false] 4)) := (Below.refl _ w5).alloc (Nat.le_refl _) _
  have hp6 := hp5.below hB6
  obtain ⟨z1, z2, z3⟩ := hp6.cells
  have z7 : (w5.alloc (.cells #[.bool false] 4)).cell? ⟨jb, 7, none⟩ = some (.bool false) := hp6.j.blk.cell 7
  have z8 : (w5.alloc (.cells #[.bool false] 4)).frozen? ⟨jb, 7, none⟩ = false := hp6.j.blk.frozen 7
  have Hfin : Hid (DevIs ((w5.alloc (.cells #[.bool false] 4)).setCell ⟨jb, 7, none⟩ (.bool true)) a (D.off (wrL (L.take D.left.toNat) o D.M)) /\ Blk ((w5.alloc (.cells #[.bool false] 4)).setCell ⟨jb, 7, none⟩ (.bool true)) jb 126 #[.pointer (some ⟨a.d, 0, none⟩), .int .i64 h, .int .i64 J.bank, .int .i64 J.used, .int .i64 ((N + 1 : Nat) : Int), v, .bool J.spoiled, .bool true] /\ JLeft w ((w5.alloc (.cells #[.bool false] 4)).setCell ⟨jb, 7, none⟩ (.bool true)) a jb) :=
   ⟨hp6.j.dev hp6.dev 7 _, hp6.j.blk.set_ 7 _, ((HF4.out.trans (JLeft.ofD hF5)).trans (JLeft.ofBelow hB6)).set 7 _⟩
  clear hfl hd5 hF5 hp5 hp6 hB6 Hp4 HF4
  go_wp2_with fail
  go_ret2
  exact ⟨rfl, Hfin.out.1, Hfin.out.2.1, Hfin.out.2.2⟩
 ·have hp5 := Hp3.out.left hF4 hd4
  have hB6 : Below w4.heap.size w4 (w4.alloc (.cells #[.bool false] 4)) := (Below.refl _ w4).alloc (Nat.le_refl _) _
  have hp6 := hp5.below hB6
  obtain ⟨z1, z2, z3⟩ := hp6.cells
  have z7 : (w4.alloc (.cells #[.bool false] 4)).cell? ⟨jb, 7, none⟩ = some (.bool false) := hp6.j.blk.cell 7
  have z8 : (w4.alloc (.cells #[.bool false] 4)).frozen? ⟨jb, 7, none⟩ = false := hp6.j.blk.frozen 7
  have Hfin : Hid (DevIs ((w4.alloc (.cells #[.bool false] 4)).setCell ⟨jb, 7, none⟩ (.bool true)) a (D.off (wrL (L.take D.left.toNat) o D.M)) /\ Blk ((w4.alloc (.cells #[.bool false] 4)).setCell ⟨jb, 7, none⟩ (.bool true)) jb 126 #[.pointer (some ⟨a.d, 0, none⟩), .int .i64 h, .int .i64 J.bank, .int .i64 J.used, .int .i64 ((N + 1 : Nat) : Int), v, .bool J.spoiled, .bool true] /\ JLeft w ((w4.alloc (.cells #[.bool false] 4)).setCell ⟨jb, 7, none⟩ (.bool true)) a jb) :=
   ⟨hp6.j.dev hp6.dev 7 _, hp6.j.blk.set_ 7 _, ((HF3.out.trans (JLeft.ofD hF4)).trans (JLeft.ofBelow hB6)).set 7 _⟩
  clear hE hd4 hF4 hp5 hp6 hB6 Hp3 Hl3 HI3 HF3 hw3
  go_wp2_with fail
  go_ret2
  exact ⟨rfl, Hfin.out.1, Hfin.out.2.1, Hfin.out.2.2⟩
end
end Go.Proofs.YtpghocekofdpbaaGreatDoor
namespace Go.Proofs.YtpghocekofdpbaaGreatDoor
open Go.RowKit Go.Shelf
open Sec (countN mostN countZ)
attribute [local go_sem] Oper.semAt_some
def JPostD (w : World) (a : DAt) (jb h : Nat) (R : (Int × Int) × Jrn × Dev) (e : Ending) (w' : World) : Prop :=
 ∃ v', e = .returned (.tuple #[.int .i64 R.1.1, .int .i64 R.1.2]) /\ DevIs w' a R.2.2 /\ JIs w' jb a h R.2.1 v' /\ JLeft w w' a jb
def JOffD (w : World) (a : DAt) (jb : Nat) (E : Dev) (e : Ending) (w' : World) : Prop :=
 e = .returned (.tuple #[.int .i64 0, .int .i64 14]) /\ DevIs w' a E /\ JLeft w w' a jb
section
variable {w w' : World} {a : DAt} {D : Dev} {jb h : Nat} {J : Jrn} {v : Value}
set_option maxRecDepth 100000 in
set_option maxHeartbeats 4000000 in
theorem vappend_ok (hd : DevIs w a D) (hup : DOn D) (hf : Fine D.M) (hc : Clean D.M) (hj : JIs w jb a h J v) (t : ByteArray) (hN : 1 <= J.next /\ J.next <= mostN) (ht : t.size <= 8000) (hs : J.spoiled = false) (hh : h <= 4096) (hu : J.used + countN t.size <= h) (_hbk : J.bank <= 1) (hb : J.bank * h + h <= D.M.length) (hD : D.M.length <= 4096)
  (hll : J.l.length <= 1048576) (hl : D.left < 0 \/ ((countN t.size + 1 : Nat) : Int) <= D.left) (hbad : badM (packB J.next t) (J.bank * h + J.used) (putM (packB J.next t) (J.bank * h + J.used) D.M) (countN t.size) = false) :
  Calls Tryz.prog 50 #[.pointer (some ⟨jb, 0, none⟩), .string t] w (JPostD w a jb h (((J.next : Int), 0), ⟨J.bank, J.used + countN t.size, J.next + 1, J.l ++ [(J.next, t)], false⟩, D.on (countN t.size + 1) (putM (packB J.next t) (J.bank * h + J.used) D.M))) := by
 have hcc := Sec.count_any (t.size : Int) w
 rw [countZ_good t ht] at hcc
 have hcp := Sec.count_pos t.size
 obtain ⟨mm, hmm⟩ : ∃ mm, J.bank * h = mm := ⟨_, rfl⟩
 have hmz : (J.bank : Int) * (h : Int) = (mm : Int) := by rw [<- hmm]; push_cast; rfl
 rw [hmm] at hb hbad ⊢
 clear hmm _hbk
 have hsum : mm + J.used <= 1048576 := by clear hN; omega
 have Hwo := Lib.hid (wrap_sum hsum)
 have d2 : decide (4611686018427387904 < (J.next : Int)) = false := by
  have h1 := hN.2
  have hm : mostN = 4611686018427387904 := rfl
  clear hb hu hh hcc hcp hmz
  exact decide_eq_false (by omega)
 have hN2 := Lib.hid hN
 clear hN
 have HP : Hid (∀ wq, Below w.heap.size w wq -> Calls Tryz.prog 88 #[.pointer (some ⟨jb, 0, none⟩), .int .i64 ((mm + J.used : Nat) : Int), .string t] wq fun e w' => e = .returned (.tuple #[.int .i64 (J.next : Int), .int .i64 0]) /\ DevIs w' a (D.on (countN t.size + 1) (putM (packB J.next t) (mm + J.used) D.M)) /\ JIs w' jb a h { J with next := J.next + 1 } v /\ JLeft wq w' a jb) := by
  intro wq hB
  exact vput_ok (hd.below hB) hup hf hc (hj.below hB) (mm + J.used) t hN2.out ht (by omega) hD hl hbad
 have HR := Lib.hid (jRoom_any hj (by omega) (by omega : h <= 1048576))
 obtain ⟨C, hC⟩ : ∃ C, countN t.size = C := ⟨_, rfl⟩
 rw [hC] at hcc hu hl HP ⊢
 have Hwu' := wrap_sum (x := J.used) (y := C) (Nat.le_trans hu (Nat.le_trans hh (by decide)))
 have Hwu := Lib.hid Hwu'
 clear Hwu'
 have HC := Lib.hid hcc
 obtain ⟨r, hr⟩ : ∃ r, h - J.used = r := ⟨_, rfl⟩
 rw [hr] at HR
 have d3 : decide (r < C) = false := decide_eq_false (by omega)
 have d3' : decide ((r : Int) < (C : Int)) = false := decide_eq_false (by omega)
 have hmle : mm <= 1048576 := by omega
 obtain ⟨o, ho⟩ : ∃ o, mm + J.used = o := ⟨_, rfl⟩
 rw [ho] at HP Hwo ⊢
 generalize D.on (C + 1) (putM (packB J.next t) o D.M) = E at HP ⊢
 obtain ⟨c0, c1, c2, c3, c4, c5, c6, c7⟩ := hj.cells
 rw [hs] at c6
 have d1 : decide (8000 < (t.size : Int)) = false := decide_eq_false (by omega)
 have HJ := Lib.hid hj
 have Hs := Lib.hid hs
 have Hll := Lib.hid hll
 clear hl hbad hd hup hf hc hj hN2 ht hs hll hr hC hu hh hcc hcp hb hD ho hsum
 unfold JPostD
 have hwo := Hwo.out
 have hwu := Hwu.out
 have hwm : wrap64 ((J.bank : Int) * (h : Int)) = (mm : Int) := by
  rw [hmz]
  exact wrap_small hmle
 clear Hwo Hwu
 have hwz : IntKind.i64.wrap (IntKind.i64.wrap ((J.bank : Int) * (h : Int)) + (J.used : Int)) = (o : Int) := by
  have e : ∀ x : Int, IntKind.i64.wrap x = wrap64 x := fun x => by rw [IntKind.wrap_i64, wrap64]
  rw [e, e, hwm, hwo]
 clear hmz hmle
 go_enter Tryz.func50, Tryz.ntmps50
 go_wp2_with (first | (go_at_call 39; refine HC.out.mono ?_; rintro e w1 ⟨rfl, rfl⟩) | (go_at_call 47; refine HR.out.mono ?_; rintro e w2 ⟨rfl, hB⟩))
 obtain ⟨b0, b1, b2, b3, b4, b5, b6, b7⟩ := (HJ.out.below hB).cells
 go_region_held3 (fun w' => w'.cell? ⟨jb, 2, none⟩ = some (.int .i64 J.bank) /\ w'.cell? ⟨jb, 1, none⟩ = some (.int .i64 h) /\ w'.cell? ⟨jb, 3, none⟩ = some (.int .i64 J.used)) (go_keep)
  (first | (go_at_call 88; refine (HP.out _ hB.drew).mono ?_; rintro e w3 ⟨rfl, hd3, hj3, hF3⟩; obtain ⟨e0, e1, e2, e3, e4, e5, e6, e7⟩ := hj3.cells))
 have f6 := hj3.blk.frozen 6
 rw [Hs.out] at e6
 have HB2 := Lib.hid hB
 clear b0 b1 b2 b3 b4 b5 b6 b7 c0 c1 c2 c3 c4 c5 c6 c7 HP HR HC hB
 obtain ⟨i0, hi, hz0, hz1, hz2⟩ := info_parts infoEnt
 obtain ⟨A, c, rfl, hnone, hcap⟩ : ∃ A c, v = .slice A J.l.length c /\ (A = none -> J.l.length = 0 /\ J.l.length = 0) /\ Hid ((A = none /\ c = 0 /\ J.l.length = 0) \/ ((∃ g, A = some ⟨g, 0, none⟩) /\ J.l.length <= c)) := by
  rcases hj3.row.2 with ⟨rfl, h0⟩ | ⟨g, cap, cur, rfl, _, _, hcap, _⟩
  ·exact ⟨none, 0, by rw [show J.l.length = 0 from h0], fun _ => ⟨h0, h0⟩, .inl ⟨rfl, rfl, h0⟩⟩
  ·exact ⟨_, cap, rfl, fun e => (by cases e), .inr ⟨⟨g, rfl⟩, hcap⟩⟩
 have hcl : Hid (Calls Tryz.prog 89 #[.slice A J.l.length c] w3 fun e w' => e = .returned (.slice A J.l.length J.l.length) /\ w3 = w') := by
  unfold Hid
  rcases hcap.out with ⟨rfl, rfl, h0⟩ | ⟨⟨g, rfl⟩, hc⟩
  ·rw [h0]; exact clip_nil w3
  ·exact clip_some w3 g _ _ hc
 have hold : Hid (∀ b, A = some b -> ∀ j u, (entCells J.l)[j]? = some u -> (w3.alloc (.cells #[.int .i64 (J.next : Int), .string t] 134)).cell? (b.add j) = some u) := by
  intro b hb j u hju
  subst hb
  rcases hcap.out with ⟨h0, _⟩ | ⟨⟨g, hg⟩, hc⟩
  ·cases h0
  ·cases hg
   have hjl : j < J.l.length * 2 := by rw [<- entCells_len]; exact (List.getElem?_eq_some_iff.1 hju).1
   rw [Addr.add_lit, Nat.zero_add, World.ownsRow.cellAt (hj3.row.alloc _) j hjl]
   exact hju
 have hlo : Hid ((entCells J.l).length = J.l.length * 2) := entCells_len J.l
 have hlb : Hid (J.l.length + 1 <= maxLen /\ (J.l.length + 1) * 24 <= 140737488355328) := by have := Hll.out; unfold Hid maxLen; omega
 have f5 := hj3.blk.frozen 5
 have f3 := hj3.blk.frozen 3
 have Hj3 := Lib.hid hj3
 have Hd3 := Lib.hid hd3
 have HF3 := Lib.hid hF3
 clear hj3 hd3 hF3
 go_wp2_with (first | (go_at_call 89; refine hcl.out.mono ?_; rintro e w4 ⟨rfl, rfl⟩) | (at_builtin; refine wpList_append_grows _ rfl _ _ 124 rfl 134 i0 _ 2 24 Tryz.underlying124 hi hz0 hz1 hz2 rfl (by decide) A J.l.length J.l.length (entCells J.l) rfl hnone ?c1 ?c2 ⟨w3.heap.size, 0, none⟩ 1 1 [.int .i64 (J.next : Int), .string t] rfl rfl ?c3 ?c4 ?c5 ?c6 ?c7 ?_))
 case c1 => exact hlo.out
 case c2 => exact hold.out
 case c3 => exact news_cells (Blk.new w3 134 #[.int .i64 (J.next : Int), .string t])
 case c4 => simp [Value.oneCell']
 case c5 => omega
 case c6 => exact hlb.out.1
 case c7 => exact hlb.out.2
 intro v5 w5 hr5 hg5
 obtain ⟨A5, c5', rfl⟩ := Sec.ownsRow_slice hr5
 have hg35 : w3.grownBy w5 none := grown_trans (grown_below ((Below.refl _ w3).alloc (Nat.le_refl _) _) (Nat.le_refl _) none) hg5
 have hb5 := Hj3.out.blk.grown hg35 (by simp)
 have y3 : w5.cell? ⟨jb, 3, none⟩ = some (.int .i64 (J.used : Int)) := hb5.cell 3
 have y5 : w5.cell? ⟨jb, 5, none⟩ = some (.slice A J.l.length c) := hb5.cell 5
 have g3 := hb5.frozen 3
 have g5 := hb5.frozen 5
 have hmo := Lib.hid (JIs.more (n := J.next) (C := C) (t := t) Hj3.out hg35 (ownsRow_more hr5 (by simp)))
 have hde := Lib.hid (dev_none Hd3.out hg35)
 have hsz := Lib.hid hg35
 clear hr5 hg5 hb5 hg35
 go_wp2_with fail
 go_ret2
 have h1 := hmo.out
 have hb5 := Hj3.out.blk.grown hsz.out (by simp)
 have hf : JLeft w3 w5 a jb := ⟨hsz.out.os, hsz.out.tape, hsz.out.output, hsz.out.size, fun k hk _ _ _ _ _ => hsz.out.block k hk (by simp)⟩
 have hd5 : DevIs (w5.setCell ⟨jb, 5, none⟩ (.slice A5 (J.l.length + 1) c5')) a E := isDev_past hde.out hb5 (by decide) (grown_set _ _ _ _)
 have hd6 : DevIs ((w5.setCell ⟨jb, 5, none⟩ (.slice A5 (J.l.length + 1) c5')).setCell ⟨jb, 3, none⟩ (.int .i64 ((J.used + C : Nat) : Int))) a E := isDev_past hd5 (hb5.set_ 5 _) (by decide) (grown_set _ _ _ _)
 have hq1 : JLeft w w2.drew a jb := JLeft.ofBelow HB2.out.drew
 have hq2 : JLeft w w3 a jb := hq1.trans HF3.out
 have hq3 : JLeft w3 ((w5.setCell ⟨jb, 5, none⟩ (.slice A5 (J.l.length + 1) c5')).setCell ⟨jb, 3, none⟩ (.int .i64 ((J.used + C : Nat) : Int))) a jb := (hf.set 5 _).set 3 _
 refine ⟨rfl, hd6, ⟨.slice A5 (J.l.length + 1) c5', ?_⟩, hq2.trans hq3⟩
 have e : (⟨J.bank, J.used + C, J.next + 1, J.l ++ [(J.next, t)], J.spoiled⟩ : Jrn) = ⟨J.bank, J.used + C, J.next + 1, J.l ++ [(J.next, t)], false⟩ := by rw [Hs.out]
 rw [<- e]
 exact h1
set_option maxRecDepth 100000 in
set_option maxHeartbeats 4000000 in
theorem vappend_off (hd : DevIs w a D) (hup : DOn D) (hf : Fine D.M) (hc : Clean D.M) (hj : JIs w jb a h J v) (t : ByteArray) (hN : 1 <= J.next /\ J.next <= mostN) (ht : t.size <= 8000) (hs : J.spoiled = false) (hh : h <= 4096) (hu : J.used + countN t.size <= h) (_hbk : J.bank <= 1) (hb : J.bank * h + h <= D.M.length) (hD : D.M.length <= 4096)
  (hll : J.l.length <= 1048576) (hl : D.fails (countN t.size + 1)) :
  Calls Tryz.prog 50 #[.pointer (some ⟨jb, 0, none⟩), .string t] w (JOffD w a jb (D.off (wrL ((packB J.next t).take D.left.toNat) (J.bank * h + J.used) D.M))) := by
 have hcc := Sec.count_any (t.size : Int) w
 rw [countZ_good t ht] at hcc
 have hcp := Sec.count_pos t.size
 obtain ⟨mm, hmm⟩ : ∃ mm, J.bank * h = mm := ⟨_, rfl⟩
 have hmz : (J.bank : Int) * (h : Int) = (mm : Int) := by rw [<- hmm]; push_cast; rfl
 rw [hmm] at hb ⊢
 clear hmm _hbk
 have hsum : mm + J.used <= 1048576 := by clear hN; omega
 have Hwo := Lib.hid (wrap_sum hsum)
 have d2 : decide (4611686018427387904 < (J.next : Int)) = false := by
  have h1 := hN.2
  have hm : mostN = 4611686018427387904 := rfl
  clear hb hu hh hcc hcp hmz
  exact decide_eq_false (by omega)
 have hN2 := Lib.hid hN
 clear hN
 have HP : Hid (∀ wq, Below w.heap.size w wq -> Calls Tryz.prog 88 #[.pointer (some ⟨jb, 0, none⟩), .int .i64 ((mm + J.used : Nat) : Int), .string t] wq fun e w' => e = .returned (.tuple #[.int .i64 0, .int .i64 14]) /\ DevIs w' a (D.off (wrL ((packB J.next t).take D.left.toNat) (mm + J.used) D.M)) /\ Blk w' jb 126 #[.pointer (some ⟨a.d, 0, none⟩), .int .i64 h, .int .i64 J.bank, .int .i64 J.used, .int .i64 ((J.next + 1 : Nat) : Int), v, .bool J.spoiled, .bool true] /\ JLeft wq w' a jb) := by
  intro wq hB
  exact vput_off (hd.below hB) hup hf hc (hj.below hB) (mm + J.used) t hN2.out ht (by omega) hD hl
 have HR := Lib.hid (jRoom_any hj (by omega) (by omega : h <= 1048576))
 obtain ⟨C, hC⟩ : ∃ C, countN t.size = C := ⟨_, rfl⟩
 rw [hC] at hcc hu hl
 have Hwu' := wrap_sum (x := J.used) (y := C) (Nat.le_trans hu (Nat.le_trans hh (by decide)))
 have Hwu := Lib.hid Hwu'
 clear Hwu'
 have HC := Lib.hid hcc
 obtain ⟨r, hr⟩ : ∃ r, h - J.used = r := ⟨_, rfl⟩
 rw [hr] at HR
 have d3 : decide (r < C) = false := decide_eq_false (by omega)
 have d3' : decide ((r : Int) < (C : Int)) = false := decide_eq_false (by omega)
 have hmle : mm <= 1048576 := by omega
 obtain ⟨o, ho⟩ : ∃ o, mm + J.used = o := ⟨_, rfl⟩
 rw [ho] at HP Hwo ⊢
 generalize D.off (wrL ((packB J.next t).take D.left.toNat) o D.M) = E at HP ⊢
 obtain ⟨c0, c1, c2, c3, c4, c5, c6, c7⟩ := hj.cells
 rw [hs] at c6
 have d1 : decide (8000 < (t.size : Int)) = false := decide_eq_false (by omega)
 have HJ := Lib.hid hj
 have Hs := Lib.hid hs
 have Hll := Lib.hid hll
 clear hl hd hup hf hc hj hN2 ht hs hll hr hC hu hh hcc hcp hb hD ho hsum
 unfold JOffD
 have hwo := Hwo.out
 have hwu := Hwu.out
 have hwm : wrap64 ((J.bank : Int) * (h : Int)) = (mm : Int) := by
  rw [hmz]
  exact wrap_small hmle
 clear Hwo Hwu
 have hwz : IntKind.i64.wrap (IntKind.i64.wrap ((J.bank : Int) * (h : Int)) + (J.used : Int)) = (o : Int) := by
  have e : ∀ x : Int, IntKind.i64.wrap x = wrap64 x := fun x => by rw [IntKind.wrap_i64, wrap64]
  rw [e, e, hwm, hwo]
 clear hmz hmle
 go_enter Tryz.func50, Tryz.ntmps50
 go_wp2_with (first | (go_at_call 39; refine HC.out.mono ?_; rintro e w1 ⟨rfl, rfl⟩) | (go_at_call 47; refine HR.out.mono ?_; rintro e w2 ⟨rfl, hB⟩))
 obtain ⟨b0, b1, b2, b3, b4, b5, b6, b7⟩ := (HJ.out.below hB).cells
 go_region_held3 (fun w' => w'.cell? ⟨jb, 2, none⟩ = some (.int .i64 J.bank) /\ w'.cell? ⟨jb, 1, none⟩ = some (.int .i64 h) /\ w'.cell? ⟨jb, 3, none⟩ = some (.int .i64 J.used)) (go_keep)
  (first | (go_at_call 88; refine (HP.out _ hB.drew).mono ?_; rintro e w3 ⟨rfl, hd3, hj3, hF3⟩; have e1 := hj3.cell 1; have e2 := hj3.cell 2; have e3 := hj3.cell 3; have e6 := hj3.cell 6))
 have f6 := hj3.frozen 6
 have e6b : w3.cell? ⟨jb, 6, none⟩ = some (.bool false) := e6.trans (by show (some (Value.bool J.spoiled)) = _; rw [Hs.out])
 clear e6
 have HB2 := Lib.hid hB
 clear b0 b1 b2 b3 b4 b5 b6 b7 c0 c1 c2 c3 c4 c5 c6 c7 HP HR HC hB
 have hfin : Hid (DevIs (w3.setCell ⟨jb, 6, none⟩ (.bool false)) a E /\ JLeft w (w3.setCell ⟨jb, 6, none⟩ (.bool false)) a jb) :=
  ⟨isDev_past hd3 hj3 (by decide) (grown_set _ _ _ _), (JLeft.ofBelow HB2.out.drew).trans (hF3.set 6 _)⟩
 clear hd3 hj3 hF3
 go_wp2_with fail
 go_ret2
 exact ⟨rfl, hfin.out.1, hfin.out.2⟩
end
end Go.Proofs.YtpghocekofdpbaaGreatDoor
