import Derived.Test.YtpghocekofdpbaaGreatDoorQb47
import Derived.Test.YtpghocekofdpbaaGreatDoorQb51
import Derived.Test.YtpghocekofdpbaaGreatDoorQb35
import Derived.Test.YtpghocekofdpbaaGreatDoorQb49
import Derived.Test.YtpghocekofdpbaaGreatDoorQb48
namespace Go.Proofs.YtpghocekofdpbaaGreatDoor
open Go.RowKit Go.Shelf
attribute [local go_sem] Oper.semAt_some
def InZ (n : Int) : Prop := -9223372036854775808 <= n /\ n < 9223372036854775808
theorem intz_txt (w : World) (n : Int) (hn : InZ n) : Calls Tryz.prog 42 #[.int .i64 n] w fun e w' => ∃ v, e = .returned v /\ (convert 66 9 v).run Tryz.prog w' = .ok (.string (txt (intZ n))) w' /\ Below w.heap.size w w' := by
 obtain ⟨h1, h2⟩ := hn
 by_cases h0 : 0 <= n
 ·obtain ⟨m, rfl⟩ := Int.eq_ofNat_of_zero_le h0
  rw [intZ_pos]
  refine (int_any w m (by omega)).mono ?_
  rintro e w' ⟨v, rfl, hR, hB⟩
  exact ⟨v, rfl, conv_row hR, hB⟩
 ·obtain ⟨m, hm⟩ := Int.eq_ofNat_of_zero_le (show 0 <= -1 - n by omega)
  obtain rfl : n = -1 - (m : Int) := by omega
  rw [intZ_neg]
  refine (int_neg w m (by omega)).mono ?_
  rintro e w' ⟨v, rfl, hR, hB⟩
  exact ⟨v, rfl, conv_row hR, hB⟩
theorem rintz_txt (w : World) (n : Int) (hn : InZ n) : Calls Tryz.prog 43 #[.int .i64 n] w fun e w' => ∃ v, e = .returned v /\ (convert 66 9 v).run Tryz.prog w' = .ok (.string (txt (intZ n))) w' /\ Below w.heap.size w w' := by
 obtain ⟨h1, h2⟩ := hn
 by_cases h0 : 0 <= n
 ·obtain ⟨m, rfl⟩ := Int.eq_ofNat_of_zero_le h0
  rw [intZ_pos]
  refine (rint_any w m (by omega)).mono ?_
  rintro e w' ⟨v, rfl, hR, hB⟩
  exact ⟨v, rfl, conv_row hR, hB⟩
 ·obtain ⟨m, hm⟩ := Int.eq_ofNat_of_zero_le (show 0 <= -1 - n by omega)
  obtain rfl : n = -1 - (m : Int) := by omega
  rw [intZ_neg]
  refine (rint_neg w m (by omega)).mono ?_
  rintro e w' ⟨v, rfl, hR, hB⟩
  exact ⟨v, rfl, conv_row hR, hB⟩
theorem intZT_size (n : Int) : (txt (intZ n)).size <= 9 := by rw [txt_size]; exact intZ_len n
def linkZ (chain : ByteArray) (n : Int) (blob : ByteArray) : ByteArray := txt (macL (bl chain) (intZ n ++ bl blob))
set_option maxRecDepth 100000 in
set_option maxHeartbeats 1600000 in
theorem vlinkZ_any (w : World) (chain blob : ByteArray) (n : Int) (hn : InZ n) (hc : chain.size < 1000000000) (hb : blob.size <= 1000000) (hK : KAt w 1) :
  Calls Tryz.prog 11 #[.string chain, .int .i64 n, .string blob] w fun e w' => e = .returned (.string (linkZ chain n blob)) /\ Below w.heap.size w w' := by
 have HI := Lib.hid (intz_txt w n hn)
 have hIs := intZT_size n
 obtain ⟨I, hI⟩ : ∃ I, txt (intZ n) = I := ⟨_, rfl⟩
 rw [hI] at HI hIs
 obtain ⟨T, hT⟩ : ∃ T, I ++ blob = T := ⟨_, rfl⟩
 have hTs : T.size <= 1000009 := by rw [<- hT, ByteArray.size_append]; omega
 have hA : ∀ wx, (Op.stringOp .add I blob).run Tryz.prog wx = .ok (.string T) wx := fun wx => by rw [<- hT]; exact run_string_add_sum wx _ _ (by omega)
 have hfin : Hid (txt (macL (bl chain) (bl T)) = linkZ chain n blob) := by unfold Hid linkZ; rw [<- hT, bl_append, <- hI, bl_txt]
 have HM : Hid (∀ wx, Below w.heap.size w wx -> Calls Tryz.prog 41 #[.string chain, .string T] wx fun e w' => e = .returned (.string (linkZ chain n blob)) /\ Below wx.heap.size wx w') := fun wx hB => by
  have h := mac_any wx chain T (hK.below hB) (by omega) (by omega)
  rw [hfin.out] at h
  exact h
 clear hI hT hfin hK hb hc hn hIs hTs
 generalize linkZ chain n blob = L at *
 go_enter Tryz.func11, Tryz.ntmps11
 go_wp2_with (first | (go_at_call 42; refine HI.out.mono ?_; rintro e w1 ⟨v, rfl, hcv, hB1⟩; have HB1 := Lib.hid hB1; clear hB1) | (go_at_call 41; refine (HM.out _ HB1.out).mono ?_; rintro e w2 ⟨rfl, hB2⟩; have HB2 := Lib.hid (HB1.out.trans (hB2.mono HB1.out.size)); clear hB2) | fail)
 go_ret
 exact ⟨rfl, HB2.out⟩
set_option maxRecDepth 100000 in
set_option maxHeartbeats 1600000 in
theorem rlinkZ_any (w : World) (chain blob : ByteArray) (n : Int) (hn : InZ n) (hc : chain.size < 1000000000) (hb : blob.size <= 1000000) (hK : KAt w 0) :
  Calls Tryz.prog 12 #[.string chain, .int .i64 n, .string blob] w fun e w' => e = .returned (.string (linkZ chain n blob)) /\ Below w.heap.size w w' := by
 have HI := Lib.hid (rintz_txt w n hn)
 have hIs := intZT_size n
 obtain ⟨I, hI⟩ : ∃ I, txt (intZ n) = I := ⟨_, rfl⟩
 rw [hI] at HI hIs
 obtain ⟨T, hT⟩ : ∃ T, I ++ blob = T := ⟨_, rfl⟩
 have hTs : T.size <= 1000009 := by rw [<- hT, ByteArray.size_append]; omega
 have hA : ∀ wx, (Op.stringOp .add I blob).run Tryz.prog wx = .ok (.string T) wx := fun wx => by rw [<- hT]; exact run_string_add_sum wx _ _ (by omega)
 have hfin : Hid (txt (macL (bl chain) (bl T)) = linkZ chain n blob) := by unfold Hid linkZ; rw [<- hT, bl_append, <- hI, bl_txt]
 have HM : Hid (∀ wx, Below w.heap.size w wx -> Calls Tryz.prog 44 #[.string chain, .string T] wx fun e w' => e = .returned (.string (linkZ chain n blob)) /\ Below wx.heap.size wx w') := fun wx hB => by
  have h := rmac_any wx chain T hc (by omega) (hK.below hB)
  rw [hfin.out] at h
  exact h
 clear hI hT hfin hK hb hc hn hIs hTs
 generalize linkZ chain n blob = L at *
 go_enter Tryz.func12, Tryz.ntmps12
 go_wp2_with (first | (go_at_call 43; refine HI.out.mono ?_; rintro e w1 ⟨v, rfl, hcv, hB1⟩; have HB1 := Lib.hid hB1; clear hB1) | (go_at_call 44; refine (HM.out _ HB1.out).mono ?_; rintro e w2 ⟨rfl, hB2⟩; have HB2 := Lib.hid (HB1.out.trans (hB2.mono HB1.out.size)); clear hB2) | fail)
 go_ret
 exact ⟨rfl, HB2.out⟩
set_option maxRecDepth 100000 in
set_option maxHeartbeats 1600000 in
theorem rsize_any (w : World) (n : Int) : Calls Tryz.prog 10 #[.int .i64 n] w fun e w' => e = .returned (.int .i64 (vsizeZ n)) /\ w = w' := by
 unfold vsizeZ
 by_cases h0 : n < 0
 ·have d0 : decide (n < 0) = true := decide_eq_true h0
  rw [if_pos (.inl h0)]
  go_enter Tryz.func10, Tryz.ntmps10
  go_wp2_with fail
  go_ret
  exact ⟨rfl, rfl⟩
 ·have d0 : decide (n < 0) = false := decide_eq_false h0
  by_cases h1 : 7971 < n
  ·have d1 : decide (7971 < n) = true := decide_eq_true h1
   rw [if_pos (.inr h1)]
   go_enter Tryz.func10, Tryz.ntmps10
   go_wp2_with fail
   go_ret
   exact ⟨rfl, rfl⟩
  ·have d1 : decide (7971 < n) = false := decide_eq_false h1
   rw [if_neg (by omega)]
   obtain ⟨p, hp⟩ : ∃ p : Int, n + 29 = p := ⟨_, rfl⟩
   have w1 : wrap64 (n + 29) = p := by unfold wrap64; omega
   have HC := Sec.rcount_any p w
   have e : Sec.countZ p = Sec.countN (n.toNat + 29) := by
    unfold Sec.countZ
    rw [if_pos (by omega)]
    congr 2
    omega
   rw [e] at HC
   have HCH := Lib.hid HC
   clear HC e hp h1 h0
   generalize Sec.countN (n.toNat + 29) = K at *
   go_enter Tryz.func10, Tryz.ntmps10
   go_wp2_with (first | (go_at_call 40; refine HCH.out.mono ?_; rintro e w1 ⟨rfl, rfl⟩))
   go_ret
   exact ⟨rfl, rfl⟩
end Go.Proofs.YtpghocekofdpbaaGreatDoor
namespace Go.Proofs.YtpghocekofdpbaaGreatDoor
open Go.RowKit Go.Shelf
open Sec (countN)
attribute [local go_sem] Oper.semAt_some
section
variable {W w w' : World} {x : VAt} {h b pb : Nat} {V V' : Vlt} {D : Dev} {p u : Value}
def US (W w : World) (x : VAt) (pb h : Nat) (V : Vlt) (b : Nat) : Prop := ∃ lo D p u, PSt W w { x with lo := lo } pb h V D b p u /\ D.left = -1
theorem US.on (k : US W w x pb h V b) (hB : Below w.heap.size w w') : US W w' x pb h V b := by
 obtain ⟨lo, D, p, u, h, hl⟩ := k
 exact ⟨lo, D, p, u, h.on hB, hl⟩
theorem US.bel (k : US W w x pb h V b) : Below W.heap.size W w := by
 obtain ⟨lo, D, p, u, h, hl⟩ := k
 exact h.bel
theorem US.cell (k : US W w x pb h V b) : w.cell? ⟨pb, 1, none⟩ = some (.pointer (some ⟨x.vb, 0, none⟩)) := by
 obtain ⟨lo, D, p, u, h, hl⟩ := k
 exact h.pl.cell 1
theorem US.used (k : US W w x pb h V b) : V.J.used <= h /\ h <= 12 := by
 obtain ⟨lo, D, p, u, h, hl⟩ := k
 exact ⟨h.inv.jok.inv.used, h.hh⟩
theorem US.room (k : US W w x pb h V b) : Calls Tryz.prog 15 #[.pointer (some ⟨x.vb, 0, none⟩)] w fun e w' => e = .returned (.int .i64 ((h - V.J.used : Nat) : Int)) /\ Below w.heap.size w w' := by
 obtain ⟨h1, h2⟩ := k.used
 obtain ⟨lo, D, p, u, q, hl⟩ := k
 exact vroom_any (x := { x with lo := lo }) q.vis h1 (by omega)
theorem US.fit (k : US W w x pb h V b) (hK : KAt W 1) (hb : b < 250) (t : ByteArray) (ht : t.size <= 7971) (hr : V.J.used + countN (t.size + 29) <= h) :
  Calls Tryz.prog 16 #[.pointer (some ⟨x.vb, 0, none⟩), .string t] w fun e w' => e = .returned (.int .i64 0) /\ ∃ V', V'.J.used = V.J.used + countN (t.size + 29) /\ Hid (US W w' x pb h V' (b + 1)) := by
 obtain ⟨lo, D, p, u, h, hl⟩ := k
 obtain ⟨h1, h2⟩ := commit_full h.inv (by omega) hl t ht hr
 refine (h.commit (by omega) hK t ht).mono ?_
 intro e w' hp
 obtain ⟨lo', p', u', hs, _⟩ := h.next hp (V' := vadd V t) (c := b + 1) (by rw [h1]) h2 (commit_len t)
 have he := hp.1
 rw [h1] at he
 refine ⟨he, vadd V t, ?_, lo', _, p', u', hs, commit_left hl t⟩
 show V.J.used + countN (blobOf V.root V.J.next (recT t)).size = _
 rw [blobOf_size, recT_size]
theorem US.full (k : US W w x pb h V b) (hK : KAt W 1) (hb : b < 250) (t : ByteArray) (ht : t.size <= 7971) (hr : h < V.J.used + countN (t.size + 29)) :
  Calls Tryz.prog 16 #[.pointer (some ⟨x.vb, 0, none⟩), .string t] w fun e w' => e = .returned (.int .i64 15) /\ Hid (US W w' x pb h V (b + 1)) := by
 obtain ⟨lo, D, p, u, q, hl⟩ := k
 have h1 : vcommit h V D t = (15, some V, D) := by
  rcases commit_out q.inv (by omega : b < 255) t ht with ⟨_, e⟩ | ⟨a, _⟩ | ⟨a, _⟩
  ·exact e
  ·omega
  ·omega
 refine (q.commit (by omega) hK t ht).mono ?_
 intro e w' hp
 obtain ⟨lo', p', u', hs, _⟩ := q.next hp (V' := V) (c := b + 1) (by rw [h1]) (by rw [h1]; exact q.inv.up (Nat.le_succ b)) (commit_len t)
 have he := hp.1
 rw [h1] at he
 exact ⟨he, lo', _, p', u', hs, commit_left hl t⟩
end
section
variable {W : World}
set_option maxRecDepth 100000 in
set_option maxHeartbeats 8000000 in
theorem room_loop (HS0 : Calls Tryz.prog 8 #[] W fun e w' => e = .returned (.bool true) /\ Below W.heap.size W w') (hK : KAt W 1) (hK2 : KAt W 0) (n : Nat) (hn : 2 <= n /\ n <= 24) (v : Value) (ops : List JStep) (hv : JStepsAt W v ops) (ho : ∀ (i : Nat) (o : JStep), ops[i]? = some o -> o.ok) (hN : ops.length <= 16) (z : Int) (hz : InZ z) (ch : ByteArray) (hc : ch.size <= 100) :
  Calls Tryz.prog 3 #[.int .i64 n, v, .int .i64 z, .string ch] W fun e w' => e = .returned (.bool true) /\ Below W.heap.size W w' := by
 obtain ⟨A, c, rfl, hA⟩ := hv
 have HS := Lib.hid HS0
 have HA := Lib.hid hA
 have HO := Lib.hid ho
 have HN := Lib.hid hN
 have HK := Lib.hid hK
 have HBg : Hid (∀ wx, Below W.heap.size W wx -> Calls Tryz.prog 13 #[.int .i64 n, .int .u8 1] wx fun e w' => ∃ x pb p u, e = .returned (.tuple #[.pointer (some ⟨pb, 0, none⟩), .bool true]) /\ Begun W wx w' (n / 2) (vnew n 1) (dnew n 1) x pb p u) := fun wx hB => begin_ok hB n 1 hn (by decide)
 have HZ1 := Lib.hid (fun wx => vsize_any wx z)
 have HZ2 := Lib.hid (fun wx => rsize_any wx z)
 have HL1 : Hid (∀ wx, Below W.heap.size W wx -> Calls Tryz.prog 11 #[.string ch, .int .i64 z, .string ch] wx fun e w' => e = .returned (.string (linkZ ch z ch)) /\ Below wx.heap.size wx w') := fun wx hB => vlinkZ_any wx ch ch z hz (by omega) (by omega) (hK.below hB)
 have HL2 : Hid (∀ wx, Below W.heap.size W wx -> Calls Tryz.prog 12 #[.string ch, .int .i64 z, .string ch] wx fun e w' => e = .returned (.string (linkZ ch z ch)) /\ Below wx.heap.size wx w') := fun wx hB => rlinkZ_any wx ch ch z hz (by omega) (by omega) (hK2.below hB)
 have d2 : decide (24 < n) = false := decide_eq_false (by omega)
 have d2' : decide (24 < (n : Int)) = false := decide_eq_false (by omega)
 have d3 : decide (16 < ops.length) = false := decide_eq_false (by omega)
 have d3' : decide (16 < (ops.length : Int)) = false := decide_eq_false (by omega)
 have d4 : decide (100 < ch.size) = false := decide_eq_false (by omega)
 have d4' : decide (100 < (ch.size : Int)) = false := decide_eq_false (by omega)
 have HL0 : Hid ((dnew n 1).left = -1) := rfl
 generalize vnew n 1 = V0 at HBg
 generalize dnew n 1 = D0 at HBg HL0
 generalize vsizeZ z = Z at HZ1 HZ2
 generalize linkZ ch z ch = L at HL1 HL2
 have hLL : (L.toList == L.toList) = true := beq_self_eq_true _
 obtain ⟨h, hh⟩ : ∃ h, n / 2 = h := ⟨_, rfl⟩
 rw [hh] at HBg
 clear hA ho hn hN hh hK hK2 hz hc HS0
 go_enter Tryz.func3, Tryz.ntmps3
 go_wp2_with (first
  | (go_at_call 8; refine HS.out.mono ?_; rintro e w1 ⟨rfl, hB⟩; have HB1 := Lib.hid hB; clear hB)
  | (go_at_call 9; refine (HZ1.out _).mono ?_; rintro e w1x ⟨rfl, rfl⟩)
  | (go_at_call 10; refine (HZ2.out _).mono ?_; rintro e w1x ⟨rfl, rfl⟩)
  | (go_at_call 11; refine (HL1.out _ HB1.out).mono ?_; rintro e w2 ⟨rfl, hB⟩; have HB2 := Lib.hid (HB1.out.trans (hB.mono HB1.out.size)); clear hB)
  | (go_at_call 12; refine (HL2.out _ HB2.out).mono ?_; rintro e w3 ⟨rfl, hB⟩; have HB3 := Lib.hid (HB2.out.trans (hB.mono HB2.out.size)); clear hB)
  | (go_at_call 13; refine (HBg.out _ HB3.out).mono ?_; rintro e w4 ⟨x, pb, p, u, rfl, hG⟩; have HG1 := Lib.hid hG; clear hG))
 have hT : Hid (US W w4 x pb h V0 1) := ⟨x.lo, D0, p, u, HG1.out.st, HL0.out⟩
 clear HG1 HBg HS HB1 HB2 HB3 HL0 HZ1 HZ2 HL1 HL2 hLL d4 d4'
 go_loopw [12] (fun i wr => ∃ (k : Nat) (V : Vlt), k <= ops.length /\ i = .int .i64 k /\ Hid (US W wr x pb h V (k + 1))) (fun i _ => ops.length - (intOf i).toNat)
 case atStart => exact ⟨0, V0, Nat.zero_le _, rfl, hT⟩
 case round =>
  clear hT
  obtain ⟨k, V, hk, rfl, H⟩ := hrel
  have hwk : wrap64 ((k : Int) + 1) = (k : Int) + 1 := by have := HN.out; unfold wrap64; omega
  by_cases hkl : k < ops.length
  ·have Hkl := Lib.hid hkl
   obtain ⟨o, hk0⟩ : ∃ o, ops[k]? = some o := ⟨_, List.getElem?_eq_getElem hkl⟩
   obtain ⟨B, off, rfl, hbl, hat⟩ := HA.out (by omega)
   obtain ⟨A1, n1, cc, g0, g1, g2, g3, g4, hok⟩ := (hat k o hk0).below hbl H.out.bel
   have hoo := Lib.hid (HO.out k o hk0)
   have hd1 : decide (k < ops.length) = true := decide_eq_true hkl
   have Hk11 : Hid (k + 1 < 250) := by have := HN.out; unfold Hid; omega
   have HT := Lib.hid (fun wx => rText26_any wx o.kind o.n o.size o.fill hoo.out.1 A1 n1 cc)
   obtain ⟨t, ht⟩ : ∃ t, text26 o.fill o.size = t := ⟨_, rfl⟩
   have hts : Hid (t.size <= 300) := by unfold Hid; rw [<- ht, text26_size]; exact len26_le _
   rw [ht] at HT
   obtain ⟨C, hC⟩ : ∃ C, countN (t.size + 29) = C := ⟨_, rfl⟩
   have hZt : vsizeZ (t.size : Int) = (C : Int) := by
    unfold vsizeZ
    have := hts.out
    rw [if_neg (by omega), Int.toNat_natCast, hC]
   have HSz := Lib.hid (fun wx => vsize_any wx (t.size : Int))
   rw [hZt] at HSz
   obtain ⟨r, hr⟩ : ∃ r, h - V.J.used = r := ⟨_, rfl⟩
   have HC := Lib.hid hC
   have Hr := Lib.hid hr
   clear hat hok hkl hk0 ht hC hZt hr
   go_wp2_with fail
   refine (HT.out _).mono ?_
   rintro e w1 ⟨rfl, hB1⟩
   have H1 := Lib.hid (H.out.on hB1)
   clear g0 g1 g2 g3 g4 hB1 H
   have y1 := H1.out.cell
   have HR := Lib.hid H1.out.room
   rw [Hr.out] at HR
   go_wp2_with fail
   refine HR.out.mono ?_
   rintro e w2 ⟨rfl, hB2⟩
   have H2 := Lib.hid (H1.out.on hB2)
   clear y1 hB2 H1 HR
   have y1 := H2.out.cell
   go_wp2_with fail
   refine (HSz.out _).mono ?_
   rintro e w3 ⟨rfl, rfl⟩
   have hus := Lib.hid H2.out.used
   by_cases hcr : r < C
   ·have e1 : decide (r < C) = true := decide_eq_true hcr
    have e2 : decide (C <= r) = false := decide_eq_false (by omega)
    have HF := Lib.hid (H2.out.full HK.out Hk11.out t (by have := hts.out; omega) (by have := Hr.out; have := HC.out; have := hus.out; omega))
    clear hcr
    go_wp2_with fail
    refine HF.out.mono ?_
    rintro e w4 ⟨rfl, H3⟩
    have HR := Lib.hid H3.out.room
    rw [Hr.out] at HR
    clear y1 H2 HF
    have y1 := H3.out.cell
    go_wp2_with fail
    refine HR.out.mono ?_
    rintro e w5 ⟨rfl, hB5⟩
    have H4 := Lib.hid (H3.out.on hB5)
    clear y1 hB5 H3 HR
    go_wp2_with fail
    go_roundw
    case rel => exact ⟨k + 1, _, Hkl.out, by go_num, H4⟩
    case measure => rw [hwk]; exact meas_up Hkl.out
   ·have e1 : decide (r < C) = false := decide_eq_false hcr
    have e2 : decide (C <= r) = true := decide_eq_true (by omega)
    have hfit : V.J.used + countN (t.size + 29) <= h := by
     have := Hr.out
     have h2 := HC.out
     have := hus.out
     have hc1 : 1 <= countN (t.size + 29) := Sec.count_pos _
     omega
    have HF := Lib.hid (H2.out.fit HK.out Hk11.out t (by have := hts.out; omega) hfit)
    clear hcr hfit
    go_wp2_with fail
    refine HF.out.mono ?_
    rintro e w4 ⟨rfl, V', hu', H3⟩
    have HR := Lib.hid H3.out.room
    obtain ⟨r', hr'⟩ : ∃ r', h - V'.J.used = r' := ⟨_, rfl⟩
    have hsb : wrap64 ((r : Int) - (C : Int)) = (r' : Int) := by
     have h1 := Hr.out
     have h2 := HC.out
     have h3 := hus.out
     have h4 := H3.out.used
     rw [h2] at hu'
     unfold wrap64
     omega
    rw [hr'] at HR
    clear y1 H2 HF hr' hu'
    have y1 := H3.out.cell
    go_wp2_with fail
    refine HR.out.mono ?_
    rintro e w5 ⟨rfl, hB5⟩
    have H4 := Lib.hid (H3.out.on hB5)
    clear y1 hB5 H3 HR
    go_wp2_with fail
    go_roundw
    case rel => exact ⟨k + 1, _, Hkl.out, by go_num, H4⟩
    case measure => rw [hwk]; exact meas_up Hkl.out
  ·have hd1 : decide (k < ops.length) = false := decide_eq_false hkl
   clear hkl hk hwk
   go_wp2_with fail
   go_ret
   exact ⟨rfl, H.out.bel⟩
set_option maxRecDepth 100000 in
set_option maxHeartbeats 1600000 in
theorem room_far (HS0 : Calls Tryz.prog 8 #[] W fun e w' => e = .returned (.bool true) /\ Below W.heap.size W w') (x z : Int) (A : Option Addr) (N c : Nat) (ch : ByteArray) (h : ¬ (x <= 24 /\ N <= 16 /\ ch.size <= 100)) :
  Calls Tryz.prog 3 #[.int .i64 x, .slice A N c, .int .i64 z, .string ch] W fun e w' => e = .returned (.bool true) /\ Below W.heap.size W w' := by
 have HS := Lib.hid HS0
 by_cases h2 : 24 < x
 ·have d2 : decide (24 < x) = true := decide_eq_true h2
  clear h h2 HS0
  go_enter Tryz.func3, Tryz.ntmps3
  go_wp2_with (first | (go_at_call 8; refine HS.out.mono ?_; rintro e w1 ⟨rfl, hB⟩))
  go_ret
  exact ⟨rfl, hB⟩
 ·have d2 : decide (24 < x) = false := decide_eq_false h2
  by_cases h3 : 16 < N
  ·have d3 : decide (16 < N) = true := decide_eq_true h3
   have d3' : decide (16 < (N : Int)) = true := decide_eq_true (by omega)
   clear h h2 h3 HS0
   go_enter Tryz.func3, Tryz.ntmps3
   go_wp2_with (first | (go_at_call 8; refine HS.out.mono ?_; rintro e w1 ⟨rfl, hB⟩))
   go_ret
   exact ⟨rfl, hB⟩
  ·have d3 : decide (16 < N) = false := decide_eq_false h3
   have d3' : decide (16 < (N : Int)) = false := decide_eq_false (by omega)
   have h4 : 100 < ch.size := by omega
   have d4 : decide (100 < ch.size) = true := decide_eq_true h4
   have d4' : decide (100 < (ch.size : Int)) = true := decide_eq_true (by omega)
   clear h h2 h3 h4 HS0
   go_enter Tryz.func3, Tryz.ntmps3
   go_wp2_with (first | (go_at_call 8; refine HS.out.mono ?_; rintro e w1 ⟨rfl, hB⟩))
   go_ret
   exact ⟨rfl, hB⟩
set_option maxRecDepth 100000 in
set_option maxHeartbeats 1600000 in
theorem room_few (HS0 : Calls Tryz.prog 8 #[] W fun e w' => e = .returned (.bool true) /\ Below W.heap.size W w') (hK : KAt W 1) (hK2 : KAt W 0) (x z : Int) (hz : InZ z) (A : Option Addr) (N c : Nat) (ch : ByteArray) (hx : x < 2) (hN : N <= 16) (hc : ch.size <= 100) :
  Calls Tryz.prog 3 #[.int .i64 x, .slice A N c, .int .i64 z, .string ch] W fun e w' => e = .returned (.bool true) /\ Below W.heap.size W w' := by
 have HS := Lib.hid HS0
 have HBg : Hid (∀ wx, Calls Tryz.prog 13 #[.int .i64 x, .int .u8 1] wx fun e w' => e = .returned (.tuple #[.pointer none, .bool false]) /\ Below wx.heap.size wx w') := fun wx => begin_bad x 1 (by decide) hx
 have HZ1 := Lib.hid (fun wx => vsize_any wx z)
 have HZ2 := Lib.hid (fun wx => rsize_any wx z)
 have HL1 : Hid (∀ wx, Below W.heap.size W wx -> Calls Tryz.prog 11 #[.string ch, .int .i64 z, .string ch] wx fun e w' => e = .returned (.string (linkZ ch z ch)) /\ Below wx.heap.size wx w') := fun wx hB => vlinkZ_any wx ch ch z hz (by omega) (by omega) (hK.below hB)
 have HL2 : Hid (∀ wx, Below W.heap.size W wx -> Calls Tryz.prog 12 #[.string ch, .int .i64 z, .string ch] wx fun e w' => e = .returned (.string (linkZ ch z ch)) /\ Below wx.heap.size wx w') := fun wx hB => rlinkZ_any wx ch ch z hz (by omega) (by omega) (hK2.below hB)
 have d2 : decide (24 < x) = false := decide_eq_false (by omega)
 have d3 : decide (16 < N) = false := decide_eq_false (by omega)
 have d3' : decide (16 < (N : Int)) = false := decide_eq_false (by omega)
 have d4 : decide (100 < ch.size) = false := decide_eq_false (by omega)
 have d4' : decide (100 < (ch.size : Int)) = false := decide_eq_false (by omega)
 generalize vsizeZ z = Z at HZ1 HZ2
 generalize linkZ ch z ch = L at HL1 HL2
 have hLL : (L.toList == L.toList) = true := beq_self_eq_true _
 clear hN hK hK2 hz hc HS0 hx
 go_enter Tryz.func3, Tryz.ntmps3
 go_wp2_with (first
  | (go_at_call 8; refine HS.out.mono ?_; rintro e w1 ⟨rfl, hB⟩; have HB1 := Lib.hid hB; clear hB)
  | (go_at_call 9; refine (HZ1.out _).mono ?_; rintro e w1x ⟨rfl, rfl⟩)
  | (go_at_call 10; refine (HZ2.out _).mono ?_; rintro e w1x ⟨rfl, rfl⟩)
  | (go_at_call 11; refine (HL1.out _ HB1.out).mono ?_; rintro e w2 ⟨rfl, hB⟩; have HB2 := Lib.hid (HB1.out.trans (hB.mono HB1.out.size)); clear hB)
  | (go_at_call 12; refine (HL2.out _ HB2.out).mono ?_; rintro e w3 ⟨rfl, hB⟩; have HB3 := Lib.hid (HB2.out.trans (hB.mono HB2.out.size)); clear hB)
  | (go_at_call 13; refine (HBg.out _).mono ?_; rintro e w4 ⟨rfl, hB⟩; have HB4 := Lib.hid (HB3.out.trans (hB.mono HB3.out.size)); clear hB))
 go_ret
 exact ⟨rfl, HB4.out⟩
theorem law_room (HS0 : Calls Tryz.prog 8 #[] W fun e w' => e = .returned (.bool true) /\ Below W.heap.size W w') (hK : KAt W 1 /\ KAt W 0) (x : Int) (v : Value) (ops : List JStep) (hv : JStepsAt W v ops) (ho : ∀ (i : Nat) (o : JStep), ops[i]? = some o -> o.ok) (z : Int) (hz : InZ z) (ch : ByteArray) :
  Calls Tryz.prog 3 #[.int .i64 x, v, .int .i64 z, .string ch] W fun e w' => e = .returned (.bool true) /\ Below W.heap.size W w' := by
 by_cases h : x <= 24 /\ ops.length <= 16 /\ ch.size <= 100
 ·by_cases h2 : 2 <= x
  ·obtain ⟨n, rfl⟩ := Int.eq_ofNat_of_zero_le (show 0 <= x by omega)
   exact room_loop HS0 hK.1 hK.2 n (by omega) v ops hv ho h.2.1 z hz ch h.2.2
  ·obtain ⟨A, c, rfl, _⟩ := hv
   exact room_few HS0 hK.1 hK.2 x z hz A ops.length c ch (by omega) h.2.1 h.2.2
 ·obtain ⟨A, c, rfl, _⟩ := hv
  exact room_far HS0 x z A ops.length c ch h
end
end Go.Proofs.YtpghocekofdpbaaGreatDoor
