import Derived.Test.YtpghocekofdpbaaGreatDoorQa50
namespace Go.Proofs.YtpghocekofdpbaaGreatDoor
open Go.RowKit Go.Shelf
attribute [local go_sem] Oper.semAt_some
structure Twin (W w : World) (pb qb h : Nat) (V : Vlt) (D : Dev) (b : Nat) (x y : VAt) (p u p2 u2 : Value) : Prop where
 one : PSt W w x pb h V D b p u
 two : PSt W w y qb h V D b p2 u2
 xy : Off x u y p2 u2
 yx : Off y u2 x p u
 left : D.left = -1
section
variable {W w w' w1 : World} {x y : VAt} {h b pb qb : Nat} {V V' : Vlt} {D : Dev} {p u p2 u2 : Value}
theorem Twin.on (k : Twin W w pb qb h V D b x y p u p2 u2) (hB : Below w.heap.size w w') : Twin W w' pb qb h V D b x y p u p2 u2 := ⟨k.one.on hB, k.two.on hB, k.xy, k.yx, k.left⟩
theorem PSt.up {c : Nat} (k : PSt W w x pb h V D b p u) (hb : b <= c) : PSt W w x pb h V D c p u := ⟨k.vis, k.inv.up hb, k.pl, k.bel, k.back, k.len, k.half, k.at_⟩
theorem Twin.write {e e2 : Ending} (k : Twin W w pb qb h V D b x y p u p2 u2) (hb : b < 255) (o : VStep) (hp : VPost w x h p u (vstep h V D o) e w1) (hq : VPost w1 y h p2 u2 (vstep h V D o) e2 w') :
  ∃ V' D' x' y' p' u' p2' u2', Twin W w' pb qb h V' D' (b + 1) x' y' p' u' p2' u2' := by
 obtain ⟨V', hV, hi⟩ := step_up k.one.inv hb k.left o
 obtain ⟨lo, p', u', kx, hl⟩ := k.one.next hp hV hi (step_len o)
 have ky1 := k.one.beside k.two hp.2.1 k.xy
 have xy1 := Off.write (lo := lo) k.two.vis k.xy hl
 have yx1 := Off.read (lo := lo) k.two.vis k.yx hl
 obtain ⟨lo2, p2', u2', ky, hl2⟩ := ky1.next hq hV hi (step_len o)
 have kx2 := ky1.beside kx hq.2.1 yx1
 have xy2 := Off.read (lo := lo2) kx.vis xy1 hl2
 have yx2 := Off.write (lo := lo2) kx.vis yx1 hl2
 exact ⟨V', _, _, _, _, _, _, _, kx2, ky, xy2, yx2, step_left k.left o⟩
end
theorem write_kind {o : VStep} (h : o.write = true) : o.kind = 1 \/ o.kind = 2 \/ o.kind = 3 := by
 unfold VStep.write at h
 simpa [or_assoc] using h
section
variable {W : World}
set_option maxRecDepth 100000 in
set_option maxHeartbeats 8000000 in
theorem det_loop (HS0 : Calls Tryz.prog 8 #[] W fun e w' => e = .returned (.bool true) /\ Below W.heap.size W w') (hK : KAt W 1) (n : Nat) (hn : 2 <= n /\ n <= 24) (f : Nat) (hf : f < 256) (v : Value) (ops : List JStep) (hv : JStepsAt W v ops) (ho : ∀ (i : Nat) (o : JStep), ops[i]? = some o -> o.ok) (hN : ops.length <= 10) :
  Calls Tryz.prog 6 #[.int .i64 n, .int .u8 f, v] W fun e w' => e = .returned (.bool true) /\ Below W.heap.size W w' := by
 obtain ⟨A, c, rfl, hA⟩ := hv
 have HS := Lib.hid HS0
 have HA := Lib.hid hA
 have HO := Lib.hid ho
 have HN := Lib.hid hN
 have HK := Lib.hid hK
 have HBg : Hid (∀ wx, Below W.heap.size W wx -> Calls Tryz.prog 13 #[.int .i64 n, .int .u8 f] wx fun e w' => ∃ x pb p u, e = .returned (.tuple #[.pointer (some ⟨pb, 0, none⟩), .bool true]) /\ Begun W wx w' (n / 2) (vnew n f) (dnew n f) x pb p u) := fun wx hB => begin_ok hB n f hn hf
 have d2 : decide (24 < n) = false := decide_eq_false (by omega)
 have d2' : decide (24 < (n : Int)) = false := decide_eq_false (by omega)
 have d3 : decide (10 < ops.length) = false := decide_eq_false (by omega)
 have d3' : decide (10 < (ops.length : Int)) = false := decide_eq_false (by omega)
 have HL0 : Hid ((dnew n f).left = -1) := rfl
 generalize vnew n f = V0 at HBg
 generalize dnew n f = D0 at HBg HL0
 obtain ⟨h, hh⟩ : ∃ h, n / 2 = h := ⟨_, rfl⟩
 rw [hh] at HBg
 clear hA ho hn hf hN hh hK HS0
 go_enter Tryz.func6, Tryz.ntmps6
 go_wp2_with (first
  | (go_at_call 8; refine HS.out.mono ?_; rintro e w1 ⟨rfl, hB⟩; have HB1 := Lib.hid hB; clear hB)
  | (go_at_call 13; have hmk := HG1; clear hmk; refine (HBg.out _ HG1.out.st.bel).mono ?_; rintro e w3 ⟨y, qb, p2, u2, rfl, hG⟩; have HG2 := Lib.hid hG; clear hG)
  | (go_at_call 13; refine (HBg.out _ HB1.out).mono ?_; rintro e w2 ⟨x, pb, p, u, rfl, hG⟩; have HG1 := Lib.hid hG; clear hG))
 have hT : Hid (Twin W w3 pb qb h V0 D0 1 x y p u p2 u2) := by
  have hO := Off.later HG1.out.st.vis HG2.out.back HG2.out.none
  exact ⟨HG1.out.st.on HG2.out.bel, HG2.out.st, hO.1, hO.2, HL0.out⟩
 clear HG1 HG2 HBg HS HB1 HL0
 go_loopw [12] (fun i wr => ∃ (k : Nat) (V : Vlt) (D : Dev) (x y : VAt) (p u p2 u2 : Value), k <= ops.length /\ i = .int .i64 k /\ Hid (Twin W wr pb qb h V D (k + 1) x y p u p2 u2)) (fun i _ => ops.length - (intOf i).toNat)
 case atStart => exact ⟨0, V0, D0, x, y, p, u, p2, u2, Nat.zero_le _, rfl, hT⟩
 case round =>
  clear hT
  obtain ⟨k, V, D, x, y, p, u, p2, u2, hk, rfl, H⟩ := hrel
  have hwk : wrap64 ((k : Int) + 1) = (k : Int) + 1 := by have := HN.out; unfold wrap64; omega
  by_cases hkl : k < ops.length
  ·have Hkl := Lib.hid hkl
   obtain ⟨o, hk0⟩ : ∃ o, ops[k]? = some o := ⟨_, List.getElem?_eq_getElem hkl⟩
   obtain ⟨B, off, rfl, hbl, hat⟩ := HA.out (by omega)
   obtain ⟨A1, n1, cc, g0, g1, g2, g3, g4, hok⟩ := (hat k o hk0).below hbl H.out.one.bel
   have HAt := Lib.hid (And.intro hbl (hat k o hk0))
   have hoo := Lib.hid (HO.out k o hk0)
   have hd1 : decide (k < ops.length) = true := decide_eq_true hkl
   have Hk11 : Hid (k + 1 < 255) := by have := HN.out; unfold Hid; omega
   have HW := Lib.hid (fun wx => lwrite_any wx o A1 n1 cc)
   clear hat hok hkl hk0
   cases hw : o.v.write with
   | false =>
    rw [hw] at HW
    clear hw
    go_wp2_with fail
    refine (HW.out _).mono ?_
    rintro e w1 ⟨rfl, hB1⟩
    have H1 := Lib.hid (H.out.on hB1)
    clear g0 g1 g2 g3 g4 hB1 H
    go_wp2_with fail
    go_roundw
    case rel => exact ⟨k + 1, V, D, x, y, p, u, p2, u2, Hkl.out, by go_num, ⟨H1.out.one.up (Nat.le_succ _), H1.out.two.up (Nat.le_succ _), H1.out.xy, H1.out.yx, H1.out.left⟩⟩
    case measure => rw [hwk]; exact meas_up Hkl.out
   | true =>
    rw [hw] at HW
    have hkd := Lib.hid (write_kind hw)
    clear hw
    go_wp2_with fail
    refine (HW.out _).mono ?_
    rintro e w1 ⟨rfl, hB1⟩
    have H1 := Lib.hid (H.out.on hB1)
    obtain ⟨R, hR⟩ : ∃ R, vstep h V D o.v = R := ⟨_, rfl⟩
    clear g0 g1 g2 g3 g4 hB1 H
    obtain ⟨A2, n2, c2, g0, g1, g2, g3, g4, hok⟩ := HAt.out.2.below HAt.out.1 H1.out.one.bel
    clear hok
    have HP : Hid (Calls Tryz.prog 20 #[.pointer (some ⟨pb, 0, none⟩), .agg #[.int .i64 o.kind, .int .i64 o.n, .int .i64 o.size, .int .u8 o.fill, .slice A2 n2 c2]] w1 (VPost w1 x h p u R)) := by rw [<- hR]; exact play_any H1.out.one Hk11.out HK.out o.kind o.n o.size o.fill hoo.out.1 hkd.out A2 n2 c2
    have HRe := Lib.hid hR
    clear hR
    go_wp2_with fail
    refine HP.out.mono ?_
    intro e w2 hP
    have H2 : Hid (PSt W w2 y qb h V D (k + 1) p2 u2) := H1.out.one.beside H1.out.two hP.2.1 H1.out.xy
    have he := hP.1
    have HP2 := Lib.hid hP
    subst he
    clear g0 g1 g2 g3 g4 HP hP
    obtain ⟨A3, n3, c3, g0, g1, g2, g3, g4, hok⟩ := HAt.out.2.below HAt.out.1 H2.out.bel
    clear hok
    have HQ : Hid (Calls Tryz.prog 20 #[.pointer (some ⟨qb, 0, none⟩), .agg #[.int .i64 o.kind, .int .i64 o.n, .int .i64 o.size, .int .u8 o.fill, .slice A3 n3 c3]] w2 (VPost w2 y h p2 u2 R)) := by rw [<- HRe.out]; exact play_any H2.out Hk11.out HK.out o.kind o.n o.size o.fill hoo.out.1 hkd.out A3 n3 c3
    go_wp2_with fail
    refine HQ.out.mono ?_
    intro e w3 hQ
    have hT : Hid (∃ V' D' x' y' p' u' p2' u2', Twin W w3 pb qb h V' D' (k + 1 + 1) x' y' p' u' p2' u2') := by
     have hP := HP2.out
     rw [<- HRe.out] at hP hQ
     exact H1.out.write Hk11.out o.v hP hQ
    have he := hQ.1
    subst he
    obtain ⟨V', D', x', y', p', u', p2', u2', hT'⟩ := hT.out
    have HT' := Lib.hid hT'
    have hne : (R.1 != R.1) = false := by simp
    clear g0 g1 g2 g3 g4 HQ hQ H1 H2 HP2 HRe hT hT' HW
    generalize R.1 = E at hne
    go_wp2_with fail
    go_roundw
    case rel => exact ⟨k + 1, V', D', x', y', p', u', p2', u2', Hkl.out, by go_num, HT'⟩
    case measure => rw [hwk]; exact meas_up Hkl.out
  ·have hd1 : decide (k < ops.length) = false := decide_eq_false hkl
   have HIm : Hid (∀ wx, Below wr.heap.size wr wx -> ∀ q, (q = x.a.d \/ q = y.a.d) -> Calls Tryz.prog 17 #[.pointer (some ⟨q, 0, none⟩)] wx fun e w' => ∃ v, e = .returned v /\ TextsV w' v (D.M.map Sec.now) /\ Below wx.heap.size wx w') := fun wx hB q hq => by
    have key : ∀ a : DAt, DevIs wr a D -> Calls Tryz.prog 17 #[.pointer (some ⟨a.d, 0, none⟩)] wx fun e w' => ∃ v, e = .returned v /\ TextsV w' v (D.M.map Sec.now) /\ Below wx.heap.size wx w' := fun a hd => by
     refine (dImage_any (hd.below hB) (by have := H.out.one.len; omega)).mono ?_
     rintro e w' ⟨v, rfl, h1, _, h3⟩
     exact ⟨v, rfl, TextsV.row h1, h3⟩
    rcases hq with rfl | rfl
    ·exact key x.a H.out.one.vis.dev
    ·exact key y.a H.out.two.vis.dev
   have HSm : Hid (∀ wx v1 v2, TextsV wx v1 (D.M.map Sec.now) -> TextsV wx v2 (D.M.map Sec.now) -> Calls Tryz.prog 33 #[v1, v2] wx fun e w' => e = .returned (.bool true) /\ Below wx.heap.size wx w') := fun wx v1 v2 h1 h2 => by
    have h := vsame_any wx v1 v2 _ _ h1 h2 (by rw [List.length_map]; have := H.out.one.len; omega) (by rw [List.length_map]; have := H.out.one.len; omega)
    rw [decide_eq_true rfl] at h
    exact h
   have HPQ : Hid (∀ wx, Below wr.heap.size wr wx -> wx.cell? ⟨pb, 0, none⟩ = some (.pointer (some ⟨x.a.d, 0, none⟩)) /\ wx.cell? ⟨qb, 0, none⟩ = some (.pointer (some ⟨y.a.d, 0, none⟩))) := fun wx hB => ⟨(H.out.one.on hB).pl.cell 0, (H.out.two.on hB).pl.cell 0⟩
   obtain ⟨x1, x2⟩ := HPQ.out wr (Below.refl _ _)
   have HBd : Hid (Below wr.heap.size wr wr.drew) := (Below.refl _ _).drew
   clear hkl hk hwk
   go_wp2_with fail
   go_region_held3 (fun W => W.cell? ⟨pb, 0, none⟩ = some (.pointer (some ⟨x.a.d, 0, none⟩)) /\ W.cell? ⟨qb, 0, none⟩ = some (.pointer (some ⟨y.a.d, 0, none⟩))) (go_keep)
    (first
     | (go_at_call 33; refine (HSm.out _ _ _ (by first | exact HT1.out | exact HT2.out) (by first | exact HT1.out | exact HT2.out)).mono ?_; rintro e w3 ⟨rfl, hB⟩; have HB3 := Lib.hid (HB2.out.trans (hB.mono HB2.out.size)); obtain ⟨z1, z2⟩ := HPQ.out _ HB3.out; clear hB)
     | (go_at_call 17; have hmk := HT0; clear hmk; refine (HIm.out _ HB1.out _ (by first | exact .inl rfl | exact .inr rfl)).mono ?_; rintro e w2 ⟨v2, rfl, hT, hB⟩; have HT1 := Lib.hid (HT0.out.below hB); have HT2 := Lib.hid hT; have HB2 := Lib.hid (HB1.out.trans (hB.mono HB1.out.size)); obtain ⟨y1, y2⟩ := HPQ.out _ HB2.out; clear hB hT)
     | (go_at_call 17; refine (HIm.out _ HBd.out _ (by first | exact .inl rfl | exact .inr rfl)).mono ?_; rintro e w1 ⟨v1, rfl, hT, hB⟩; have HT0 := Lib.hid hT; have HB1 := Lib.hid (HBd.out.trans (hB.mono HBd.out.size)); obtain ⟨z1, z2⟩ := HPQ.out _ HB1.out; clear hB hT))
   have H6 := Lib.hid (H.out.on HB3.out)
   have u1 := H6.out.one.pl.cell 1
   have u2' := H6.out.two.pl.cell 1
   have HCh : Hid (∀ q, (q = x.vb \/ q = y.vb) -> ∀ m, Calls Tryz.prog 18 #[.pointer (some ⟨q, 0, none⟩)] (w3.drewN m) fun e w' => e = .returned (.string V.chain) /\ w3.drewN m = w') := fun q hq m => by
    rcases hq with rfl | rfl
    ·exact vchain_any (H6.out.one.on (belowDrewN (Below.refl _ _) m)).vis
    ·exact vchain_any (H6.out.two.on (belowDrewN (Below.refl _ _) m)).vis
   have hcc : (V.chain.toList == V.chain.toList) = true := beq_self_eq_true _
   clear x1 x2 y1 y2 z1 z2 HIm HSm HPQ HT0 HT1 HT2 HB1 HB2 HBd H
   go_wp2_with fail
   go_quiet ((go_at_call 18; exact Calls.quiet_of_same (((HCh.out _ (by first | exact .inl rfl | exact .inr rfl) _)).mono fun e w' h => ⟨h.1, h.2.symm⟩)))
   have hB7 : Below W.heap.size W (w3.drewN nq) := (H6.out.one.on (belowDrewN (Below.refl _ _) nq)).bel
   clear hcc
   generalize w3.drewN nq = w7 at hB7 ⊢
   go_wp2_with fail
   go_ret
   exact ⟨rfl, hB7⟩
set_option maxRecDepth 100000 in
set_option maxHeartbeats 1600000 in
theorem det_bad (HS0 : Calls Tryz.prog 8 #[] W fun e w' => e = .returned (.bool true) /\ Below W.heap.size W w') (x : Int) (f : Nat) (hf : f < 256) (A : Option Addr) (N c : Nat) (h : ¬ (2 <= x /\ x <= 24 /\ N <= 10)) :
  Calls Tryz.prog 6 #[.int .i64 x, .int .u8 f, .slice A N c] W fun e w' => e = .returned (.bool true) /\ Below W.heap.size W w' := by
 have HS := Lib.hid HS0
 by_cases h2 : 24 < x
 ·have d2 : decide (24 < x) = true := decide_eq_true h2
  clear h h2 HS0
  go_enter Tryz.func6, Tryz.ntmps6
  go_wp2_with (first | (go_at_call 8; refine HS.out.mono ?_; rintro e w1 ⟨rfl, hB⟩))
  go_ret
  exact ⟨rfl, hB⟩
 ·have d2 : decide (24 < x) = false := decide_eq_false h2
  by_cases h3 : 10 < N
  ·have d3 : decide (10 < N) = true := decide_eq_true h3
   have d3' : decide (10 < (N : Int)) = true := decide_eq_true (by omega)
   clear h h2 h3 HS0
   go_enter Tryz.func6, Tryz.ntmps6
   go_wp2_with (first | (go_at_call 8; refine HS.out.mono ?_; rintro e w1 ⟨rfl, hB⟩))
   go_ret
   exact ⟨rfl, hB⟩
  ·have d3 : decide (10 < N) = false := decide_eq_false h3
   have d3' : decide (10 < (N : Int)) = false := decide_eq_false (by omega)
   have HB : Hid (∀ wx, Calls Tryz.prog 13 #[.int .i64 x, .int .u8 f] wx fun e w' => e = .returned (.tuple #[.pointer none, .bool false]) /\ Below wx.heap.size wx w') := fun wx => begin_bad x f hf (by omega)
   clear h h2 h3 HS0
   go_enter Tryz.func6, Tryz.ntmps6
   go_wp2_with (first
    | (go_at_call 8; refine HS.out.mono ?_; rintro e w1 ⟨rfl, hB⟩; have HB1 := Lib.hid hB; clear hB)
    | (go_at_call 13; have hmk := HB2; clear hmk; refine (HB.out _).mono ?_; rintro e w3 ⟨rfl, hB⟩; have HB3 := Lib.hid (HB2.out.trans (hB.mono HB2.out.size)); clear hB)
    | (go_at_call 13; refine (HB.out _).mono ?_; rintro e w2 ⟨rfl, hB⟩; have HB2 := Lib.hid (HB1.out.trans (hB.mono HB1.out.size)); clear hB))
   go_ret
   exact ⟨rfl, HB3.out⟩
theorem law_det (HS0 : Calls Tryz.prog 8 #[] W fun e w' => e = .returned (.bool true) /\ Below W.heap.size W w') (hK : KAt W 1) (x : Int) (f : Nat) (hf : f < 256) (v : Value) (ops : List JStep) (hv : JStepsAt W v ops) (ho : ∀ (i : Nat) (o : JStep), ops[i]? = some o -> o.ok) :
  Calls Tryz.prog 6 #[.int .i64 x, .int .u8 f, v] W fun e w' => e = .returned (.bool true) /\ Below W.heap.size W w' := by
 by_cases h : 2 <= x /\ x <= 24 /\ ops.length <= 10
 ·obtain ⟨n, rfl⟩ := Int.eq_ofNat_of_zero_le (show 0 <= x by omega)
  exact det_loop HS0 hK n (by omega) f hf v ops hv ho h.2.2
 ·obtain ⟨A, c, rfl, _⟩ := hv
  exact det_bad HS0 x f hf A ops.length c h
end
end Go.Proofs.YtpghocekofdpbaaGreatDoor
