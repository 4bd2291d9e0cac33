import Derived.Test.YtpghocekofdpbaaGreatDoorQa40
namespace Go.Proofs.YtpghocekofdpbaaGreatDoor
open Go.RowKit Go.Shelf
attribute [local go_sem] Oper.semAt_some
section
variable {w w' w1 w2 : World} {x : VAt} {h b lo : Nat} {V V' : Vlt} {D E : Dev} {p u p1 u1 : Value}
theorem vpost_all {e : Ending} (hF : VLeft w w1 x u) (ho : Later w p u p1 u1) (hE : DOn E) (hP : PutPost w1 { x with lo := lo } h V' p1 u1 (dstores [(0, V'.root), (1, V'.chain), (2, zero32)] E) e w2) : VPost w x h p u (vall V' E) e w2 := by
 obtain ⟨rfl, h1, h2, h3⟩ := hP
 have hL := hF.on h1.re ho.own
 unfold vall
 rcases stores_cases [(0, V'.root), (1, V'.chain), (2, zero32)] E hE with ⟨e0, _⟩ | ⟨e0, _⟩
 ·rw [if_pos e0]
  exact VPost.mk (by rw [e0]) hL h2 (fun V'' e => by cases e; exact ⟨lo, p1, u1, h3 e0, ho⟩)
 ·rw [if_neg (by rw [e0]; decide)]
  exact VPost.mk (by rw [e0]) hL h2 (fun V'' e => by cases e)
set_option maxRecDepth 100000 in
set_option maxHeartbeats 8000000 in
theorem vrekey_any (k : VIs w x h V D p u) (I : VInv h V D b) (hb : b < 255) (root t : ByteArray) (hr : root.size = 32 /\ root ≠ zero32) (ht : t.size <= 7939) (hD : D.M.length <= 4096) (hKL : KL w x u) :
  Calls Tryz.prog 25 #[.pointer (some ⟨x.vb, 0, none⟩), .string root, .string t] w (VPost w x h p u (vrekey h V D root t)) := by
 have hck1 := vcheck_any k ⟨#[]⟩ 0
 rw [if_neg (show ¬ (0 : Int) < ((⟨#[]⟩ : ByteArray).size : Nat) by decide)] at hck1
 have HCK1 := Lib.hid hck1
 have HCK2 : Hid (∀ wx, Below w.heap.size w wx -> Calls Tryz.prog 48 #[.pointer (some ⟨x.vb, 0, none⟩), .string t, .int .i64 7939] wx fun e w' => e = .returned (.int .i64 0) /\ wx = w') := fun wx hB => by
  have h := vcheck_any (k.below hB) t 7939
  rw [if_neg (by omega)] at h
  exact h
 have HVA := Lib.hid (vvalid_good w root hr.1 hr.2)
 have hs3 : D.slots.length = 3 := by rw [I.slots]; rfl
 have HP1 : Hid (∀ wx, Below w.heap.size w wx -> Calls Tryz.prog 51 #[.pointer (some ⟨x.vb, 0, none⟩), .int .i64 2, .string root] wx (PutPost wx x h V p u (D.slot (2, root)))) := fun wx hB =>
  vput_any (k.below hB) I.on 2 (by rw [hs3]; decide) root hr.1
 have hun : vrekey h V D root t = if ¬ (D.slot (2, root)).1 = 0 then (14, none, (D.slot (2, root)).2) else
  match vreplace h V (D.slot (2, root)).2 root t with
  | (0, some V', D') => vall V' D'
  | (_, none, D') => (14, none, D')
  | (c, some V', D') => (c, if (D'.slot (2, zero32)).1 = 0 then some V' else none, (D'.slot (2, zero32)).2) := by
  unfold vrekey
  rw [if_neg (by omega)]
  rfl
 rw [hun]
 obtain ⟨RR, hRR⟩ : ∃ RR : VRes, (if ¬ (D.slot (2, root)).1 = 0 then (14, none, (D.slot (2, root)).2) else
  match vreplace h V (D.slot (2, root)).2 root t with
  | (0, some V', D') => vall V' D'
  | (_, none, D') => (14, none, D')
  | (c, some V', D') => (c, if (D'.slot (2, zero32)).1 = 0 then some V' else none, (D'.slot (2, zero32)).2)) = RR := ⟨_, rfl⟩
 rw [hRR]
 have HRR := Lib.hid hRR
 have HI := Lib.hid I
 have HH := Lib.hid (And.intro hb (And.intro hr (And.intro ht (And.intro hD (And.intro hKL hs3)))))
 have KK := Lib.hid k
 clear k I hck1 hun hRR hb hr ht hD hKL hs3
 go_enter Tryz.func25, Tryz.ntmps25
 go_upto_region 9 with (first | (go_at_call 48; have hmk := HB1; clear hmk; refine (HCK2.out _ HB1.out).mono ?_; rintro e wc ⟨rfl, rfl⟩) | (go_at_call 48; refine HCK1.out.mono ?_; rintro e wc ⟨rfl, rfl⟩) | (go_at_call 57; refine HVA.out.mono ?_; rintro e w1 ⟨rfl, hB⟩; have HB1 := Lib.hid hB; clear hB))
 go_wp2_with fail
 refine (HP1.out _ HB1.out).mono ?_
 rintro e w2 ⟨rfl, hF, hd, hv⟩
 have HF2 := Lib.hid ((VLeft.ofBelow (x := x) (u := u) HB1.out).trans hF)
 rcases slot_cases HI.out.on (2, root) with ⟨h0, e0⟩ | ⟨h0, e0⟩
 ·have e1 : (D.slot (2, root)).1 = 14 := by rw [e0]
  have hRe : RR = (14, none, (D.slot (2, root)).2) := by rw [<- HRR.out, if_pos (by rw [e1]; decide)]
  have hR : Hid (VPost w x h p u RR (.returned (.int .i64 14)) w2) := by
   unfold Hid
   rw [hRe]
   exact VPost.mk rfl HF2.out hd (fun _ e => by cases e)
  rw [e1]
  clear hRe
  clear hF hd hv HP1 HCK2 e0 h0
  go_wp2_with fail
  go_ret
  exact hR.out
 ·obtain ⟨d1, d2⟩ := slot_on HI.out.on h0 (2, root)
  have hv2 := hv (by rw [e0])
  obtain ⟨E, hE⟩ : ∃ E, (D.slot (2, root)).2 = E := ⟨_, rfl⟩
  have e1 : (D.slot (2, root)).1 = 0 := by rw [e0]
  rw [hE] at hv2
  have hE2 : E = { D.on 1 D.M with slots := D.slots.set 2 root } := by rw [<- hE, e0]
  rw [<- hE2] at d1 d2
  have hs3 : E.slots.length = 3 := by rw [hE2]; show (D.slots.set 2 root).length = 3; rw [List.length_set]; exact HH.out.2.2.2.2.2
  have hRR := HRR.out
  rw [if_neg (by rw [e1]; exact fun h => h rfl), hE] at hRR
  rw [e1]
  have hJE : JOk h V.J E.M b := by rw [d2.M]; exact HI.out.jok
  have HRP := Lib.hid (vreplace_any hv2 d1 hJE (by have := HH.out.1; omega) HI.out.chain root t HH.out.2.1.1 HH.out.2.2.1 (by rw [d2.M]; exact HH.out.2.2.2.1) (HH.out.2.2.2.2.1.on HF2.out))
  have hcases := replace_out d1 hJE HH.out.1 HI.out.chain root t HH.out.2.2.1
  obtain ⟨r, hr0⟩ : ∃ r, vreplace h V E root t = r := ⟨_, rfl⟩
  rw [hr0] at HRP hcases hRR
  have HR2 := Lib.hid hRR
  clear hRR
  have hcs : (r = (15, some V, E)) \/ (∃ D', r = (14, none, D')) \/ (∃ V' D', r = (0, some V', D') /\ DOn D' /\ D'.slots.length = 3 /\ V'.chain.size = 32 /\ V'.root = root) := by
   rcases hcases with ⟨_, a⟩ | ⟨D', a, _⟩ | ⟨_, V', D', a, hon, _, hsl, _, _, hroot, _, _, _, _, hrd⟩
   ·exact .inl a
   ·exact .inr (.inl ⟨D', a⟩)
   ·refine .inr (.inr ⟨V', D', a, hon, by rw [hsl]; exact hs3, ?_, hroot⟩)
    exact readN_size (r := ⟨V'.chain, V.chain, some t, []⟩) hrd
  have HC := Lib.hid hcs
  have Hd1 := Lib.hid d1
  have Hs3 := Lib.hid hs3
  clear hF hd hv HP1 HCK2 e0 h0 d1 d2 hv2 hE e1 hE2 hs3 hJE hcases hr0 hcs
  go_wp2_with fail
  refine HRP.out.mono ?_
  rintro e w3 ⟨rfl, hF3, hd3, hv3⟩
  rcases HC.out with rfl | ⟨D', rfl⟩ | ⟨V', D', rfl, hon, hs3, hch, hroot⟩
  ·obtain ⟨lo, p1, u1, hV, ho⟩ := hv3 V rfl
   have ho2 : Hid (Later w p u p1 u1) := ho.up HF2.out.size
   have HF3 := Lib.hid (HF2.out.trans hF3)
   have HP2 : Hid (∀ wx, Below w3.heap.size w3 wx -> Calls Tryz.prog 51 #[.pointer (some ⟨x.vb, 0, none⟩), .int .i64 2, .string zero32] wx (PutPost wx { x with lo := lo } h V p1 u1 (E.slot (2, zero32)))) := fun wx hB => vput_any (hV.below hB) Hd1.out 2 (by rw [Hs3.out]; decide) zero32 rfl
   have HE := Lib.hid (vempty_any w3)
   obtain ⟨Z, hZ⟩ : ∃ Z, zero32 = Z := ⟨_, rfl⟩
   rw [hZ] at HP2 HE
   have HZ := Lib.hid hZ
   clear hF3 hd3 hv3 hV ho hZ
   go_wp2_with (first | (go_at_call 61; refine HE.out.mono ?_; rintro e w4 ⟨rfl, hB⟩; have HB4 := Lib.hid hB; clear hB))
   refine (HP2.out _ HB4.out).mono ?_
   rintro e w5 ⟨rfl, hF5, hd5, hv5⟩
   have hRe : RR = (15, if (E.slot (2, Z)).1 = 0 then some V else none, (E.slot (2, Z)).2) := by rw [<- HR2.out, <- HZ.out]
   have hR : Hid (VPost w x h p u RR (.returned (.int .i64 15)) w5) := by
    unfold Hid
    rw [hRe]
    refine VPost.mk rfl ((HF3.out.trans (VLeft.ofBelow HB4.out)).on hF5.re ho2.out.own) hd5 (fun V' e => ?_)
    dsimp only at e
    split at e
    ·rename_i h0
     cases e
     exact ⟨lo, p1, u1, hv5 h0, ho2.out⟩
    ·cases e
   clear hF5 hd5 hv5 hRe
   go_wp2_with fail
   go_ret
   exact hR.out
  ·have hR : Hid (VPost w x h p u RR (.returned (.int .i64 14)) w3) := by
    unfold Hid
    rw [<- HR2.out]
    exact VPost.mk rfl (HF2.out.trans hF3) hd3 (fun _ e => by cases e)
   clear hF3 hd3 hv3
   go_wp2_with fail
   go_ret
   exact hR.out
  ·obtain ⟨lo, p1, u1, hV, ho⟩ := hv3 V' rfl
   have ho2 : Hid (Later w p u p1 u1) := ho.up HF2.out.size
   have HF3 := Lib.hid (HF2.out.trans hF3)
   have HP2 := Lib.hid (vstoreR_any (nd := fun _ _ => true) hV hon hs3 (by rw [hroot]; exact HH.out.2.1.1) hch rfl)
   have Hon := Lib.hid hon
   clear hF3 hd3 hv3 hV ho hon hs3 hch hroot
   go_wp2_with fail
   refine HP2.out.mono ?_
   intro e w4 hP
   have HPF := Lib.hid (vpost_all (V' := V') HF3.out ho2.out Hon.out hP)
   obtain ⟨rfl, _, _, _⟩ := hP
   have h0 := HPF.out
   rw [show vall V' D' = RR from HR2.out] at h0
   have hR := Lib.hid h0
   clear h0 HPF
   go_wp2_with fail
   go_ret
   exact hR.out
end
end Go.Proofs.YtpghocekofdpbaaGreatDoor
