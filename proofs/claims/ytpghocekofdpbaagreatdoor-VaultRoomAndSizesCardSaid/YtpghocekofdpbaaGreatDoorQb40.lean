import Derived.Test.YtpghocekofdpbaaGreatDoorQb39
import Derived.Test.YtpghocekofdpbaaGreatDoorQb38
import Derived.Maps.AppendAt
namespace Go.Proofs.YtpghocekofdpbaaGreatDoor
open Go.RowKit Go.Shelf
attribute [local go_sem] Oper.semAt_some
structure Later (w : World) (p u p' u' : Value) : Prop where
 own : ∀ k, u'.ownBlock = some k -> u.ownBlock = some k \/ w.heap.size <= k
 img : ∀ g i, p' = .pointer (some ⟨g, i, none⟩) -> p' = p \/ w.heap.size <= g
theorem Later.refl (w : World) (p u : Value) : Later w p u p u := ⟨fun _ e => .inl e, fun _ _ _ => .inl rfl⟩
theorem Later.up {w w1 : World} {p u p' u' : Value} (h : Later w1 p u p' u') (hs : w.heap.size <= w1.heap.size) : Later w p u p' u' :=
 ⟨fun k e => (h.own k e).imp id (fun q => Nat.le_trans hs q), fun g i e => (h.img g i e).imp id (fun q => Nat.le_trans hs q)⟩
def VPost (w : World) (x : VAt) (h : Nat) (p u : Value) (r : VRes) (e : Ending) (w' : World) : Prop :=
 e = .returned (.int .i64 r.1) /\ VLeft w w' x u /\ DevIs w' x.a r.2.2 /\ ∀ V', r.2.1 = some V' -> ∃ lo p' u', VIs w' { x with lo := lo } h V' r.2.2 p' u' /\ Later w p u p' u'
theorem VPost.mk {w : World} {x : VAt} {h : Nat} {p u : Value} {r : VRes} {e : Ending} {w' : World} (h1 : e = .returned (.int .i64 r.1)) (h2 : VLeft w w' x u) (h3 : DevIs w' x.a r.2.2) (h4 : ∀ V', r.2.1 = some V' -> ∃ lo p' u', VIs w' { x with lo := lo } h V' r.2.2 p' u' /\ Later w p u p' u') : VPost w x h p u r e w' := ⟨h1, h2, h3, h4⟩
section
variable {w w' w3 : World} {x : VAt} {h b : Nat} {V : Vlt} {D E : Dev} {p u u' : Value}
theorem VIs.rblk (k : VIs w x h V D p u) {j : Nat} (e : u.ownBlock = some j) : ∃ cs, Blk w j 9 cs := by
 rcases k.row.2 with ⟨rfl, _⟩ | ⟨g, cap, cur, rfl, _, hb, _⟩
 ·cases e
 ·cases e; exact ⟨_, hb⟩
theorem VLeft.to {w2 : World} (hF : VLeft w' w2 x u') (hs : w.heap.size <= w'.heap.size) (ho : ∀ k, u'.ownBlock = some k -> u.ownBlock = some k \/ w.heap.size <= k) : ∀ k, k < w.heap.size -> k ≠ x.a.d -> k ≠ x.a.g -> k ≠ x.a.sb -> k ≠ x.a.fb -> k ≠ x.jb -> k ≠ x.vb -> u.ownBlock ≠ some k -> w2.heap[k]? = w'.heap[k]? := by
 intro k hk h1 h2 h3 h4 h5 h6 h7
 refine hF.rest k (Nat.lt_of_lt_of_le hk hs) h1 h2 h3 h4 h5 h6 (fun e => ?_)
 rcases ho k e with e2 | e2
 ·exact h7 e2
 ·omega
theorem VLeft.on {w2 : World} (hG : VLeft w w' x u) (hF : VLeft w' w2 x u') (ho : ∀ k, u'.ownBlock = some k -> u.ownBlock = some k \/ w.heap.size <= k) : VLeft w w2 x u :=
 ⟨hF.os.trans hG.os, hF.tape.trans hG.tape, hF.output.trans hG.output, Nat.le_trans hG.size hF.size, fun k hk h1 h2 h3 h4 h5 h6 h7 => (VLeft.to hF hG.size ho k hk h1 h2 h3 h4 h5 h6 h7).trans (hG.rest k hk h1 h2 h3 h4 h5 h6 h7)⟩
theorem VIs.push (k : VIs w x h V D p u) (hg : w.grownBy w3 u.ownBlock) {t ch : ByteArray} (hr : w3.ownsRow x.lo 9 1 u' (V.texts.length + 1) (strCells (V.texts ++ [t]))) :
  VIs ((w3.setCell ⟨x.vb, 3, none⟩ (.string ch)).setCell ⟨x.vb, 5, none⟩ u') x h { V with chain := ch, texts := V.texts ++ [t] } D p u' /\ Blk w3 x.vb 79 #[.pointer (some ⟨x.a.d, 0, none⟩), .pointer (some ⟨x.jb, 0, none⟩), .string V.root, .string V.chain, p, u, .bool false] := by
 obtain ⟨vj, hv⟩ := k.jrn
 have hne : ∀ j T cs, Blk w j T cs -> T ≠ 9 -> some j ≠ u.ownBlock := by
  intro j T cs hb hT e
  obtain ⟨cs2, hb2⟩ := k.rblk e.symm
  exact hb.ne_ hb2 hT rfl
 have hb := k.blk.grown hg (hne _ _ _ k.blk (by decide))
 have hd : DevIs w3 x.a D := by
  cases hu : u.ownBlock with
  | none => rw [hu] at hg; exact dev_none k.dev hg
  | some j =>
   rw [hu] at hg
   obtain ⟨_, q1⟩ := k.dev.mblk
   obtain ⟨_, q2⟩ := k.dev.gblk
   obtain ⟨_, q4⟩ := k.dev.fblk
   exact k.dev.off hg ⟨fun e => hne _ _ _ k.dev.blk (by decide) (by rw [hu, e]), fun e => hne _ _ _ q1 (by decide) (by rw [hu, e]), fun e => hne _ _ _ q2 (by decide) (by rw [hu, e]), k.own j hu, fun e => hne _ _ _ q4 (by decide) (by rw [hu, e])⟩
 have hjb := hv.blk.grown hg (hne _ _ _ hv.blk (by decide))
 have hjr : w3.ownsRow 0 134 2 vj V.J.l.length (entCells V.J.l) := by
  refine ownsRow_same hv.row (fun j cs _ hbj => hg.block j hbj.lt (hne _ _ _ hbj (by decide)))
 have hi : ImgAt w3 p V.image x.a := by
  refine ImgAt.keep (V := V) k.img (fun g T cs hbg _ _ _ hp => ?_)
  refine hg.block g hbg.lt (fun e => ?_)
  obtain ⟨i, hp⟩ := hp
  have h1 := k.lowI g i hp
  have h2 := (k.row.lt g e.symm).1
  omega
 refine ⟨?_, hb⟩
 have g1 := grown_set w3 x.vb 3 (.string ch)
 have hb1 := hb.set_ 3 (.string ch)
 have g2 := grown_set (w3.setCell ⟨x.vb, 3, none⟩ (.string ch)) x.vb 5 u'
 have hgg := grown_trans g1 g2
 have hd1 : DevIs (w3.setCell ⟨x.vb, 3, none⟩ (.string ch)) x.a D := isDev_past hd hb (by decide) g1
 refine ⟨isDev_past hd1 hb1 (by decide) g2, ⟨vj, hjb.grown hgg (fun e => hb.ne_ hjb (by decide) (Option.some.inj e).symm), hjr.kept hgg (.inr (own_blk_ne hjr hb (by decide)))⟩, hb1.set_ 5 u', ?_, ?_, k.lowS, k.lowI, ?_⟩
 ·refine ImgAt.keep (V := V) hi (fun g T cs hbg hT _ _ _ => ?_)
  refine hgg.block g hbg.lt (fun e => ?_)
  have e2 : g = x.vb := Option.some.inj e
  rcases hT with rfl | rfl
  ·exact hb.ne_ hbg (by decide) e2.symm
  ·exact hb.ne_ hbg (by decide) e2.symm
 ·have hr2 := hr.kept hgg (.inr (own_blk_ne hr hb (by decide)))
  have hl : (V.texts ++ [t]).length = V.texts.length + 1 := by rw [List.length_append]; rfl
  show World.ownsRow _ x.lo 9 1 u' (V.texts ++ [t]).length _
  rw [hl]
  exact hr2
 ·have := k.lowB
  have := hgg.size
  have := hg.size
  omega
theorem VLeft.str {w0 : World} (hF : VLeft w w' x u) (k : VIs w0 x h V D p u) (hw : ∀ j T cs, Blk w0 j T cs -> Blk w j T cs) {g : Nat} {cs : Array Value} (hb : Blk w g 9 cs) (h1 : g ≠ x.a.sb) (h2 : u.ownBlock ≠ some g) : Blk w' g 9 cs := by
 obtain ⟨vj, hv⟩ := k.jrn
 obtain ⟨_, q2⟩ := k.dev.gblk
 obtain ⟨_, q4⟩ := k.dev.fblk
 exact (hF.rest g hb.lt (fun e => (hw _ _ _ k.dev.blk).ne_ hb (by decide) e.symm) (fun e => (hw _ _ _ q2).ne_ hb (by decide) e.symm) h1 (fun e => (hw _ _ _ q4).ne_ hb (by decide) e.symm) (fun e => (hw _ _ _ hv.blk).ne_ hb (by decide) e.symm) (fun e => (hw _ _ _ k.blk).ne_ hb (by decide) e.symm) h2).trans hb
theorem strings_snoc (l : List ByteArray) (t : ByteArray) : strCells (l ++ [t]) = strCells l ++ [.string t] := by simp [strCells]
set_option maxRecDepth 100000 in
set_option maxHeartbeats 4000000 in
theorem vcommit_any (k : VIs w x h V D p u) (I : VInv h V D b) (hb : b <= 255) (t : ByteArray) (ht : t.size <= 7971) (hD : D.M.length <= 4096) (hll : V.J.l.length <= 1048576) (htx : V.texts.length <= 1048576) (hKL : KL w x u) :
  Calls Tryz.prog 16 #[.pointer (some ⟨x.vb, 0, none⟩), .string t] w (VPost w x h p u (vcommit h V D t)) := by
 have hck := vcheck_any k t 7971
 rw [if_neg (by omega)] at hck
 have HCK := Lib.hid hck
 have hrs : (recT t).size <= 7972 := by rw [recT_size]; omega
 have HW : Hid (∀ wx, Below w.heap.size w wx -> Calls Tryz.prog 49 #[.pointer (some ⟨x.vb, 0, none⟩), .string V.root, .string (recT t), .func (.func 50) #[.pointer (some ⟨x.jb, 0, none⟩)] #[]] wx (WrPost wx x h V D p u (blobOf V.root V.J.next (recT t)) (dappend h (blobOf V.root V.J.next (recT t)) V.J D))) := fun wx hB =>
  vwriteA_any (k.below hB) I.on I.jok hb I.spoiled hll I.chain V.root (recT t) I.root.1 hrs hD (hKL.on (VLeft.ofBelow hB))
 have hun : vcommit h V D t = match dappend h (blobOf V.root V.J.next (recT t)) V.J D with
  | .err c => (c, some V, D)
  | .down D' => (14, none, D')
  | .ok n J' D' => vchain (linkB V.chain n (blobOf V.root V.J.next (recT t))) ⟨J', V.root, linkB V.chain n (blobOf V.root V.J.next (recT t)), V.image, V.texts ++ [t]⟩ D' := by
  unfold vcommit
  rw [if_neg (by omega)]
  rfl
 rw [hun]
 obtain ⟨B, hB⟩ : ∃ B, blobOf V.root V.J.next (recT t) = B := ⟨_, rfl⟩
 rw [hB] at HW ⊢
 obtain ⟨T, hT⟩ : ∃ T, recT t = T := ⟨_, rfl⟩
 have hA : ∀ wx, (Op.stringOp .add ⟨#[82]⟩ t).run Tryz.prog wx = .ok (.string T) wx := fun wx => by rw [<- hT]; exact run_string_add_sum wx _ _ (by show 1 + t.size <= _; omega)
 rw [hT] at HW
 have hcases : (∃ c, dappend h B V.J D = .err c /\ c = 15) \/ (∃ D', dappend h B V.J D = .down D') \/ (∃ n J' D', dappend h B V.J D = .ok n J' D' /\ DOn D' /\ D'.slots.length = 3) := by
  have hs3 : D.slots.length = 3 := by rw [I.slots]; rfl
  rcases append_cases (h := h) (D := D) B V.J with ⟨_, a⟩ | ⟨_, _, a⟩ | ⟨_, hl, a⟩
  ·exact .inl ⟨15, a, rfl⟩
  ·exact .inr (.inl ⟨_, a⟩)
  ·exact .inr (.inr ⟨_, _, _, a, on_on I.on hl, hs3⟩)
 obtain ⟨r, hr⟩ : ∃ r, dappend h B V.J D = r := ⟨_, rfl⟩
 rw [hr] at HW hcases ⊢
 have KK := Lib.hid k
 obtain ⟨c0, c1, c2, c3, c4, c5, c6⟩ := k.cells
 have HC := Lib.hid hcases
 have HX := Lib.hid htx
 have hsz : Hid (w.heap.size = w.heap.size) := rfl
 clear hck hun hB hT hr k I hb ht hD hll htx hKL hcases hrs
 go_enter Tryz.func16, Tryz.ntmps16
 go_wp2_with (first | (go_at_call 48; refine HCK.out.mono ?_; rintro e w1 ⟨rfl, rfl⟩))
 go_region_held3 (fun W => W.cell? ⟨x.vb, 2, none⟩ = some (.string V.root) /\ W.cell? ⟨x.vb, 1, none⟩ = some (.pointer (some ⟨x.jb, 0, none⟩))) (go_keep)
  (first | (go_at_call 49; refine (HW.out _ (Below.refl w.heap.size w).drew).mono ?_; rintro e w1 ⟨rfl, hF, ⟨cb, hbk⟩, hpost⟩; have y1 := hbk.cell 1; have y2 := hbk.cell 2))
 have HF := Lib.hid ((VLeft.ofBelow (x := x) (u := u) ((Below.refl w.heap.size w).drew)).trans hF)
 clear y1 y2 c0 c1 c2 c3 c4 c5 c6 hF HW HCK hA
 rcases HC.out with ⟨c, rfl, rfl⟩ | ⟨D', rfl⟩ | ⟨n, J', D', rfl, hon, hs3⟩
 ·have K1 : Hid (VIs w1 x h V D p u) := hpost
  clear hpost hbk
  go_wp2_with fail
  go_ret
  exact VPost.mk rfl HF.out K1.out.dev (fun V' e => by cases e; exact ⟨x.lo, p, u, K1.out, Later.refl _ _ _⟩)
 ·have K1 : Hid (DevIs w1 x.a D') := hpost
  clear hpost hbk
  go_wp2_with fail
  go_ret
  exact VPost.mk rfl HF.out K1.out (fun _ e => by cases e)
 ·have K1 : Hid (VIs w1 x h { V with J := J' } D' p u) := hpost
  obtain ⟨L, hL⟩ : ∃ L, linkB V.chain n B = L := ⟨_, rfl⟩
  have hLs : Hid (L.size = 32) := by unfold Hid; rw [<- hL]; exact linkB_size _ _ _
  have hws : wrS V B (.ok n J' D') = L := hL
  have hwe : wrE (.ok n J' D') = 0 := rfl
  obtain ⟨i0, hi, hz0, hz1, hz2⟩ := info_parts infoString
  obtain ⟨N, hN⟩ : ∃ N, V.texts.length = N := ⟨_, rfl⟩
  have hrow := K1.out.row
  have hrow' : w1.ownsRow x.lo 9 1 u N (strCells V.texts) := by rw [<- hN]; exact hrow
  have hlo := K1.out.lowB
  have hle : Hid (N + 1 <= maxLen /\ (N + 1) * 16 <= 140737488355328) := by have := HX.out; unfold Hid maxLen; omega
  obtain ⟨d0, d1, d2, d3, d4, d5, d6⟩ := K1.out.cells
  have HR := Lib.hid hrow'
  have HLo := Lib.hid hlo
  have HN := Lib.hid hN
  have Hon := Lib.hid hon
  have Hs3 := Lib.hid hs3
  have HLe := Lib.hid hL
  rw [hws, hwe]
  clear hpost hbk hrow hrow' hlo hN hws hwe hon hs3 hL
  go_upto_region 7 with fail
  go_wp2_with (at_builtin; refine wpList_append_own_at _ rfl _ _ 35 rfl x.lo 9 i0 _ 1 16 Tryz.underlying35 hi hz0 hz1 hz2 rfl (by decide) u N (strCells V.texts) rfl (HR.out.alloc _) ⟨w1.heap.size, 0, none⟩ 1 1 [.string t] rfl rfl ?q1 ?q2 ?q3 ?q4 ?q5 ?_)
  try (case q1 => exact news_cells (Blk.new w1 9 #[.string t]))
  case q2 => simp [Value.oneCell']
  case q3 => exact hle.out.1
  case q4 => exact hle.out.2
  case q5 => have := HLo.out; simp; omega
  intro v' w3 hr3 hg3 hn3 ho3
  obtain ⟨A9, c9, rfl⟩ := Sec.ownsRow_slice hr3
  obtain ⟨v', hv'⟩ : ∃ v', v' = Value.slice A9 (N + 1) c9 := ⟨_, rfl⟩
  rw [<- hv'] at hr3 ho3
  rw [<- strings_snoc, <- HN.out] at hr3
  have hB1 : Below w1.heap.size w1 (w1.alloc (.cells #[.string t] 9)) := (Below.refl _ _).alloc (Nat.le_refl _) _
  have K2 := K1.out.below hB1
  obtain ⟨K3, hb3⟩ := VIs.push (ch := L) K2 hg3 hr3
  have y3 := hb3.cell 3
  have y5 := hb3.cell 5
  have f3 := hb3.frozen 3
  have f5 := hb3.frozen 5
  have K3H := Lib.hid K3
  have F3 := Lib.hid (((HF.out.trans (VLeft.ofBelow hB1)).grown hg3 |>.set 3 (.string L)).set 5 v')
  have hown : Hid (∀ k, v'.ownBlock = some k -> u.ownBlock = some k \/ w.heap.size <= k) := by
   intro k e
   rcases ho3 with e2 | e2
   ·exact .inl (e2.symm.trans e)
   ·rw [e2] at e
    cases e
    right
    have := HF.out.size
    omega
  rw [hv'] at K3H F3
  clear hr3 hg3 hn3 ho3 K2 K3 hb3 hB1 K1 HR d0 d1 d2 d3 d4 d5 d6
  go_wp2_with fail
  refine (vput_any K3H.out Hon.out 1 (by rw [Hs3.out]; decide) L hLs.out).mono ?_
  rintro e w4 ⟨rfl, hF4, hd4, hv4⟩
  have Fin := Lib.hid (And.intro hF4 (And.intro hd4 hv4))
  clear hF4 hd4 hv4
  go_wp2_with fail
  go_ret
  have F4 := F3.out.on Fin.out.1 (by rw [<- hv']; exact hown.out)
  have hL := HLe.out
  subst hL
  rcases slot_err Hon.out (1, linkB V.chain n B) with e0 | e0
  ·refine VPost.mk ?_ F4 ?_ ?_
   ·show _ = Ending.returned (.int .i64 (vchain (linkB V.chain n B) ⟨J', V.root, linkB V.chain n B, V.image, V.texts ++ [t]⟩ D').1)
    unfold vchain
    rw [if_pos e0, e0]
    rfl
   ·show DevIs w4 x.a (vchain (linkB V.chain n B) ⟨J', V.root, linkB V.chain n B, V.image, V.texts ++ [t]⟩ D').2.2
    unfold vchain
    rw [if_pos e0]
    exact Fin.out.2.1
   ·show ∀ V', (vchain (linkB V.chain n B) ⟨J', V.root, linkB V.chain n B, V.image, V.texts ++ [t]⟩ D').2.1 = some V' -> _
    unfold vchain
    rw [if_pos e0]
    intro V' e
    cases e
    exact ⟨x.lo, p, _, Fin.out.2.2 e0, ⟨by rw [<- hv']; exact hown.out, fun _ _ _ => .inl rfl⟩⟩
  ·have e1 : ¬ (D'.slot (1, linkB V.chain n B)).1 = 0 := by rw [e0]; decide
   refine VPost.mk ?_ F4 ?_ ?_
   ·show _ = Ending.returned (.int .i64 (vchain (linkB V.chain n B) ⟨J', V.root, linkB V.chain n B, V.image, V.texts ++ [t]⟩ D').1)
    unfold vchain
    rw [if_neg e1, e0]
    rfl
   ·show DevIs w4 x.a (vchain (linkB V.chain n B) ⟨J', V.root, linkB V.chain n B, V.image, V.texts ++ [t]⟩ D').2.2
    unfold vchain
    rw [if_neg e1]
    exact Fin.out.2.1
   ·show ∀ V', (vchain (linkB V.chain n B) ⟨J', V.root, linkB V.chain n B, V.image, V.texts ++ [t]⟩ D').2.1 = some V' -> _
    unfold vchain
    rw [if_neg e1]
    intro V' e
    cases e
end
end Go.Proofs.YtpghocekofdpbaaGreatDoor
namespace Go.Proofs.YtpghocekofdpbaaGreatDoor
open Go.RowKit Go.Shelf
attribute [local go_sem] Oper.semAt_some
section
variable {w w' w3 : World} {x : VAt} {h b : Nat} {V : Vlt} {D E : Dev} {p u u' : Value}
theorem VIs.image (k : VIs w x h V D p u) {ib : Nat} {t : ByteArray} (hb : Blk w ib 9 #[.string t]) (hne : ib ≠ x.a.sb) :
  VIs ((w.setCell ⟨x.vb, 4, none⟩ (.pointer (some ⟨ib, 0, none⟩))).setCell ⟨x.vb, 5, none⟩ (.slice none 0 0)) { x with lo := w.heap.size } h { V with image := some t, texts := [] } D (.pointer (some ⟨ib, 0, none⟩)) (.slice none 0 0) := by
 obtain ⟨vj, hv⟩ := k.jrn
 have hbv := k.blk
 have g1 := grown_set w x.vb 4 (.pointer (some ⟨ib, 0, none⟩))
 have hb1 := hbv.set_ 4 (.pointer (some ⟨ib, 0, none⟩))
 have g2 := grown_set (w.setCell ⟨x.vb, 4, none⟩ (.pointer (some ⟨ib, 0, none⟩))) x.vb 5 (.slice none 0 0)
 have hgg := grown_trans g1 g2
 have hd1 := isDev_past k.dev hbv (by decide) g1
 refine ⟨isDev_past hd1 hb1 (by decide) g2, ⟨vj, hv.blk.grown hgg (fun e => hbv.ne_ hv.blk (by decide) (Option.some.inj e).symm), hv.row.kept hgg (.inr (own_blk_ne hv.row hbv (by decide)))⟩, hb1.set_ 5 _, ?_, World.ownsRow_nil _ _ _ _, ?_, ?_, ?_⟩
 ·refine .inr ⟨ib, 0, t, 9, #[.string t], rfl, rfl, hb.grown hgg (fun e => hbv.ne_ hb (by decide) (Option.some.inj e).symm), rfl, .inl rfl, hne⟩
 ·obtain ⟨_, q⟩ := k.dev.sblk
  exact q.lt
 ·intro g i e
  cases e
  exact hb.lt
 ·exact hgg.size
theorem vimgT (c t : ByteArray) (hc : c.size = 32) (ht : t.size <= 7939) : (imgT c t).size <= 7972 := by rw [imgT_size]; omega
set_option maxRecDepth 100000 in
set_option maxHeartbeats 4000000 in
theorem vreplace_any (k : VIs w x h V D p u) (hu : DOn D) (hJ : JOk h V.J D.M b) (hb : b <= 255) (hch : V.chain.size = 32) (root t : ByteArray) (hr : root.size = 32) (ht : t.size <= 7939) (hD : D.M.length <= 4096) (hKL : KL w x u) :
  Calls Tryz.prog 58 #[.pointer (some ⟨x.vb, 0, none⟩), .string root, .string t] w (VPost w x h p u (vreplace h V D root t)) := by
 have hsb : Hid (x.a.sb < w.heap.size) := by
  obtain ⟨_, q⟩ := k.dev.sblk
  exact q.lt
 have HW : Hid (∀ wx, Below w.heap.size w wx -> Calls Tryz.prog 49 #[.pointer (some ⟨x.vb, 0, none⟩), .string root, .string (imgT V.chain t), .func (.func 94) #[.pointer (some ⟨x.jb, 0, none⟩)] #[]] wx (WrPost wx x h V D p u (blobOf root V.J.next (imgT V.chain t)) (dcompact h (blobOf root V.J.next (imgT V.chain t)) V.J D))) := fun wx hB =>
  vwriteC_any (k.below hB) hu hJ hb hch root (imgT V.chain t) hr (vimgT _ _ hch ht) hD (hKL.on (VLeft.ofBelow hB))
 have hun : vreplace h V D root t = match dcompact h (blobOf root V.J.next (imgT V.chain t)) V.J D with
  | .err c => (c, some V, D)
  | .down D' => (14, none, D')
  | .ok n J' D' => (0, some ⟨J', root, linkB V.chain n (blobOf root V.J.next (imgT V.chain t)), some t, []⟩, D') := rfl
 rw [hun]
 obtain ⟨B, hB⟩ : ∃ B, blobOf root V.J.next (imgT V.chain t) = B := ⟨_, rfl⟩
 rw [hB] at HW ⊢
 obtain ⟨T0, hT0⟩ : ∃ T0, (⟨#[73]⟩ : ByteArray) ++ V.chain = T0 := ⟨_, rfl⟩
 obtain ⟨T, hT⟩ : ∃ T, imgT V.chain t = T := ⟨_, rfl⟩
 have hT1 : T0 ++ t = T := by rw [<- hT0, <- hT]; rfl
 have hA0 : ∀ wx, (Op.stringOp .add ⟨#[73]⟩ V.chain).run Tryz.prog wx = .ok (.string T0) wx := fun wx => by rw [<- hT0]; exact run_string_add_sum wx _ _ (by show 1 + V.chain.size <= _; omega)
 have hA1 : ∀ wx, (Op.stringOp .add T0 t).run Tryz.prog wx = .ok (.string T) wx := fun wx => by rw [<- hT1]; exact run_string_add_sum wx _ _ (by rw [<- hT0, ByteArray.size_append]; show 1 + V.chain.size + t.size <= _; omega)
 rw [hT] at HW
 have hcases : (∃ c, dcompact h B V.J D = .err c /\ c = 15) \/ (∃ D', dcompact h B V.J D = .down D') \/ (∃ n J' D', dcompact h B V.J D = .ok n J' D') := by
  rcases compact_cases (h := h) (D := D) B V.J with ⟨_, a⟩ | ⟨_, _, a⟩ | ⟨_, hl, a⟩
  ·exact .inl ⟨15, a, rfl⟩
  ·exact .inr (.inl ⟨_, a⟩)
  ·exact .inr (.inr ⟨_, _, _, a⟩)
 obtain ⟨r, hr0⟩ : ∃ r, dcompact h B V.J D = r := ⟨_, rfl⟩
 rw [hr0] at HW hcases ⊢
 have KK := Lib.hid k
 have HC := Lib.hid hcases
 clear hun hB hT hT0 hT1 hr0 hu hJ hb hr ht hD hKL hcases hch
 go_enter Tryz.func58, Tryz.ntmps58
 go_upto_region 1 with fail
 refine world_is (P := fun W => Code.wp _ _ _ _ W) (fun W0 hW0 => ?_)
 have B0 : Hid (Below w.heap.size w W0) := by unfold Hid; rw [<- hW0]; exact (Below.refl _ _).alloc (Nat.le_refl _) _
 have I0 : Hid (Blk W0 w.heap.size 9 #[.string t]) := by unfold Hid; rw [<- hW0]; exact Blk.new _ _ _
 obtain ⟨ib, eib⟩ : ∃ g, w.heap.size = g := ⟨_, rfl⟩
 have hib : Hid (w.heap.size = ib) := eib
 rw [eib] at I0
 try rw [eib]
 have K0 := Lib.hid (k.below B0.out)
 obtain ⟨c0, c1, c2, c3, c4, c5, c6⟩ := K0.out.cells
 have i0 := I0.out.cell 0
 clear hW0 eib k
 go_region_held3 (fun W => W.cell? ⟨x.vb, 3, none⟩ = some (.string V.chain) /\ W.cell? ⟨x.vb, 1, none⟩ = some (.pointer (some ⟨x.jb, 0, none⟩)) /\ W.cell? ⟨ib, 0, none⟩ = some (.string t)) (go_keep)
  (first | (go_at_call 49; refine (HW.out _ B0.out.drew).mono ?_; rintro e w1 ⟨rfl, hF, ⟨cb, hbk⟩, hpost⟩; have y1 := hbk.cell 1; have y3 := hbk.cell 3; have y4 := (VLeft.str (w0 := W0) hF K0.out (fun _ _ _ h => h) I0.out.drew (by have := hsb.out; have := hib.out; omega) (by have := hib.out; intro e; have := (KK.out.row.lt _ e).1; have h2 := (KK.out.row.lt _ e).2; omega)).cell 0))
 have HF := Lib.hid ((VLeft.ofBelow (x := x) (u := u) B0.out.drew).trans hF)
 have hI1 : Hid (Blk w1 ib 9 #[.string t]) := VLeft.str (w0 := W0) hF K0.out (fun _ _ _ h => h) I0.out.drew (by have := hsb.out; have := hib.out; omega) (by have := hib.out; intro e; have h2 := (KK.out.row.lt _ e).2; omega)
 clear y1 y3 y4 c0 c1 c2 c3 c4 c5 c6 hF HW hA0 hA1 i0
 rcases HC.out with ⟨c, rfl, rfl⟩ | ⟨D', rfl⟩ | ⟨n, J', D', rfl⟩
 ·have K1 : Hid (VIs w1 x h V D p u) := hpost
  clear hpost hbk
  go_wp2_with fail
  go_ret
  exact VPost.mk rfl HF.out K1.out.dev (fun V' e => by cases e; exact ⟨x.lo, p, u, K1.out, Later.refl _ _ _⟩)
 ·have K1 : Hid (DevIs w1 x.a D') := hpost
  clear hpost hbk
  go_wp2_with fail
  go_ret
  exact VPost.mk rfl HF.out K1.out (fun _ e => by cases e)
 ·have K1 : Hid (VIs w1 x h { V with J := J' } D' p u) := hpost
  obtain ⟨L, hL⟩ : ∃ L, linkB V.chain n B = L := ⟨_, rfl⟩
  have hws : wrS V B (.ok n J' D') = L := hL
  have hwe : wrE (.ok n J' D') = 0 := rfl
  have HLe := Lib.hid hL
  obtain ⟨d0, d1, d2, d3, d4, d5, d6⟩ := K1.out.cells
  have f2 := K1.out.blk.frozen 2
  have f3 := K1.out.blk.frozen 3
  have f4 := K1.out.blk.frozen 4
  have f5 := K1.out.blk.frozen 5
  rw [hws, hwe]
  clear hpost hbk hws hwe hL
  go_wp2_with fail
  go_ret
  have hL := HLe.out
  subst hL
  have K2 := K1.out.set 2 (.string root) (V' := { V with J := J', root := root }) (p' := p) (u' := u) rfl rfl K1.out.img K1.out.row K1.out.lowI
  have K3 := K2.set 3 (.string (linkB V.chain n B)) (V' := { V with J := J', root := root, chain := linkB V.chain n B }) (p' := p) (u' := u) rfl rfl K2.img K2.row K2.lowI
  have hb2 : Blk ((w1.setCell ⟨x.vb, 2, none⟩ (.string root)).setCell ⟨x.vb, 3, none⟩ (.string (linkB V.chain n B))) ib 9 #[.string t] :=
   (hI1.out.grown (grown_set _ x.vb 2 _) (fun e => K1.out.blk.ne_ hI1.out (by decide) (Option.some.inj e).symm)).grown (grown_set _ x.vb 3 _) (fun e => K1.out.blk.ne_ hI1.out (by decide) (Option.some.inj e).symm)
  have K4 := K3.image hb2 (by have := hsb.out; have := hib.out; omega)
  refine VPost.mk rfl ((((HF.out.set 2 _).set 3 _).set 4 _).set 5 _) K4.dev (fun V' e => ?_)
  cases e
  exact ⟨_, _, _, K4, ⟨fun k e => (by cases e), fun g i e => (by cases e; exact .inr (by have := hib.out; omega))⟩⟩
end
end Go.Proofs.YtpghocekofdpbaaGreatDoor
namespace Go.Proofs.YtpghocekofdpbaaGreatDoor
open Go.RowKit Go.Shelf
attribute [local go_sem] Oper.semAt_some
theorem idx_arr (a b c : ByteArray) : (∀ wx, (Instr.index 96 (.agg #[.string a, .string b, .string c]) (.int .i64 0)).run Tryz.prog wx = .ok (.string a) wx) /\ (∀ wx, (Instr.index 96 (.agg #[.string a, .string b, .string c]) (.int .i64 1)).run Tryz.prog wx = .ok (.string b) wx) /\ (∀ wx, (Instr.index 96 (.agg #[.string a, .string b, .string c]) (.int .i64 2)).run Tryz.prog wx = .ok (.string c) wx) :=
 ⟨fun wx => by kernel_rfl, fun wx => by kernel_rfl, fun wx => by kernel_rfl⟩
theorem stores_skip {f : Nat -> ByteArray -> Bool} {y : Nat × ByteArray} {r : List (Nat × ByteArray)} {D : Dev} (h : f y.1 y.2 = false) : dstores ((y :: r).filter fun y => f y.1 y.2) D = dstores (r.filter fun y => f y.1 y.2) D := by
 rw [List.filter_cons_of_neg (by rw [h]; decide)]
theorem stores_take {f : Nat -> ByteArray -> Bool} {y : Nat × ByteArray} {r : List (Nat × ByteArray)} {D : Dev} (h : f y.1 y.2 = true) : dstores ((y :: r).filter fun y => f y.1 y.2) D = if (D.slot y).1 = 0 then dstores (r.filter fun y => f y.1 y.2) (D.slot y).2 else D.slot y := by
 have e : (y :: r).filter (fun y : Nat × ByteArray => f y.1 y.2) = y :: r.filter (fun y : Nat × ByteArray => f y.1 y.2) := List.filter_cons_of_pos (p := fun y : Nat × ByteArray => f y.1 y.2) h
 rw [e]
 rfl
theorem slot_next {D : Dev} (hd : DOn D) (y : Nat × ByteArray) : (D.slot y).1 = 0 -> DOn (D.slot y).2 /\ (D.slot y).2.slots.length = D.slots.length := by
 intro h
 rcases slot_cases hd y with ⟨_, e⟩ | ⟨h0, e⟩
 ·rw [e] at h; cases h
 ·rw [e]
  exact ⟨(slot_on hd h0 y).1, List.length_set⟩
theorem PutPost.mk {w : World} {x : VAt} {h : Nat} {V : Vlt} {p u : Value} {r : Int × Dev} {e : Ending} {w' : World} (h1 : e = .returned (.int .i64 r.1)) (h2 : VLeft w w' x u) (h3 : DevIs w' x.a r.2) (h4 : r.1 = 0 -> VIs w' x h V r.2 p u) : PutPost w x h V p u r e w' := ⟨h1, h2, h3, h4⟩
section
variable {w w' w1 w2 : World} {x : VAt} {h b lo : Nat} {V V' : Vlt} {D E : Dev} {p u p1 u1 : Value} {nd : Nat -> ByteArray -> Bool}
theorem VLeft.re (h : VLeft w w' { x with lo := lo } u) : VLeft w w' x u := ⟨h.os, h.tape, h.output, h.size, h.rest⟩
theorem vpost_chain {e : Ending} (hF : VLeft w w1 x u) (ho : Later w p u p1 u1) (hE : DOn E) (hP : PutPost w1 { x with lo := lo } h V' p1 u1 (E.slot (1, V'.chain)) e w2) : VPost w x h p u (vchain V'.chain V' E) e w2 := by
 obtain ⟨rfl, h1, h2, h3⟩ := hP
 have hL := hF.on h1.re ho.own
 unfold vchain
 rcases slot_err hE (1, V'.chain) with e0 | e0
 ·rw [if_pos e0]
  exact VPost.mk (by rw [e0]) hL h2 (fun V'' e => by cases e; exact ⟨lo, p1, u1, h3 e0, ho⟩)
 ·rw [if_neg (by rw [e0]; decide)]
  exact VPost.mk (by rw [e0]) hL h2 (fun V'' e => by cases e)
set_option maxRecDepth 100000 in
set_option maxHeartbeats 4000000 in
theorem vcompact_any (k : VIs w x h V D p u) (I : VInv h V D b) (hb : b < 255) (t : ByteArray) (ht : t.size <= 7939) (hD : D.M.length <= 4096) (hKL : KL w x u) :
  Calls Tryz.prog 37 #[.pointer (some ⟨x.vb, 0, none⟩), .string t] w (VPost w x h p u (vcompact h V D t)) := by
 have hck := vcheck_any k t 7939
 rw [if_neg (by omega)] at hck
 have HCK := Lib.hid hck
 have HP := vreplace_any k I.on I.jok (by omega) I.chain V.root t I.root.1 ht hD hKL
 have hs3 : D.slots.length = 3 := by rw [I.slots]; rfl
 have hun : vcompact h V D t = match vreplace h V D V.root t with
  | (0, some V', D') => vchain V'.chain V' D'
  | x => x := by
  unfold vcompact
  rw [if_neg (by omega)]
  rfl
 rw [hun]
 have hcases := replace_out I.on I.jok hb I.chain V.root t ht
 obtain ⟨r, hr⟩ : ∃ r, vreplace h V D V.root t = r := ⟨_, rfl⟩
 rw [hr] at HP hcases ⊢
 have HPH := Lib.hid HP
 obtain ⟨c0, c1, c2, c3, c4, c5, c6⟩ := k.cells
 have KK := Lib.hid k
 have hcs : (r = (15, some V, D)) \/ (∃ D', r = (14, none, D')) \/ (∃ V' D', r = (0, some V', D') /\ DOn D' /\ D'.slots.length = 3 /\ V'.chain.size = 32) := by
  rcases hcases with ⟨_, a⟩ | ⟨D', a, _⟩ | ⟨_, V', D', a, hon, _, hsl, _, _, _, _, _, _, _, hrd⟩
  ·exact .inl a
  ·exact .inr (.inl ⟨D', a⟩)
  ·refine .inr (.inr ⟨V', D', a, hon, by rw [hsl]; exact hs3, ?_⟩)
   exact readN_size (r := ⟨V'.chain, V.chain, some t, []⟩) hrd
 have HC := Lib.hid hcs
 clear k I hb ht hD hKL hck HP hs3 hun hcases hr hcs
 go_enter Tryz.func37, Tryz.ntmps37
 go_wp2_with (first | (go_at_call 48; refine HCK.out.mono ?_; rintro e w1 ⟨rfl, rfl⟩))
 refine HPH.out.mono ?_
 rintro e w1 ⟨rfl, hF, hd, hv⟩
 rcases HC.out with rfl | ⟨D', rfl⟩ | ⟨V', D', rfl, hon, hs3, hch⟩
 ·have Hf := Lib.hid (VPost.mk (w := w) (x := x) (h := h) (p := p) (u := u) (r := (15, some V, D)) rfl hF hd hv)
  clear hF hd hv
  go_wp2_with fail
  go_ret
  exact Hf.out
 ·have Hf := Lib.hid (VPost.mk (w := w) (x := x) (h := h) (p := p) (u := u) (r := (14, none, D')) rfl hF hd hv)
  clear hF hd hv
  go_wp2_with fail
  go_ret
  exact Hf.out
 ·obtain ⟨lo, p1, u1, hV, ho⟩ := hv V' rfl
  have HF := Lib.hid hF
  have HV := Lib.hid hV
  have HO := Lib.hid ho
  have HP2 := Lib.hid (vput_any hV hon 1 (by rw [hs3]; decide) V'.chain hch)
  have Hon := Lib.hid hon
  obtain ⟨d0, d1, d2, d3, d4, d5, d6⟩ := hV.cells
  clear hF hd hv hV ho hon hs3 hch c0 c1 c2 c3 c4 c5 c6
  go_wp2_with fail
  refine HP2.out.mono ?_
  intro e w2 hP
  have HPF := Lib.hid (vpost_chain HF.out HO.out Hon.out hP)
  obtain ⟨rfl, _, _, _⟩ := hP
  go_wp2_with fail
  go_ret
  exact HPF.out
set_option maxRecDepth 100000 in
theorem rekey1_any (wx : World) (i : Nat) (t : ByteArray) : Calls Tryz.prog 60 #[.int .i64 (i : Int), .string t] wx fun e w' => e = .returned (.bool true) /\ wx = w' := by
 go_enter Tryz.func60, Tryz.ntmps60
 go_wp2_with fail
 go_ret
 exact ⟨rfl, rfl⟩
set_option maxRecDepth 100000 in
set_option maxHeartbeats 8000000 in
theorem vstoreR_any (k : VIs w x h V D p u) (hu : DOn D) (hs : D.slots.length = 3) (hr : V.root.size = 32) (hc : V.chain.size = 32) (hnd0 : nd = fun _ _ => true) :
  Calls Tryz.prog 59 #[.pointer (some ⟨x.vb, 0, none⟩), .func (.func 60) #[] #[]] w (PutPost w x h V p u (dstores ([(0, V.root), (1, V.chain), (2, zero32)].filter fun y => nd y.1 y.2) D)) := by
 have HN : Hid (∀ wx, VLeft w wx x u -> ∀ (i : Nat) (t : ByteArray), i < 3 -> Calls Tryz.prog 60 #[.int .i64 (i : Int), .string t] wx fun e w' => e = .returned (.bool (nd i t)) /\ wx = w') := fun wx _ i t _ => by subst hnd0; exact rekey1_any wx i t
 obtain ⟨Z, hZ⟩ : ∃ Z, zero32 = Z := ⟨_, rfl⟩
 have hZs : Z.size = 32 := by rw [<- hZ]; rfl
 have HE : Hid (∀ wx, Calls Tryz.prog 61 #[] wx fun e w' => e = .returned (.string Z) /\ Below wx.heap.size wx w') := by rw [<- hZ]; exact Lib.hid vempty_any
 obtain ⟨A, hA⟩ : ∃ A, V.root = A := ⟨_, rfl⟩
 obtain ⟨B, hB⟩ : ∃ B, V.chain = B := ⟨_, rfl⟩
 obtain ⟨c0, c1, c2, c3, c4, c5, c6⟩ := k.cells
 rw [hA] at hr c2
 rw [hB] at hc c3
 rw [hZ, hA, hB]
 obtain ⟨R, hR⟩ : ∃ R, dstores ([(0, A), (1, B), (2, Z)].filter fun y => nd y.1 y.2) D = R := ⟨_, rfl⟩
 rw [hR]
 have HR := Lib.hid hR
 have KK := Lib.hid k
 have Hu := Lib.hid hu
 have Hs := Lib.hid hs
 have Hz := Lib.hid (And.intro hr (And.intro hc hZs))
 have x0 := idx_arr A B Z
 have HAe := Lib.hid hA
 have HBe := Lib.hid hB
 clear k hu hs hr hc hZ hZs hA hB hR hnd0
 go_enter Tryz.func59, Tryz.ntmps59
 go_upto_region 1 with fail
 go_region_held3 (fun W => W.cell? ⟨x.vb, 2, none⟩ = some (.string A) /\ W.cell? ⟨x.vb, 3, none⟩ = some (.string B)) (go_keep)
  (first | (go_at_call 61; refine (HE.out _).mono ?_; rintro e w1 ⟨rfl, hB1⟩; have HB1 := Lib.hid ((Below.refl w.heap.size w).drew.trans (hB1.mono (Below.refl w.heap.size w).drew.size)); have y2 : w1.cell? ⟨x.vb, 2, none⟩ = some (.string A) := (by rw [<- HAe.out]; exact ((KK.out.below HB1.out).cells).2.2.1); have y3 : w1.cell? ⟨x.vb, 3, none⟩ = some (.string B) := (by rw [<- HBe.out]; exact ((KK.out.below HB1.out).cells).2.2.2.1)))
 clear y2 y3 c0 c1 c2 c3 c4 c5 c6 hB1
 have K1 := Lib.hid (KK.out.below HB1.out)
 have F1 : Hid (VLeft w w1 x u) := VLeft.ofBelow HB1.out
 go_wp2_with fail
 go_loopw [18] (fun v18 wr => ∃ (k : Nat) (Dk : Dev), k <= 3 /\ v18 = .int .i64 (k : Int) /\ Hid (R = dstores (([(0, A), (1, B), (2, Z)].drop k).filter fun y => nd y.1 y.2) Dk) /\ Hid (DOn Dk /\ Dk.slots.length = 3) /\ Hid (VIs wr x h V Dk p u) /\ Hid (VLeft w wr x u)) (fun v18 _ => 3 - (intOf v18).toNat)
 case atStart => exact ⟨0, D, by decide, rfl, HR.out.symm, ⟨Hu.out, Hs.out⟩, K1.out, F1.out⟩
 case round =>
  obtain ⟨k, Dk, hk, rfl, hRk, hon, hv, hF⟩ := hrel
  obtain rfl | rfl | rfl | rfl : k = 0 \/ k = 1 \/ k = 2 \/ k = 3 := by omega
  ·have hcl := Lib.hid (HN.out _ hF.out 0 A (by decide))
   have hpt := Lib.hid (vput_any hv.out hon.out.1 0 (by rw [hon.out.2]; decide) A Hz.out.1)
   cases hnd : nd 0 A with
   | false =>
    rw [hnd] at hcl
    have hRn : Hid (R = dstores (([(0, A), (1, B), (2, Z)].drop 1).filter fun y => nd y.1 y.2) Dk) := by
     unfold Hid
     exact hRk.out.trans (stores_skip (f := nd) (y := (0, A)) (r := [(0, A), (1, B), (2, Z)].drop 1) hnd)
    clear hnd hpt
    go_wp2_with fail
    refine hcl.out.mono ?_
    rintro e w2 ⟨rfl, rfl⟩
    go_wp2_with fail
    go_roundw
    case rel => exact ⟨1, Dk, by decide, by go_num, hRn.out, hon.out, hv.out, hF.out⟩
    case measure => simp [intOf]
   | true =>
    rw [hnd] at hcl
    have hst : Hid (R = if (Dk.slot (0, A)).1 = 0 then dstores (([(0, A), (1, B), (2, Z)].drop 1).filter fun y => nd y.1 y.2) (Dk.slot (0, A)).2 else Dk.slot (0, A)) := by
     unfold Hid
     exact hRk.out.trans (stores_take (f := nd) (y := (0, A)) (r := [(0, A), (1, B), (2, Z)].drop 1) hnd)
    have hse := slot_err hon.out.1 (0, A)
    have hnx := slot_next hon.out.1 (0, A)
    obtain ⟨S, hS⟩ : ∃ S, Dk.slot (0, A) = S := ⟨_, rfl⟩
    rw [hS] at hst hse hnx hpt
    obtain ⟨se, sd⟩ := S
    dsimp only at hse hnx
    have Hnx := Lib.hid hnx
    have Hlen := Lib.hid hon.out.2
    clear hnd hS hon hnx
    rcases hse with rfl | rfl
    ·have hRn : Hid (R = dstores (([(0, A), (1, B), (2, Z)].drop 1).filter fun y => nd y.1 y.2) sd) := by unfold Hid; exact hst.out.trans (if_pos rfl)
     have hon2 : Hid (DOn sd /\ sd.slots.length = 3) := ⟨(Hnx.out rfl).1, (Hnx.out rfl).2.trans Hlen.out⟩
     clear hst Hnx
     go_wp2_with fail
     refine hcl.out.mono ?_
     rintro e w2 ⟨rfl, rfl⟩
     go_wp2_with fail
     refine hpt.out.mono ?_
     rintro e w3 ⟨rfl, h1, h2, h3⟩
     have Hf := Lib.hid (And.intro h1 (h3 rfl))
     clear h1 h2 h3
     go_wp2_with fail
     go_roundw
     case rel => exact ⟨1, sd, by decide, by go_num, hRn.out, hon2.out, Hf.out.2, hF.out.trans Hf.out.1⟩
     case measure => simp [intOf]
    ·have HRf : Hid (R = (14, sd)) := by unfold Hid; exact hst.out.trans (if_neg (show ¬ (14 : Int) = 0 by decide))
     clear hst Hnx
     go_wp2_with fail
     refine hcl.out.mono ?_
     rintro e w2 ⟨rfl, rfl⟩
     go_wp2_with fail
     refine hpt.out.mono ?_
     rintro e w3 ⟨rfl, h1, h2, _⟩
     have Hf := Lib.hid (And.intro h1 h2)
     clear h1 h2
     go_wp2_with fail
     go_ret
     rw [HRf.out]
     exact PutPost.mk rfl (hF.out.trans Hf.out.1) Hf.out.2 (fun e => by cases e)
  ·have hcl := Lib.hid (HN.out _ hF.out 1 B (by decide))
   have hpt := Lib.hid (vput_any hv.out hon.out.1 1 (by rw [hon.out.2]; decide) B Hz.out.2.1)
   cases hnd : nd 1 B with
   | false =>
    rw [hnd] at hcl
    have hRn : Hid (R = dstores (([(0, A), (1, B), (2, Z)].drop 2).filter fun y => nd y.1 y.2) Dk) := by
     unfold Hid
     exact hRk.out.trans (stores_skip (f := nd) (y := (1, B)) (r := [(0, A), (1, B), (2, Z)].drop 2) hnd)
    clear hnd hpt
    go_wp2_with fail
    refine hcl.out.mono ?_
    rintro e w2 ⟨rfl, rfl⟩
    go_wp2_with fail
    go_roundw
    case rel => exact ⟨2, Dk, by decide, by go_num, hRn.out, hon.out, hv.out, hF.out⟩
    case measure => simp [intOf]
   | true =>
    rw [hnd] at hcl
    have hst : Hid (R = if (Dk.slot (1, B)).1 = 0 then dstores (([(0, A), (1, B), (2, Z)].drop 2).filter fun y => nd y.1 y.2) (Dk.slot (1, B)).2 else Dk.slot (1, B)) := by
     unfold Hid
     exact hRk.out.trans (stores_take (f := nd) (y := (1, B)) (r := [(0, A), (1, B), (2, Z)].drop 2) hnd)
    have hse := slot_err hon.out.1 (1, B)
    have hnx := slot_next hon.out.1 (1, B)
    obtain ⟨S, hS⟩ : ∃ S, Dk.slot (1, B) = S := ⟨_, rfl⟩
    rw [hS] at hst hse hnx hpt
    obtain ⟨se, sd⟩ := S
    dsimp only at hse hnx
    have Hnx := Lib.hid hnx
    have Hlen := Lib.hid hon.out.2
    clear hnd hS hon hnx
    rcases hse with rfl | rfl
    ·have hRn : Hid (R = dstores (([(0, A), (1, B), (2, Z)].drop 2).filter fun y => nd y.1 y.2) sd) := by unfold Hid; exact hst.out.trans (if_pos rfl)
     have hon2 : Hid (DOn sd /\ sd.slots.length = 3) := ⟨(Hnx.out rfl).1, (Hnx.out rfl).2.trans Hlen.out⟩
     clear hst Hnx
     go_wp2_with fail
     refine hcl.out.mono ?_
     rintro e w2 ⟨rfl, rfl⟩
     go_wp2_with fail
     refine hpt.out.mono ?_
     rintro e w3 ⟨rfl, h1, h2, h3⟩
     have Hf := Lib.hid (And.intro h1 (h3 rfl))
     clear h1 h2 h3
     go_wp2_with fail
     go_roundw
     case rel => exact ⟨2, sd, by decide, by go_num, hRn.out, hon2.out, Hf.out.2, hF.out.trans Hf.out.1⟩
     case measure => simp [intOf]
    ·have HRf : Hid (R = (14, sd)) := by unfold Hid; exact hst.out.trans (if_neg (show ¬ (14 : Int) = 0 by decide))
     clear hst Hnx
     go_wp2_with fail
     refine hcl.out.mono ?_
     rintro e w2 ⟨rfl, rfl⟩
     go_wp2_with fail
     refine hpt.out.mono ?_
     rintro e w3 ⟨rfl, h1, h2, _⟩
     have Hf := Lib.hid (And.intro h1 h2)
     clear h1 h2
     go_wp2_with fail
     go_ret
     rw [HRf.out]
     exact PutPost.mk rfl (hF.out.trans Hf.out.1) Hf.out.2 (fun e => by cases e)
  ·have hcl := Lib.hid (HN.out _ hF.out 2 Z (by decide))
   have hpt := Lib.hid (vput_any hv.out hon.out.1 2 (by rw [hon.out.2]; decide) Z Hz.out.2.2)
   cases hnd : nd 2 Z with
   | false =>
    rw [hnd] at hcl
    have hRn : Hid (R = dstores (([(0, A), (1, B), (2, Z)].drop 3).filter fun y => nd y.1 y.2) Dk) := by
     unfold Hid
     exact hRk.out.trans (stores_skip (f := nd) (y := (2, Z)) (r := [(0, A), (1, B), (2, Z)].drop 3) hnd)
    clear hnd hpt
    go_wp2_with fail
    refine hcl.out.mono ?_
    rintro e w2 ⟨rfl, rfl⟩
    go_wp2_with fail
    go_roundw
    case rel => exact ⟨3, Dk, by decide, by go_num, hRn.out, hon.out, hv.out, hF.out⟩
    case measure => simp [intOf]
   | true =>
    rw [hnd] at hcl
    have hst : Hid (R = if (Dk.slot (2, Z)).1 = 0 then dstores (([(0, A), (1, B), (2, Z)].drop 3).filter fun y => nd y.1 y.2) (Dk.slot (2, Z)).2 else Dk.slot (2, Z)) := by
     unfold Hid
     exact hRk.out.trans (stores_take (f := nd) (y := (2, Z)) (r := [(0, A), (1, B), (2, Z)].drop 3) hnd)
    have hse := slot_err hon.out.1 (2, Z)
    have hnx := slot_next hon.out.1 (2, Z)
    obtain ⟨S, hS⟩ : ∃ S, Dk.slot (2, Z) = S := ⟨_, rfl⟩
    rw [hS] at hst hse hnx hpt
    obtain ⟨se, sd⟩ := S
    dsimp only at hse hnx
    have Hnx := Lib.hid hnx
    have Hlen := Lib.hid hon.out.2
    clear hnd hS hon hnx
    rcases hse with rfl | rfl
    ·have hRn : Hid (R = dstores (([(0, A), (1, B), (2, Z)].drop 3).filter fun y => nd y.1 y.2) sd) := by unfold Hid; exact hst.out.trans (if_pos rfl)
     have hon2 : Hid (DOn sd /\ sd.slots.length = 3) := ⟨(Hnx.out rfl).1, (Hnx.out rfl).2.trans Hlen.out⟩
     clear hst Hnx
     go_wp2_with fail
     refine hcl.out.mono ?_
     rintro e w2 ⟨rfl, rfl⟩
     go_wp2_with fail
     refine hpt.out.mono ?_
     rintro e w3 ⟨rfl, h1, h2, h3⟩
     have Hf := Lib.hid (And.intro h1 (h3 rfl))
     clear h1 h2 h3
     go_wp2_with fail
     go_roundw
     case rel => exact ⟨3, sd, by decide, by go_num, hRn.out, hon2.out, Hf.out.2, hF.out.trans Hf.out.1⟩
     case measure => simp [intOf]
    ·have HRf : Hid (R = (14, sd)) := by unfold Hid; exact hst.out.trans (if_neg (show ¬ (14 : Int) = 0 by decide))
     clear hst Hnx
     go_wp2_with fail
     refine hcl.out.mono ?_
     rintro e w2 ⟨rfl, rfl⟩
     go_wp2_with fail
     refine hpt.out.mono ?_
     rintro e w3 ⟨rfl, h1, h2, _⟩
     have Hf := Lib.hid (And.intro h1 h2)
     clear h1 h2
     go_wp2_with fail
     go_ret
     rw [HRf.out]
     exact PutPost.mk rfl (hF.out.trans Hf.out.1) Hf.out.2 (fun e => by cases e)
  ·have hRf : R = (0, Dk) := hRk.out
   have HRf := Lib.hid hRf
   clear hRf
   go_wp2_with fail
   go_ret
   rw [HRf.out]
   exact PutPost.mk rfl hF.out hv.out.dev (fun _ => hv.out)
end
end Go.Proofs.YtpghocekofdpbaaGreatDoor
namespace Go.Proofs.YtpghocekofdpbaaGreatDoor
open Go.RowKit Go.Shelf
attribute [local go_sem] Oper.semAt_some
section
variable {w w' w1 w2 : World} {x : VAt} {h b lo : Nat} {V V' : Vlt} {D E : Dev} {p u p1 u1 : Value}
theorem vpost_all {e : Ending} (hF : VLeft w w1 x u) (ho : Later w p u p1 u1) (hE : DOn E) (hP : PutPost w1 { x with lo := lo } h V' p1 u1 (dstores [(0, V'.root), (1, V'.chain), (2, zero32)] E) e w2) : VPost w x h p u (vall V' E) e w2 := by
 obtain ⟨rfl, h1, h2, h3⟩ := hP
 have hL := hF.on h1.re ho.own
 unfold vall
 rcases stores_cases [(0, V'.root), (1, V'.chain), (2, zero32)] E hE with ⟨e0, _⟩ | ⟨e0, _⟩
 ·rw [if_pos e0]
  exact VPost.mk (by rw [e0]) hL h2 (fun V'' e => by cases e; exact ⟨lo, p1, u1, h3 e0, ho⟩)
 ·rw [if_neg (by rw [e0]; decide)]
  exact VPost.mk (by rw [e0]) hL h2 (fun V'' e => by cases e)
set_option maxRecDepth 100000 in
set_option maxHeartbeats 8000000 in
theorem vrekey_any (k : VIs w x h V D p u) (I : VInv h V D b) (hb : b < 255) (root t : ByteArray) (hr : root.size = 32 /\ root ≠ zero32) (ht : t.size <= 7939) (hD : D.M.length <= 4096) (hKL : KL w x u) :
  Calls Tryz.prog 25 #[.pointer (some ⟨x.vb, 0, none⟩), .string root, .string t] w (VPost w x h p u (vrekey h V D root t)) := by
 have hck1 := vcheck_any k ⟨#[]⟩ 0
 rw [if_neg (show ¬ (0 : Int) < ((⟨#[]⟩ : ByteArray).size : Nat) by decide)] at hck1
 have HCK1 := Lib.hid hck1
 have HCK2 : Hid (∀ wx, Below w.heap.size w wx -> Calls Tryz.prog 48 #[.pointer (some ⟨x.vb, 0, none⟩), .string t, .int .i64 7939] wx fun e w' => e = .returned (.int .i64 0) /\ wx = w') := fun wx hB => by
  have h := vcheck_any (k.below hB) t 7939
  rw [if_neg (by omega)] at h
  exact h
 have HVA := Lib.hid (vvalid_good w root hr.1 hr.2)
 have hs3 : D.slots.length = 3 := by rw [I.slots]; rfl
 have HP1 : Hid (∀ wx, Below w.heap.size w wx -> Calls Tryz.prog 51 #[.pointer (some ⟨x.vb, 0, none⟩), .int .i64 2, .string root] wx (PutPost wx x h V p u (D.slot (2, root)))) := fun wx hB =>
  vput_any (k.below hB) I.on 2 (by rw [hs3]; decide) root hr.1
 have hun : vrekey h V D root t = if ¬ (D.slot (2, root)).1 = 0 then (14, none, (D.slot (2, root)).2) else
  match vreplace h V (D.slot (2, root)).2 root t with
  | (0, some V', D') => vall V' D'
  | (_, none, D') => (14, none, D')
  | (c, some V', D') => (c, if (D'.slot (2, zero32)).1 = 0 then some V' else none, (D'.slot (2, zero32)).2) := by
  unfold vrekey
  rw [if_neg (by omega)]
  rfl
 rw [hun]
 obtain ⟨RR, hRR⟩ : ∃ RR : VRes, (if ¬ (D.slot (2, root)).1 = 0 then (14, none, (D.slot (2, root)).2) else
  match vreplace h V (D.slot (2, root)).2 root t with
  | (0, some V', D') => vall V' D'
  | (_, none, D') => (14, none, D')
  | (c, some V', D') => (c, if (D'.slot (2, zero32)).1 = 0 then some V' else none, (D'.slot (2, zero32)).2)) = RR := ⟨_, rfl⟩
 rw [hRR]
 have HRR := Lib.hid hRR
 have HI := Lib.hid I
 have HH := Lib.hid (And.intro hb (And.intro hr (And.intro ht (And.intro hD (And.intro hKL hs3)))))
 have KK := Lib.hid k
 clear k I hck1 hun hRR hb hr ht hD hKL hs3
 go_enter Tryz.func25, Tryz.ntmps25
 go_upto_region 9 with (first | (go_at_call 48; have hmk := HB1; clear hmk; refine (HCK2.out _ HB1.out).mono ?_; rintro e wc ⟨rfl, rfl⟩) | (go_at_call 48; refine HCK1.out.mono ?_; rintro e wc ⟨rfl, rfl⟩) | (go_at_call 57; refine HVA.out.mono ?_; rintro e w1 ⟨rfl, hB⟩; have HB1 := Lib.hid hB; clear hB))
 go_wp2_with fail
 refine (HP1.out _ HB1.out).mono ?_
 rintro e w2 ⟨rfl, hF, hd, hv⟩
 have HF2 := Lib.hid ((VLeft.ofBelow (x := x) (u := u) HB1.out).trans hF)
 rcases slot_cases HI.out.on (2, root) with ⟨h0, e0⟩ | ⟨h0, e0⟩
 ·have e1 : (D.slot (2, root)).1 = 14 := by rw [e0]
  have hRe : RR = (14, none, (D.slot (2, root)).2) := by rw [<- HRR.out, if_pos (by rw [e1]; decide)]
  have hR : Hid (VPost w x h p u RR (.returned (.int .i64 14)) w2) := by
   unfold Hid
   rw [hRe]
   exact VPost.mk rfl HF2.out hd (fun _ e => by cases e)
  rw [e1]
  clear hRe
  clear hF hd hv HP1 HCK2 e0 h0
  go_wp2_with fail
  go_ret
  exact hR.out
 ·obtain ⟨d1, d2⟩ := slot_on HI.out.on h0 (2, root)
  have hv2 := hv (by rw [e0])
  obtain ⟨E, hE⟩ : ∃ E, (D.slot (2, root)).2 = E := ⟨_, rfl⟩
  have e1 : (D.slot (2, root)).1 = 0 := by rw [e0]
  rw [hE] at hv2
  have hE2 : E = { D.on 1 D.M with slots := D.slots.set 2 root } := by rw [<- hE, e0]
  rw [<- hE2] at d1 d2
  have hs3 : E.slots.length = 3 := by rw [hE2]; show (D.slots.set 2 root).length = 3; rw [List.length_set]; exact HH.out.2.2.2.2.2
  have hRR := HRR.out
  rw [if_neg (by rw [e1]; exact fun h => h rfl), hE] at hRR
  rw [e1]
  have hJE : JOk h V.J E.M b := by rw [d2.M]; exact HI.out.jok
  have HRP := Lib.hid (vreplace_any hv2 d1 hJE (by have := HH.out.1; omega) HI.out.chain root t HH.out.2.1.1 HH.out.2.2.1 (by rw [d2.M]; exact HH.out.2.2.2.1) (HH.out.2.2.2.2.1.on HF2.out))
  have hcases := replace_out d1 hJE HH.out.1 HI.out.chain root t HH.out.2.2.1
  obtain ⟨r, hr0⟩ : ∃ r, vreplace h V E root t = r := ⟨_, rfl⟩
  rw [hr0] at HRP hcases hRR
  have HR2 := Lib.hid hRR
  clear hRR
  have hcs : (r = (15, some V, E)) \/ (∃ D', r = (14, none, D')) \/ (∃ V' D', r = (0, some V', D') /\ DOn D' /\ D'.slots.length = 3 /\ V'.chain.size = 32 /\ V'.root = root) := by
   rcases hcases with ⟨_, a⟩ | ⟨D', a, _⟩ | ⟨_, V', D', a, hon, _, hsl, _, _, hroot, _, _, _, _, hrd⟩
   ·exact .inl a
   ·exact .inr (.inl ⟨D', a⟩)
   ·refine .inr (.inr ⟨V', D', a, hon, by rw [hsl]; exact hs3, ?_, hroot⟩)
    exact readN_size (r := ⟨V'.chain, V.chain, some t, []⟩) hrd
  have HC := Lib.hid hcs
  have Hd1 := Lib.hid d1
  have Hs3 := Lib.hid hs3
  clear hF hd hv HP1 HCK2 e0 h0 d1 d2 hv2 hE e1 hE2 hs3 hJE hcases hr0 hcs
  go_wp2_with fail
  refine HRP.out.mono ?_
  rintro e w3 ⟨rfl, hF3, hd3, hv3⟩
  rcases HC.out with rfl | ⟨D', rfl⟩ | ⟨V', D', rfl, hon, hs3, hch, hroot⟩
  ·obtain ⟨lo, p1, u1, hV, ho⟩ := hv3 V rfl
   have ho2 : Hid (Later w p u p1 u1) := ho.up HF2.out.size
   have HF3 := Lib.hid (HF2.out.trans hF3)
   have HP2 : Hid (∀ wx, Below w3.heap.size w3 wx -> Calls Tryz.prog 51 #[.pointer (some ⟨x.vb, 0, none⟩), .int .i64 2, .string zero32] wx (PutPost wx { x with lo := lo } h V p1 u1 (E.slot (2, zero32)))) := fun wx hB => vput_any (hV.below hB) Hd1.out 2 (by rw [Hs3.out]; decide) zero32 rfl
   have HE := Lib.hid (vempty_any w3)
   obtain ⟨Z, hZ⟩ : ∃ Z, zero32 = Z := ⟨_, rfl⟩
   rw [hZ] at HP2 HE
   have HZ := Lib.hid hZ
   clear hF3 hd3 hv3 hV ho hZ
   go_wp2_with (first | (go_at_call 61; refine HE.out.mono ?_; rintro e w4 ⟨rfl, hB⟩; have HB4 := Lib.hid hB; clear hB))
   refine (HP2.out _ HB4.out).mono ?_
   rintro e w5 ⟨rfl, hF5, hd5, hv5⟩
   have hRe : RR = (15, if (E.slot (2, Z)).1 = 0 then some V else none, (E.slot (2, Z)).2) := by rw [<- HR2.out, <- HZ.out]
   have hR : Hid (VPost w x h p u RR (.returned (.int .i64 15)) w5) := by
    unfold Hid
    rw [hRe]
    refine VPost.mk rfl ((HF3.out.trans (VLeft.ofBelow HB4.out)).on hF5.re ho2.out.own) hd5 (fun V' e => ?_)
    dsimp only at e
    split at e
    ·rename_i h0
     cases e
     exact ⟨lo, p1, u1, hv5 h0, ho2.out⟩
    ·cases e
   clear hF5 hd5 hv5 hRe
   go_wp2_with fail
   go_ret
   exact hR.out
  ·have hR : Hid (VPost w x h p u RR (.returned (.int .i64 14)) w3) := by
    unfold Hid
    rw [<- HR2.out]
    exact VPost.mk rfl (HF2.out.trans hF3) hd3 (fun _ e => by cases e)
   clear hF3 hd3 hv3
   go_wp2_with fail
   go_ret
   exact hR.out
  ·obtain ⟨lo, p1, u1, hV, ho⟩ := hv3 V' rfl
   have ho2 : Hid (Later w p u p1 u1) := ho.up HF2.out.size
   have HF3 := Lib.hid (HF2.out.trans hF3)
   have HP2 := Lib.hid (vstoreR_any (nd := fun _ _ => true) hV hon hs3 (by rw [hroot]; exact HH.out.2.1.1) hch rfl)
   have Hon := Lib.hid hon
   clear hF3 hd3 hv3 hV ho hon hs3 hch hroot
   go_wp2_with fail
   refine HP2.out.mono ?_
   intro e w4 hP
   have HPF := Lib.hid (vpost_all (V' := V') HF3.out ho2.out Hon.out hP)
   obtain ⟨rfl, _, _, _⟩ := hP
   have h0 := HPF.out
   rw [show vall V' D' = RR from HR2.out] at h0
   have hR := Lib.hid h0
   clear h0 HPF
   go_wp2_with fail
   go_ret
   exact hR.out
end
end Go.Proofs.YtpghocekofdpbaaGreatDoor
