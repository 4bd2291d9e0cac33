import Derived.Test.YtpghocekofdpbaaGreatDoorQr36
set_option maxRecDepth 100000
set_option maxHeartbeats 8000000
namespace Go.Proofs.YtpghocekofdpbaaGreatDoor
open Go.RowKit Go.Shelf
attribute [local go_sem] Oper.semAt_some
section
variable {w w' w3:World} {x:uX} {h b:Nat} {V:mJ} {D E:Dev} {p u u':Value}
theorem kH.image (k:kH w x h V D p u) {ib:Nat} {t:ByteArray} (hb:ak w ib 9 #[.string t]) (hne:ib≠x.a.sb):
  kH ((w.setCell ⟨x.vb,4,none⟩ (.pointer (some ⟨ib,0,none⟩))).setCell ⟨x.vb,5,none⟩ (.slice none 0 0)) { x with lo:=w.heap.size } h { V with image:=some t,texts:= [] } D (.pointer (some ⟨ib,0,none⟩)) (.slice none 0 0):=by
 obtain⟨vj,hv⟩:=k.OZ;have hbv:=k.blk;have g1:=au w x.vb 4 (.pointer (some ⟨ib,0,none⟩));have hb1:=hbv.aB 4 (.pointer (some ⟨ib,0,none⟩));have g2:=au (w.setCell ⟨x.vb,4,none⟩ (.pointer (some ⟨ib,0,none⟩))) x.vb 5 (.slice none 0 0);have hgg:=bG g1 g2;have hd1:=eP k.dev hbv (by decide) g1;refine⟨eP hd1 hb1 (by decide) g2,⟨vj,hv.blk.grown hgg (fun e=>hbv.gY hv.blk (by decide) (Option.some.inj e).symm),hv.row.kept hgg (.inr (aA hv.row hbv (by decide)))⟩,hb1.aB 5 _,?_,Ju _ _ _ _,?_,?_,?_⟩
 ·refine .inr ⟨ib,0,t,9,#[.string t],rfl,rfl,hb.grown hgg (fun e=>hbv.gY hb (by decide) (Option.some.inj e).symm),rfl,.inl rfl,hne⟩
 ·obtain⟨_,q⟩:=k.dev.Bl;exact q.lt
 ·intro g i e;cases e;exact hb.lt
 ·exact hgg.size
theorem alf (c t:ByteArray) (hc:c.size=32) (ht:t.size<=7939):(kY c t).size<=7972:=by rw[Ee];omega
theorem Dc (k:kH w x h V D p u) (hu:nM D) (hJ:vk h V.J D.M b) (hb:b<=255) (hch:V.chain.size=32) (root t:ByteArray) (hr:root.size=32) (ht:t.size<=7939) (hD:D.M.length<=4096) (OD:KL w x u):
  Calls Tryz.prog 58 #[.pointer (some ⟨x.vb,0,none⟩),.string root,.string t] w (eU w x h p u (dY h V D root t)):=by
 have hsb:Hid (x.a.sb<w.heap.size):=by
  obtain⟨_,q⟩:=k.dev.Bl;exact q.lt
 have HW:Hid (∀ wx,Below w.heap.size w wx->Calls Tryz.prog 49 #[.pointer (some ⟨x.vb,0,none⟩),.string root,.string (kY V.chain t),.func (.func 94) #[.pointer (some ⟨x.jb,0,none⟩)] #[]] wx (OE wx x h V D p u (aV root V.J.next (kY V.chain t)) (fA h (aV root V.J.next (kY V.chain t)) V.J D))):=fun wx hB=>
  RZ (k.below hB) hu hJ hb hch root (kY V.chain t) hr (alf _ _ hch ht) hD (OD.on (bH.bD hB))
 have hun:dY h V D root t=match fA h (aV root V.J.next (kY V.chain t)) V.J D with
  | .err c=>(c,some V,D)
  | .down D'=>(14,none,D')
  | .ok n J' D'=>(0,some ⟨J',root,dG V.chain n (aV root V.J.next (kY V.chain t)),some t,[]⟩,D'):=rfl
 rw[hun];obtain⟨B,hB⟩:∃ B,aV root V.J.next (kY V.chain t)=B:=⟨_,rfl⟩;rw[hB] at HW ⊢;obtain⟨T0,hT0⟩:∃ T0,(⟨#[73]⟩:ByteArray)++V.chain=T0:=⟨_,rfl⟩;obtain⟨T,hT⟩:∃ T,kY V.chain t=T:=⟨_,rfl⟩;have hT1:T0++t=T:=by rw[<-hT0,<-hT];rfl
 have hA0:∀ wx,(Op.stringOp .add ⟨#[73]⟩ V.chain).run Tryz.prog wx= .ok (.string T0) wx:=fun wx=>by rw[<-hT0];exact run_string_add_sum wx _ _ (by show 1+V.chain.size<=_;omega)
 have hA1:∀ wx,(Op.stringOp .add T0 t).run Tryz.prog wx= .ok (.string T) wx:=fun wx=>by rw[<-hT1];exact run_string_add_sum wx _ _ (by rw[<-hT0,ByteArray.size_append];show 1+V.chain.size+t.size<=_;omega)
 rw[hT] at HW;have hcases:(∃ c,fA h B V.J D= .err c/\c=15)\/(∃ D',fA h B V.J D= .down D')\/(∃ n J' D',fA h B V.J D= .ok n J' D'):=by
  rcases kJ (h:=h) (D:=D) B V.J with⟨_,a⟩ | ⟨_,_,a⟩ | ⟨_,hl,a⟩
  ·exact .inl ⟨15,a,rfl⟩
  ·exact .inr (.inl ⟨_,a⟩)
  ·exact .inr (.inr ⟨_,_,_,a⟩)
 obtain⟨r,hr0⟩:∃ r,fA h B V.J D=r:=⟨_,rfl⟩;rw[hr0] at HW hcases ⊢;have KK:=zh k;have HC:=zh hcases;clear hun hB hT hT0 hT1 hr0 hu hJ hb hr ht hD OD hcases hch;go_enter Tryz.func58,Tryz.ntmps58;go_upto_region 1 with fail;refine aX (P:=fun W=>Code.wp _ _ _ _ W) (fun W0 hW0=>?_);have B0:Hid (Below w.heap.size w W0):=by unfold Hid;rw[<-hW0];exact(bK _ _).alloc (aF _) _
 have I0:Hid (ak W0 w.heap.size 9 #[.string t]):=by unfold Hid;rw[<-hW0];exact ak.new _ _ _
 obtain⟨ib,eib⟩:∃ g,w.heap.size=g:=⟨_,rfl⟩;have hib:Hid (w.heap.size=ib):=eib;rw[eib] at I0;try rw[eib]
 have K0:=zh (k.below B0.out);obtain⟨c0,c1,c2,c3,c4,c5,c6⟩:=K0.out.cells;have i0:=I0.out.cell 0;clear hW0 eib k
 go_region_held3 (fun W=>W.cell? ⟨x.vb,3,none⟩=some (.string V.chain)/\W.cell? ⟨x.vb,1,none⟩=some (.pointer (some ⟨x.jb,0,none⟩))/\W.cell? ⟨ib,0,none⟩=some (.string t)) (go_keep)
  (first | (go_at_call 49;refine(HW.out _ B0.out.drew).mono ?_;rintro e w1 ⟨rfl,hF,⟨cb,hbk⟩,hpost⟩;have y1:=hbk.cell 1;have y3:=hbk.cell 3;have y4:=(bH.str (w0:=W0) hF K0.out (fun _ _ _ h=>h) I0.out.drew (by have:=hsb.out;have:=hib.out;omega) (by have:=hib.out;intro e;have:=(KK.out.row.lt _ e).1;have h2:=(KK.out.row.lt _ e).2;omega)).cell 0))
 have HF:=zh ((bH.bD (x:=x) (u:=u) B0.out.drew).trans hF);have hI1:Hid (ak w1 ib 9 #[.string t]):=bH.str (w0:=W0) hF K0.out (fun _ _ _ h=>h) I0.out.drew (by have:=hsb.out;have:=hib.out;omega) (by have:=hib.out;intro e;have h2:=(KK.out.row.lt _ e).2;omega);clear y1 y3 y4 c0 c1 c2 c3 c4 c5 c6 hF HW hA0 hA1 i0;rcases HC.out with⟨c,rfl,rfl⟩ | ⟨D',rfl⟩ | ⟨n,J',D',rfl⟩
 ·have K1:Hid (kH w1 x h V D p u):=hpost;clear hpost hbk;go_wp2_with fail;go_ret;exact eU.mk rfl HF.out K1.out.dev (fun V' e=>by cases e;exact⟨x.lo,p,u,K1.out,Later.refl _ _ _⟩)
 ·have K1:Hid (aO w1 x.a D'):=hpost;clear hpost hbk;go_wp2_with fail;go_ret;exact eU.mk rfl HF.out K1.out (fun _ e=>by cases e)
 ·have K1:Hid (kH w1 x h { V with J:=J' } D' p u):=hpost;obtain⟨L,hL⟩:∃ L,dG V.chain n B=L:=⟨_,rfl⟩;have hws:wrS V B (.ok n J' D')=L:=hL;have hwe:wrE (.ok n J' D')=0:=rfl;have HLe:=zh hL;obtain⟨d0,d1,d2,d3,d4,d5,d6⟩:=K1.out.cells;have f2:=K1.out.blk.frozen 2;have f3:=K1.out.blk.frozen 3;have f4:=K1.out.blk.frozen 4;have f5:=K1.out.blk.frozen 5;rw[hws,hwe];clear hpost hbk hws hwe hL;go_wp2_with fail;go_ret;have hL:=HLe.out;subst hL;have K2:=K1.out.set 2 (.string root) (V':= { V with J:=J',root:=root }) (p':=p) (u':=u) rfl rfl K1.out.img K1.out.row K1.out.Rw;have K3:=K2.set 3 (.string (dG V.chain n B)) (V':= { V with J:=J',root:=root,chain:=dG V.chain n B }) (p':=p) (u':=u) rfl rfl K2.img K2.row K2.Rw;have hb2:ak ((w1.setCell ⟨x.vb,2,none⟩ (.string root)).setCell ⟨x.vb,3,none⟩ (.string (dG V.chain n B))) ib 9 #[.string t]:=
   (hI1.out.grown (au _ x.vb 2 _) (fun e=>K1.out.blk.gY hI1.out (by decide) (Option.some.inj e).symm)).grown (au _ x.vb 3 _) (fun e=>K1.out.blk.gY hI1.out (by decide) (Option.some.inj e).symm)
  have K4:=K3.image hb2 (by have:=hsb.out;have:=hib.out;omega);refine eU.mk rfl ((((HF.out.set 2 _).set 3 _).set 4 _).set 5 _) K4.dev (fun V' e=>?_);cases e;exact⟨_,_,_,K4,⟨fun k e=>(by cases e),fun g i e=>(by cases e;exact .inr (by have:=hib.out;omega))⟩⟩
end
theorem XE (a b c:ByteArray):(∀ wx,(Instr.index 96 (.agg #[.string a,.string b,.string c]) (.int .i64 0)).run Tryz.prog wx= .ok (.string a) wx)/\(∀ wx,(Instr.index 96 (.agg #[.string a,.string b,.string c]) (.int .i64 1)).run Tryz.prog wx= .ok (.string b) wx)/\(∀ wx,(Instr.index 96 (.agg #[.string a,.string b,.string c]) (.int .i64 2)).run Tryz.prog wx= .ok (.string c) wx):=
 ⟨fun wx=>by kernel_rfl,fun wx=>by kernel_rfl,fun wx=>by kernel_rfl⟩
theorem nG {f:Nat->ByteArray->Bool} {y:Nat×ByteArray} {r:List (Nat×ByteArray)} {D:Dev} (h:f y.1 y.2=false):aH ((y::r).filter fun y=>f y.1 y.2) D=aH (r.filter fun y=>f y.1 y.2) D:=by
 rw[List.filter_cons_of_neg (by rw[h];decide)]
theorem nH {f:Nat->ByteArray->Bool} {y:Nat×ByteArray} {r:List (Nat×ByteArray)} {D:Dev} (h:f y.1 y.2=true):aH ((y::r).filter fun y=>f y.1 y.2) D=if (D.slot y).1=0 then aH (r.filter fun y=>f y.1 y.2) (D.slot y).2 else D.slot y:=by
 have e:(y::r).filter (fun y:Nat×ByteArray=>f y.1 y.2)=y::r.filter (fun y:Nat×ByteArray=>f y.1 y.2):=List.filter_cons_of_pos (p:=fun y:Nat×ByteArray=>f y.1 y.2) h;rw[e];rfl
theorem qP {D:Dev} (hd:nM D) (y:Nat×ByteArray):(D.slot y).1=0->nM (D.slot y).2/\(D.slot y).2.slots.length=D.slots.length:=by
 intro h;rcases iD hd y with⟨_,e⟩ | ⟨h0,e⟩
 ·rw[e] at h;cases h
 ·rw[e];exact⟨(qG hd h0 y).1,List.length_set⟩
theorem iO.mk {w:World} {x:uX} {h:Nat} {V:mJ} {p u:Value} {r:Int×Dev} {e:Ending} {w':World} (h1:e= .returned (.int .i64 r.1)) (h2:bH w w' x u) (h3:aO w' x.a r.2) (h4:r.1=0->kH w' x h V r.2 p u):iO w x h V p u r e w':=⟨h1,h2,h3,h4⟩
section
variable {w w' w1 w2:World} {x:uX} {h b lo:Nat} {V V':mJ} {D E:Dev} {p u p1 u1:Value} {nd:Nat->ByteArray->Bool}
theorem bH.re (h:bH w w' { x with lo:=lo } u):bH w w' x u:=⟨h.os,h.tape,h.output,h.size,h.rest⟩
theorem Si {e:Ending} (hF:bH w w1 x u) (ho:Later w p u p1 u1) (hE:nM E) (hP:iO w1 { x with lo:=lo } h V' p1 u1 (E.slot (1,V'.chain)) e w2):eU w x h p u (dR V'.chain V' E) e w2:=by
 obtain⟨rfl,h1,h2,h3⟩:=hP;have hL:=hF.on h1.re ho.own;unfold dR;rcases mg hE (1,V'.chain) with e0 | e0
 ·rw[if_pos e0];exact eU.mk (by rw[e0]) hL h2 (fun V'' e=>by cases e;exact⟨lo,p1,u1,h3 e0,ho⟩)
 ·rw[if_neg (by rw[e0];decide)];exact eU.mk (by rw[e0]) hL h2 (fun V'' e=>by cases e)
theorem Ob (k:kH w x h V D p u) (I:jy h V D b) (hb:b<255) (t:ByteArray) (ht:t.size<=7939) (hD:D.M.length<=4096) (OD:KL w x u):
  Calls Tryz.prog 37 #[.pointer (some ⟨x.vb,0,none⟩),.string t] w (eU w x h p u (dK h V D t)):=by
 have hck:=wO k t 7939;rw[if_neg (by omega)] at hck;have HCK:=zh hck;have HP:=Dc k I.on I.CJ (by omega) I.chain V.root t I.root.1 ht hD OD;have hs3:D.slots.length=3:=by rw[I.slots];rfl
 have hun:dK h V D t=match dY h V D V.root t with
  | (0,some V',D')=>dR V'.chain V' D'
  | x=>x:=by
  unfold dK;rw[if_neg (by omega)];rfl
 rw[hun];have hcases:=sW I.on I.CJ hb I.chain V.root t ht;obtain⟨r,hr⟩:∃ r,dY h V D V.root t=r:=⟨_,rfl⟩;rw[hr] at HP hcases ⊢;have HPH:=zh HP;obtain⟨c0,c1,c2,c3,c4,c5,c6⟩:=k.cells;have KK:=zh k;have hcs:(r=(15,some V,D))\/(∃ D',r=(14,none,D'))\/(∃ V' D',r=(0,some V',D')/\nM D'/\D'.slots.length=3/\V'.chain.size=32):=by
  rcases hcases with⟨_,a⟩ | ⟨D',a,_⟩ | ⟨_,V',D',a,hon,_,hsl,_,_,_,_,_,_,_,hrd⟩
  ·exact .inl a
  ·exact .inr (.inl ⟨D',a⟩)
  ·refine .inr (.inr ⟨V',D',a,hon,by rw[hsl];exact hs3,?_⟩);exact rV (r:=⟨V'.chain,V.chain,some t,[]⟩) hrd
 have HC:=zh hcs;clear k I hb ht hD OD hck HP hs3 hun hcases hr hcs;go_enter Tryz.func37,Tryz.ntmps37;go_wp2_with (first | (go_at_call 48;refine HCK.out.mono ?_;rintro e w1 ⟨rfl,rfl⟩));refine HPH.out.mono ?_;rintro e w1 ⟨rfl,hF,hd,hv⟩;rcases HC.out with rfl | ⟨D',rfl⟩ | ⟨V',D',rfl,hon,hs3,hch⟩
 ·have Hf:=zh (eU.mk (w:=w) (x:=x) (h:=h) (p:=p) (u:=u) (r:=(15,some V,D)) rfl hF hd hv);clear hF hd hv;go_wp2_with fail;go_ret;exact Hf.out
 ·have Hf:=zh (eU.mk (w:=w) (x:=x) (h:=h) (p:=p) (u:=u) (r:=(14,none,D')) rfl hF hd hv);clear hF hd hv;go_wp2_with fail;go_ret;exact Hf.out
 ·obtain⟨lo,p1,u1,hV,ho⟩:=hv V' rfl;have HF:=zh hF;have HV:=zh hV;have HO:=zh ho;have HP2:=zh (mD hV hon 1 (by rw[hs3];decide) V'.chain hch);have Hon:=zh hon;obtain⟨d0,d1,d2,d3,d4,d5,d6⟩:=hV.cells;clear hF hd hv hV ho hon hs3 hch c0 c1 c2 c3 c4 c5 c6;go_wp2_with fail;refine HP2.out.mono ?_;intro e w2 hP;have HPF:=zh (Si HF.out HO.out Hon.out hP);obtain⟨rfl,_,_,_⟩:=hP;go_wp2_with fail;go_ret;exact HPF.out
theorem VG (wx:World) (i:Nat) (t:ByteArray):Calls Tryz.prog 60 #[.int .i64 (i:Int),.string t] wx fun e w'=>e= .returned (.bool true)/\wx=w':=by
 go_enter Tryz.func60,Tryz.ntmps60;go_wp2_with fail;go_ret;exact⟨rfl,rfl⟩
theorem Sj (k:kH w x h V D p u) (hu:nM D) (hs:D.slots.length=3) (hr:V.root.size=32) (hc:V.chain.size=32) (acS:nd=fun _ _=>true):
  Calls Tryz.prog 59 #[.pointer (some ⟨x.vb,0,none⟩),.func (.func 60) #[] #[]] w (iO w x h V p u (aH ([(0,V.root),(1,V.chain),(2,zero32)].filter fun y=>nd y.1 y.2) D)):=by
 have HN:Hid (∀ wx,bH w wx x u->∀ (i:Nat) (t:ByteArray),i<3->Calls Tryz.prog 60 #[.int .i64 (i:Int),.string t] wx fun e w'=>e= .returned (.bool (nd i t))/\wx=w'):=fun wx _ i t _=>by subst acS;exact VG wx i t
 obtain⟨Z,hZ⟩:∃ Z,zero32=Z:=⟨_,rfl⟩;have hZs:Z.size=32:=by rw[<-hZ];rfl
 have HE:Hid (∀ wx,Calls Tryz.prog 61 #[] wx fun e w'=>e= .returned (.string Z)/\Below wx.heap.size wx w'):=by rw[<-hZ];exact zh mV
 obtain⟨A,hA⟩:∃ A,V.root=A:=⟨_,rfl⟩;obtain⟨B,hB⟩:∃ B,V.chain=B:=⟨_,rfl⟩;obtain⟨c0,c1,c2,c3,c4,c5,c6⟩:=k.cells;rw[hA] at hr c2;rw[hB] at hc c3;rw[hZ,hA,hB];obtain⟨R,hR⟩:∃ R,aH ([(0,A),(1,B),(2,Z)].filter fun y=>nd y.1 y.2) D=R:=⟨_,rfl⟩;rw[hR];have HR:=zh hR;have KK:=zh k;have Hu:=zh hu;have Hs:=zh hs;have Hz:=zh (And.intro hr (And.intro hc hZs));have x0:=XE A B Z;have HAe:=zh hA;have ZI:=zh hB;clear k hu hs hr hc hZ hZs hA hB hR acS;go_enter Tryz.func59,Tryz.ntmps59;go_upto_region 1 with fail
 go_region_held3 (fun W=>W.cell? ⟨x.vb,2,none⟩=some (.string A)/\W.cell? ⟨x.vb,3,none⟩=some (.string B)) (go_keep)
  (first | (go_at_call 61;refine(HE.out _).mono ?_;rintro e w1 ⟨rfl,hB1⟩;have HB1:=zh ((bK w.heap.size w).drew.trans (hB1.mono (bK w.heap.size w).drew.size));have y2:w1.cell? ⟨x.vb,2,none⟩=some (.string A):=(by rw[<-HAe.out];exact((KK.out.below HB1.out).cells).2.2.1);have y3:w1.cell? ⟨x.vb,3,none⟩=some (.string B):=(by rw[<-ZI.out];exact((KK.out.below HB1.out).cells).2.2.2.1)))
 clear y2 y3 c0 c1 c2 c3 c4 c5 c6 hB1;have K1:=zh (KK.out.below HB1.out);have F1:Hid (bH w w1 x u):=bH.bD HB1.out;go_wp2_with fail;go_loopw [18] (fun v18 wr=>∃ (k:Nat) (Dk:Dev),k<=3/\v18= .int .i64 (k:Int)/\Hid (R=aH (([(0,A),(1,B),(2,Z)].drop k).filter fun y=>nd y.1 y.2) Dk)/\Hid (nM Dk/\Dk.slots.length=3)/\Hid (kH wr x h V Dk p u)/\Hid (bH w wr x u)) (fun v18 _=>3-(intOf v18).toNat)
 case atStart=>exact⟨0,D,by decide,rfl,HR.out.symm,⟨Hu.out,Hs.out⟩,K1.out,F1.out⟩
 case round=>
  obtain⟨k,Dk,hk,rfl,hRk,hon,hv,hF⟩:=hrel;obtain rfl | rfl | rfl | rfl:k=0\/k=1\/k=2\/k=3:=by omega
  ·have hcl:=zh (HN.out _ hF.out 0 A (by decide));have hpt:=zh (mD hv.out hon.out.1 0 (by rw[hon.out.2];decide) A Hz.out.1);cases hnd:nd 0 A with
   | false=>
    rw[hnd] at hcl;have xZ:Hid (R=aH (([(0,A),(1,B),(2,Z)].drop 1).filter fun y=>nd y.1 y.2) Dk):=by
     unfold Hid;exact hRk.out.trans (nG (f:=nd) (y:=(0,A)) (r:= [(0,A),(1,B),(2,Z)].drop 1) hnd)
    clear hnd hpt;go_wp2_with fail;refine hcl.out.mono ?_;rintro e w2 ⟨rfl,rfl⟩;go_wp2_with fail;go_roundw
    case rel=>exact⟨1,Dk,by decide,by go_num,xZ.out,hon.out,hv.out,hF.out⟩
    case measure=>simp[intOf]
   | true=>
    rw[hnd] at hcl;have hst:Hid (R=if (Dk.slot (0,A)).1=0 then aH (([(0,A),(1,B),(2,Z)].drop 1).filter fun y=>nd y.1 y.2) (Dk.slot (0,A)).2 else Dk.slot (0,A)):=by
     unfold Hid;exact hRk.out.trans (nH (f:=nd) (y:=(0,A)) (r:= [(0,A),(1,B),(2,Z)].drop 1) hnd)
    have hse:=mg hon.out.1 (0,A);have hnx:=qP hon.out.1 (0,A);obtain⟨S,hS⟩:∃ S,Dk.slot (0,A)=S:=⟨_,rfl⟩;rw[hS] at hst hse hnx hpt;obtain⟨se,sd⟩:=S;dsimp only at hse hnx;have zY:=zh hnx;have Hlen:=zh hon.out.2;clear hnd hS hon hnx;rcases hse with rfl | rfl
    ·have xZ:Hid (R=aH (([(0,A),(1,B),(2,Z)].drop 1).filter fun y=>nd y.1 y.2) sd):=by unfold Hid;exact hst.out.trans (if_pos rfl)
     have Jk:Hid (nM sd/\sd.slots.length=3):=⟨(zY.out rfl).1,(zY.out rfl).2.trans Hlen.out⟩;clear hst zY;go_wp2_with fail;refine hcl.out.mono ?_;rintro e w2 ⟨rfl,rfl⟩;go_wp2_with fail;refine hpt.out.mono ?_;rintro e w3 ⟨rfl,h1,h2,h3⟩;have Hf:=zh (And.intro h1 (h3 rfl));clear h1 h2 h3;go_wp2_with fail;go_roundw
     case rel=>exact⟨1,sd,by decide,by go_num,xZ.out,Jk.out,Hf.out.2,hF.out.trans Hf.out.1⟩
     case measure=>simp[intOf]
    ·have VH:Hid (R=(14,sd)):=by unfold Hid;exact hst.out.trans (if_neg (show ¬ (14:Int)=0 by decide))
     clear hst zY;go_wp2_with fail;refine hcl.out.mono ?_;rintro e w2 ⟨rfl,rfl⟩;go_wp2_with fail;refine hpt.out.mono ?_;rintro e w3 ⟨rfl,h1,h2,_⟩;have Hf:=zh (And.intro h1 h2);clear h1 h2;go_wp2_with fail;go_ret;rw[VH.out];exact iO.mk rfl (hF.out.trans Hf.out.1) Hf.out.2 (fun e=>by cases e)
  ·have hcl:=zh (HN.out _ hF.out 1 B (by decide));have hpt:=zh (mD hv.out hon.out.1 1 (by rw[hon.out.2];decide) B Hz.out.2.1);cases hnd:nd 1 B with
   | false=>
    rw[hnd] at hcl;have xZ:Hid (R=aH (([(0,A),(1,B),(2,Z)].drop 2).filter fun y=>nd y.1 y.2) Dk):=by
     unfold Hid;exact hRk.out.trans (nG (f:=nd) (y:=(1,B)) (r:= [(0,A),(1,B),(2,Z)].drop 2) hnd)
    clear hnd hpt;go_wp2_with fail;refine hcl.out.mono ?_;rintro e w2 ⟨rfl,rfl⟩;go_wp2_with fail;go_roundw
    case rel=>exact⟨2,Dk,by decide,by go_num,xZ.out,hon.out,hv.out,hF.out⟩
    case measure=>simp[intOf]
   | true=>
    rw[hnd] at hcl;have hst:Hid (R=if (Dk.slot (1,B)).1=0 then aH (([(0,A),(1,B),(2,Z)].drop 2).filter fun y=>nd y.1 y.2) (Dk.slot (1,B)).2 else Dk.slot (1,B)):=by
     unfold Hid;exact hRk.out.trans (nH (f:=nd) (y:=(1,B)) (r:= [(0,A),(1,B),(2,Z)].drop 2) hnd)
    have hse:=mg hon.out.1 (1,B);have hnx:=qP hon.out.1 (1,B);obtain⟨S,hS⟩:∃ S,Dk.slot (1,B)=S:=⟨_,rfl⟩;rw[hS] at hst hse hnx hpt;obtain⟨se,sd⟩:=S;dsimp only at hse hnx;have zY:=zh hnx;have Hlen:=zh hon.out.2;clear hnd hS hon hnx;rcases hse with rfl | rfl
    ·have xZ:Hid (R=aH (([(0,A),(1,B),(2,Z)].drop 2).filter fun y=>nd y.1 y.2) sd):=by unfold Hid;exact hst.out.trans (if_pos rfl)
     have Jk:Hid (nM sd/\sd.slots.length=3):=⟨(zY.out rfl).1,(zY.out rfl).2.trans Hlen.out⟩;clear hst zY;go_wp2_with fail;refine hcl.out.mono ?_;rintro e w2 ⟨rfl,rfl⟩;go_wp2_with fail;refine hpt.out.mono ?_;rintro e w3 ⟨rfl,h1,h2,h3⟩;have Hf:=zh (And.intro h1 (h3 rfl));clear h1 h2 h3;go_wp2_with fail;go_roundw
     case rel=>exact⟨2,sd,by decide,by go_num,xZ.out,Jk.out,Hf.out.2,hF.out.trans Hf.out.1⟩
     case measure=>simp[intOf]
    ·have VH:Hid (R=(14,sd)):=by unfold Hid;exact hst.out.trans (if_neg (show ¬ (14:Int)=0 by decide))
     clear hst zY;go_wp2_with fail;refine hcl.out.mono ?_;rintro e w2 ⟨rfl,rfl⟩;go_wp2_with fail;refine hpt.out.mono ?_;rintro e w3 ⟨rfl,h1,h2,_⟩;have Hf:=zh (And.intro h1 h2);clear h1 h2;go_wp2_with fail;go_ret;rw[VH.out];exact iO.mk rfl (hF.out.trans Hf.out.1) Hf.out.2 (fun e=>by cases e)
  ·have hcl:=zh (HN.out _ hF.out 2 Z (by decide));have hpt:=zh (mD hv.out hon.out.1 2 (by rw[hon.out.2];decide) Z Hz.out.2.2);cases hnd:nd 2 Z with
   | false=>
    rw[hnd] at hcl;have xZ:Hid (R=aH (([(0,A),(1,B),(2,Z)].drop 3).filter fun y=>nd y.1 y.2) Dk):=by
     unfold Hid;exact hRk.out.trans (nG (f:=nd) (y:=(2,Z)) (r:= [(0,A),(1,B),(2,Z)].drop 3) hnd)
    clear hnd hpt;go_wp2_with fail;refine hcl.out.mono ?_;rintro e w2 ⟨rfl,rfl⟩;go_wp2_with fail;go_roundw
    case rel=>exact⟨3,Dk,by decide,by go_num,xZ.out,hon.out,hv.out,hF.out⟩
    case measure=>simp[intOf]
   | true=>
    rw[hnd] at hcl;have hst:Hid (R=if (Dk.slot (2,Z)).1=0 then aH (([(0,A),(1,B),(2,Z)].drop 3).filter fun y=>nd y.1 y.2) (Dk.slot (2,Z)).2 else Dk.slot (2,Z)):=by
     unfold Hid;exact hRk.out.trans (nH (f:=nd) (y:=(2,Z)) (r:= [(0,A),(1,B),(2,Z)].drop 3) hnd)
    have hse:=mg hon.out.1 (2,Z);have hnx:=qP hon.out.1 (2,Z);obtain⟨S,hS⟩:∃ S,Dk.slot (2,Z)=S:=⟨_,rfl⟩;rw[hS] at hst hse hnx hpt;obtain⟨se,sd⟩:=S;dsimp only at hse hnx;have zY:=zh hnx;have Hlen:=zh hon.out.2;clear hnd hS hon hnx;rcases hse with rfl | rfl
    ·have xZ:Hid (R=aH (([(0,A),(1,B),(2,Z)].drop 3).filter fun y=>nd y.1 y.2) sd):=by unfold Hid;exact hst.out.trans (if_pos rfl)
     have Jk:Hid (nM sd/\sd.slots.length=3):=⟨(zY.out rfl).1,(zY.out rfl).2.trans Hlen.out⟩;clear hst zY;go_wp2_with fail;refine hcl.out.mono ?_;rintro e w2 ⟨rfl,rfl⟩;go_wp2_with fail;refine hpt.out.mono ?_;rintro e w3 ⟨rfl,h1,h2,h3⟩;have Hf:=zh (And.intro h1 (h3 rfl));clear h1 h2 h3;go_wp2_with fail;go_roundw
     case rel=>exact⟨3,sd,by decide,by go_num,xZ.out,Jk.out,Hf.out.2,hF.out.trans Hf.out.1⟩
     case measure=>simp[intOf]
    ·have VH:Hid (R=(14,sd)):=by unfold Hid;exact hst.out.trans (if_neg (show ¬ (14:Int)=0 by decide))
     clear hst zY;go_wp2_with fail;refine hcl.out.mono ?_;rintro e w2 ⟨rfl,rfl⟩;go_wp2_with fail;refine hpt.out.mono ?_;rintro e w3 ⟨rfl,h1,h2,_⟩;have Hf:=zh (And.intro h1 h2);clear h1 h2;go_wp2_with fail;go_ret;rw[VH.out];exact iO.mk rfl (hF.out.trans Hf.out.1) Hf.out.2 (fun e=>by cases e)
  ·have Qi:R=(0,Dk):=hRk.out;have VH:=zh Qi;clear Qi;go_wp2_with fail;go_ret;rw[VH.out];exact iO.mk rfl hF.out hv.out.dev (fun _=>hv.out)
end
section
variable {w w' w1 w2:World} {x:uX} {h b lo:Nat} {V V':mJ} {D E:Dev} {p u p1 u1:Value}
theorem ZJ {e:Ending} (hF:bH w w1 x u) (ho:Later w p u p1 u1) (hE:nM E) (hP:iO w1 { x with lo:=lo } h V' p1 u1 (aH [(0,V'.root),(1,V'.chain),(2,zero32)] E) e w2):eU w x h p u (rU V' E) e w2:=by
 obtain⟨rfl,h1,h2,h3⟩:=hP;have hL:=hF.on h1.re ho.own;unfold rU;rcases lI [(0,V'.root),(1,V'.chain),(2,zero32)] E hE with⟨e0,_⟩ | ⟨e0,_⟩
 ·rw[if_pos e0];exact eU.mk (by rw[e0]) hL h2 (fun V'' e=>by cases e;exact⟨lo,p1,u1,h3 e0,ho⟩)
 ·rw[if_neg (by rw[e0];decide)];exact eU.mk (by rw[e0]) hL h2 (fun V'' e=>by cases e)
theorem Vj (k:kH w x h V D p u) (I:jy h V D b) (hb:b<255) (root t:ByteArray) (hr:root.size=32/\root≠zero32) (ht:t.size<=7939) (hD:D.M.length<=4096) (OD:KL w x u):
  Calls Tryz.prog 25 #[.pointer (some ⟨x.vb,0,none⟩),.string root,.string t] w (eU w x h p u (eY h V D root t)):=by
 have hck1:=wO k ⟨#[]⟩ 0;rw[if_neg (show ¬ (0:Int)<((⟨#[]⟩:ByteArray).size:Nat) by decide)] at hck1;have aog:=zh hck1;have ahB:Hid (∀ wx,Below w.heap.size w wx->Calls Tryz.prog 48 #[.pointer (some ⟨x.vb,0,none⟩),.string t,.int .i64 7939] wx fun e w'=>e= .returned (.int .i64 0)/\wx=w'):=fun wx hB=>by
  have h:=wO (k.below hB) t 7939;rw[if_neg (by omega)] at h;exact h
 have HVA:=zh (FB w root hr.1 hr.2);have hs3:D.slots.length=3:=by rw[I.slots];rfl
 have HP1:Hid (∀ wx,Below w.heap.size w wx->Calls Tryz.prog 51 #[.pointer (some ⟨x.vb,0,none⟩),.int .i64 2,.string root] wx (iO wx x h V p u (D.slot (2,root)))):=fun wx hB=>
  mD (k.below hB) I.on 2 (by rw[hs3];decide) root hr.1
 have hun:eY h V D root t=if ¬ (D.slot (2,root)).1=0 then (14,none,(D.slot (2,root)).2) else
  match dY h V (D.slot (2,root)).2 root t with
  | (0,some V',D')=>rU V' D'
  | (_,none,D')=>(14,none,D')
  | (c,some V',D')=>(c,if (D'.slot (2,zero32)).1=0 then some V' else none,(D'.slot (2,zero32)).2):=by
  unfold eY;rw[if_neg (by omega)];rfl
 rw[hun];obtain⟨RR,hRR⟩:∃ RR:uZ,(if ¬ (D.slot (2,root)).1=0 then (14,none,(D.slot (2,root)).2) else
  match dY h V (D.slot (2,root)).2 root t with
  | (0,some V',D')=>rU V' D'
  | (_,none,D')=>(14,none,D')
  | (c,some V',D')=>(c,if (D'.slot (2,zero32)).1=0 then some V' else none,(D'.slot (2,zero32)).2))=RR:=⟨_,rfl⟩
 rw[hRR];have HRR:=zh hRR;have HI:=zh I;have HH:=zh (And.intro hb (And.intro hr (And.intro ht (And.intro hD (And.intro OD hs3)))));have KK:=zh k;clear k I hck1 hun hRR hb hr ht hD OD hs3;go_enter Tryz.func25,Tryz.ntmps25;go_upto_region 9 with(first | (go_at_call 48;have hmk:=HB1;clear hmk;refine(ahB.out _ HB1.out).mono ?_;rintro e wc ⟨rfl,rfl⟩) | (go_at_call 48;refine aog.out.mono ?_;rintro e wc ⟨rfl,rfl⟩) | (go_at_call 57;refine HVA.out.mono ?_;rintro e w1 ⟨rfl,hB⟩;have HB1:=zh hB;clear hB));go_wp2_with fail;refine(HP1.out _ HB1.out).mono ?_;rintro e w2 ⟨rfl,hF,hd,hv⟩;have HF2:=zh ((bH.bD (x:=x) (u:=u) HB1.out).trans hF);rcases iD HI.out.on (2,root) with⟨h0,e0⟩ | ⟨h0,e0⟩
 ·have e1:(D.slot (2,root)).1=14:=by rw[e0]
  have hRe:RR=(14,none,(D.slot (2,root)).2):=by rw[<-HRR.out,if_pos (by rw[e1];decide)]
  have hR:Hid (eU w x h p u RR (.returned (.int .i64 14)) w2):=by
   unfold Hid;rw[hRe];exact eU.mk rfl HF2.out hd (fun _ e=>by cases e)
  rw[e1];clear hRe;clear hF hd hv HP1 ahB e0 h0;go_wp2_with fail;go_ret;exact hR.out
 ·obtain⟨d1,d2⟩:=qG HI.out.on h0 (2,root);have hv2:=hv (by rw[e0]);obtain⟨E,hE⟩:∃ E,(D.slot (2,root)).2=E:=⟨_,rfl⟩;have e1:(D.slot (2,root)).1=0:=by rw[e0]
  rw[hE] at hv2;have hE2:E= { D.on 1 D.M with slots:=D.slots.set 2 root }:=by rw[<-hE,e0]
  rw[<-hE2] at d1 d2;have hs3:E.slots.length=3:=by rw[hE2];show(D.slots.set 2 root).length=3;rw[List.length_set];exact HH.out.2.2.2.2.2
  have hRR:=HRR.out;rw[if_neg (by rw[e1];exact fun h=>h rfl),hE] at hRR;rw[e1];have hJE:vk h V.J E.M b:=by rw[d2.M];exact HI.out.CJ
  have HRP:=zh (Dc hv2 d1 hJE (by have:=HH.out.1;omega) HI.out.chain root t HH.out.2.1.1 HH.out.2.2.1 (by rw[d2.M];exact HH.out.2.2.2.1) (HH.out.2.2.2.2.1.on HF2.out));have hcases:=sW d1 hJE HH.out.1 HI.out.chain root t HH.out.2.2.1;obtain⟨r,hr0⟩:∃ r,dY h V E root t=r:=⟨_,rfl⟩;rw[hr0] at HRP hcases hRR;have HR2:=zh hRR;clear hRR;have hcs:(r=(15,some V,E))\/(∃ D',r=(14,none,D'))\/(∃ V' D',r=(0,some V',D')/\nM D'/\D'.slots.length=3/\V'.chain.size=32/\V'.root=root):=by
   rcases hcases with⟨_,a⟩ | ⟨D',a,_⟩ | ⟨_,V',D',a,hon,_,hsl,_,_,hroot,_,_,_,_,hrd⟩
   ·exact .inl a
   ·exact .inr (.inl ⟨D',a⟩)
   ·refine .inr (.inr ⟨V',D',a,hon,by rw[hsl];exact hs3,?_,hroot⟩);exact rV (r:=⟨V'.chain,V.chain,some t,[]⟩) hrd
  have HC:=zh hcs;have Hd1:=zh d1;have Hs3:=zh hs3;clear hF hd hv HP1 ahB e0 h0 d1 d2 hv2 hE e1 hE2 hs3 hJE hcases hr0 hcs;go_wp2_with fail;refine HRP.out.mono ?_;rintro e w3 ⟨rfl,hF3,hd3,hv3⟩;rcases HC.out with rfl | ⟨D',rfl⟩ | ⟨V',D',rfl,hon,hs3,hch,hroot⟩
  ·obtain⟨lo,p1,u1,hV,ho⟩:=hv3 V rfl;have ho2:Hid (Later w p u p1 u1):=ho.up HF2.out.size;have HF3:=zh (HF2.out.trans hF3);have HP2:Hid (∀ wx,Below w3.heap.size w3 wx->Calls Tryz.prog 51 #[.pointer (some ⟨x.vb,0,none⟩),.int .i64 2,.string zero32] wx (iO wx { x with lo:=lo } h V p1 u1 (E.slot (2,zero32)))):=fun wx hB=>mD (hV.below hB) Hd1.out 2 (by rw[Hs3.out];decide) zero32 rfl
   have HE:=zh (mV w3);obtain⟨Z,hZ⟩:∃ Z,zero32=Z:=⟨_,rfl⟩;rw[hZ] at HP2 HE;have HZ:=zh hZ;clear hF3 hd3 hv3 hV ho hZ;go_wp2_with (first | (go_at_call 61;refine HE.out.mono ?_;rintro e w4 ⟨rfl,hB⟩;have HB4:=zh hB;clear hB));refine(HP2.out _ HB4.out).mono ?_;rintro e w5 ⟨rfl,XF,hd5,hv5⟩;have hRe:RR=(15,if (E.slot (2,Z)).1=0 then some V else none,(E.slot (2,Z)).2):=by rw[<-HR2.out,<-HZ.out]
   have hR:Hid (eU w x h p u RR (.returned (.int .i64 15)) w5):=by
    unfold Hid;rw[hRe];refine eU.mk rfl ((HF3.out.trans (bH.bD HB4.out)).on XF.re ho2.out.own) hd5 (fun V' e=>?_);dsimp only at e;split at e
    ·rename_i h0;cases e;exact⟨lo,p1,u1,hv5 h0,ho2.out⟩
    ·cases e
   clear XF hd5 hv5 hRe;go_wp2_with fail;go_ret;exact hR.out
  ·have hR:Hid (eU w x h p u RR (.returned (.int .i64 14)) w3):=by
    unfold Hid;rw[<-HR2.out];exact eU.mk rfl (HF2.out.trans hF3) hd3 (fun _ e=>by cases e)
   clear hF3 hd3 hv3;go_wp2_with fail;go_ret;exact hR.out
  ·obtain⟨lo,p1,u1,hV,ho⟩:=hv3 V' rfl;have ho2:Hid (Later w p u p1 u1):=ho.up HF2.out.size;have HF3:=zh (HF2.out.trans hF3);have HP2:=zh (Sj (nd:=fun _ _=>true) hV hon hs3 (by rw[hroot];exact HH.out.2.1.1) hch rfl);have Hon:=zh hon;clear hF3 hd3 hv3 hV ho hon hs3 hch hroot;go_wp2_with fail;refine HP2.out.mono ?_;intro e w4 hP;have HPF:=zh (ZJ (V':=V') HF3.out ho2.out Hon.out hP);obtain⟨rfl,_,_,_⟩:=hP;have h0:=HPF.out;rw[show rU V' D'=RR from HR2.out] at h0;have hR:=zh h0;clear h0 HPF;go_wp2_with fail;go_ret;exact hR.out
end
end Go.Proofs.YtpghocekofdpbaaGreatDoor
