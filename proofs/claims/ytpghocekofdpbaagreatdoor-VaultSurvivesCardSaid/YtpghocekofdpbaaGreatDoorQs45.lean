import Derived.Test.YtpghocekofdpbaaGreatDoorQs44
set_option maxRecDepth 100000
set_option maxHeartbeats 4000000
namespace Go.Proofs.YtpghocekofdpbaaGreatDoor
section
open Go.RowKit Go.Shelf
open Sec (aj)
attribute [local go_sem] Oper.semAt_some
def SS (W w:World) (x:uX) (pb:Nat) (V:mJ) (b:Nat):Prop:=∃ lo D p u,uY W w { x with lo:=lo } pb 6 V D b p u/\D.left= -1
def SI (W w:World) (x:uX) (pb:Nat) (V:mJ) (b:Nat) (v:Value) (V0:mJ):Prop:=
 ∃ lo D p u D0 b0,uY W w { x with lo:=lo } pb 6 V D b p u/\D.left= -1/\jy 6 V0 D0 b0/\b0<=100/\D0.M.length=D.M.length/\Texts w v (D0.M.map Sec.now)/\∀ k,v.ownBlock=some k->k≠x.a.sb/\u.ownBlock≠some k
section
variable {W w w':World} {x:uX} {pb b:Nat} {V V' V0:mJ} {v:Value}
theorem SS.on (k:SS W w x pb V b) (hB:Below w.heap.size w w'):SS W w' x pb V b:=by
 obtain⟨lo,D,p,u,h,hl⟩:=k;exact⟨lo,D,p,u,h.on hB,hl⟩
theorem SS.bel (k:SS W w x pb V b):Below W.heap.size W w:=by
 obtain⟨lo,D,p,u,h,hl⟩:=k;exact h.bel
theorem SS.cells (k:SS W w x pb V b):w.cell? ⟨pb,0,none⟩=some (.pointer (some ⟨x.a.d,0,none⟩))/\w.cell? ⟨pb,1,none⟩=some (.pointer (some ⟨x.vb,0,none⟩)):=by
 obtain⟨lo,D,p,u,h,hl⟩:=k;exact⟨h.pl.cell 0,h.pl.cell 1⟩
theorem SI.ss (k:SI W w x pb V b v V0):SS W w x pb V b:=by
 obtain⟨lo,D,p,u,D0,b0,h,hl,_⟩:=k;exact⟨lo,D,p,u,h,hl⟩
theorem XB (hW:Below W.heap.size W w):Calls Tryz.prog 13 #[.int .i64 12,.int .u8 5] w fun e w'=>∃ x pb,e= .returned (.tuple #[.pointer (some ⟨pb,0,none⟩),.bool true])/\Hid (SS W w' x pb wV 1):=by
 refine(Rt hW 12 5 (by decide) (by decide)).mono ?_;rintro e w' ⟨x,pb,p,u,rfl,h⟩;have hs:=h.st;rw[Zz] at hs;exact⟨x,pb,rfl,x.lo,_,p,u,hs,rfl⟩
theorem RY (k:SS W w x pb V b) (hK:lV W 1) (hb:b<250) (t:ByteArray) (ht:t.size<=7971) (hr:V.J.used+aj (t.size+29)<=6) (hV:Ei V t=V'):
  Calls Tryz.prog 16 #[.pointer (some ⟨x.vb,0,none⟩),.string t] w fun e w'=>e= .returned (.int .i64 0)/\Hid (SS W w' x pb V' (b+1)):=by
 obtain⟨lo,D,p,u,h,hl⟩:=k;obtain⟨h1,h2⟩:=Fz h.inv (by omega) hl t ht hr;refine(h.commit (by omega) hK t ht).mono ?_;intro e w' hp;obtain⟨lo',p',u',hs,_⟩:=h.next hp (V':=Ei V t) (c:=b+1) (by rw[h1]) h2 (wM t);have he:=hp.1;rw[h1] at he;rw[hV] at hs;exact⟨he,lo',_,p',u',hs,Fj hl t⟩
theorem ZB (k:SI W w x pb V b v V0) (hK:lV W 1) (hb:b<250) (t:ByteArray) (ht:t.size<=7971) (hr:V.J.used+aj (t.size+29)<=6) (hV:Ei V t=V'):
  Calls Tryz.prog 16 #[.pointer (some ⟨x.vb,0,none⟩),.string t] w fun e w'=>e= .returned (.int .i64 0)/\Hid (SI W w' x pb V' (b+1) v V0):=by
 obtain⟨lo,D,p,u,D0,b0,h,hl,i0,hb0,hl0,hT,hsep⟩:=k;obtain⟨h1,h2⟩:=Fz h.inv (by omega) hl t ht hr;refine(h.commit (by omega) hK t ht).mono ?_;intro e w' hp;obtain⟨lo',p',u',hs,hla⟩:=h.next hp (V':=Ei V t) (c:=b+1) (by rw[h1]) h2 (wM t);have he:=hp.1;rw[h1] at he;rw[hV] at hs;refine⟨he,lo',_,p',u',D0,b0,hs,Fj hl t,i0,hb0,hl0.trans (wM t).symm,?_,fun k e=>?_⟩
 ·refine gI hT (fun j cs e hj=>?_);exact bH.keeps h.vis hp.2.1 hj (fun e=>by cases e) (fun e=>by cases e) (fun _=>hsep j e) (fun e=>by cases e) (fun e=>by cases e) (fun e=>by cases e)
 ·refine⟨(hsep k e).1,fun q=>?_⟩;rcases hla.own k q with e2 | e2
  ·exact(hsep k e).2 e2
  ·have:=(hT.lt k e).2;omega
theorem ZC (k:SS W w x pb V b) (hK:lV W 1) (hb:b<250) (t:ByteArray) (ht:t.size<=7939) (hr:aj (t.size+61)<=6) (hV:zN V V.root t=V'):
  Calls Tryz.prog 37 #[.pointer (some ⟨x.vb,0,none⟩),.string t] w fun e w'=>e= .returned (.int .i64 0)/\Hid (SS W w' x pb V' (b+1)):=by
 obtain⟨lo,D,p,u,h,hl⟩:=k;obtain⟨h1,h2⟩:=Kq h.inv (by omega) hl t ht hr;refine(h.compact (by omega) hK t ht).mono ?_;intro e w' hp;obtain⟨lo',p',u',hs,_⟩:=h.next hp (V':=zN V V.root t) (c:=b+1) (by rw[h1]) h2 (CY t);have he:=hp.1;rw[h1] at he;rw[hV] at hs;exact⟨he,lo',_,p',u',hs,Oy hl t⟩
theorem aeT (k:SS W w x pb V b) (hK:lV W 1) (hb:b<250) (root t:ByteArray) (hroot:root.size=32/\root≠zero32) (ht:t.size<=7939) (hr:aj (t.size+61)<=6) (hV:zN V root t=V'):
  Calls Tryz.prog 25 #[.pointer (some ⟨x.vb,0,none⟩),.string root,.string t] w fun e w'=>e= .returned (.int .i64 0)/\Hid (SS W w' x pb V' (b+1)):=by
 obtain⟨lo,D,p,u,h,hl⟩:=k;obtain⟨h1,h2⟩:=VE h.inv (by omega) hl root t hroot ht hr;refine(h.afN (by omega) hK root t hroot ht).mono ?_;intro e w' hp;obtain⟨lo',p',u',hs,_⟩:=h.next hp (V':=zN V root t) (c:=b+1) (by rw[h1]) h2 (MQ root t);have he:=hp.1;rw[h1] at he;rw[hV] at hs;exact⟨he,lo',_,p',u',hs,VA hl root t⟩
theorem I5 {D:Dev} (hc:Clean D.M) (hd:nM D) (hl:D.left= -1) (P:List Int):D.mount P=D:=by
 have h1:=hd.down;unfold Dev.mount;rw[mQ hc];obtain⟨b1,b2,b3,b4,b5,b6,b7⟩:=D;dsimp only at h1 hl;rw[h1,hl]
theorem acO (k:SS W w x pb V b) (hK:lV W 1) (hb:b<250) (hn:V.J.next=nS V.J.l+1):
  Calls Tryz.prog 22 #[.pointer (some ⟨pb,0,none⟩),.slice none 0 0] w fun e w'=>∃ x':uX,e= .returned (.int .i64 0)/\x'.a=x.a/\Hid (SS W w' x' pb V b):=by
 obtain⟨lo,D,p,u,h,hl⟩:=k;have hm:=I5 h.inv.CJ.inv.clean h.inv.on hl [];have hO:Opens 6 (D.mount []):=by rw[hm];exact Vq h.inv (by omega) h.len h.half
 refine(Eb h.q h.inv.CJ.inv.fine _ [] (Ea W) hO hK).mono ?_;intro e w' hp;have hv:=Zy h.inv hn;rw[hm] at hp;obtain⟨he,hleft,hq,hout⟩:=hp;rw[hv] at he hq hout;rcases hout with⟨h0,_⟩ | ⟨V1,x',p',u',_,hV1,hxa,wJ,hpl,hj,hvb,hu⟩
 ·exact absurd rfl h0
 ·cases hV1;have hs:=h.bel.size;have ahh:x'.a=x.a:=hxa;refine⟨x',he,ahh,x'.lo,D,p',u',⟨wJ,h.inv,by rw[hxa];exact hpl,hq.bel,?_,h.len,h.half,h.at_⟩,hl⟩;exact⟨by rw[hxa];exact hq.d,by rw[hxa];exact hq.g,by rw[hxa];exact hq.sb,by rw[hxa];exact hq.fb,fU hs hj,fU hs hvb,fun k e=>fU hs (hu k e)⟩
theorem aeU (k:SS W w x pb V b) (hb:b<=100):Calls Tryz.prog 17 #[.pointer (some ⟨x.a.d,0,none⟩)] w fun e w'=>∃ v,e= .returned v/\Hid (SI W w' x pb V b v V)/\∃ A n c,v= .slice A n c:=by
 obtain⟨lo,D,p,u,h,hl⟩:=k;refine(Gs h.vis.dev (by have:=h.len;omega)).mono ?_;rintro e w' ⟨v,rfl,h1,h2,h3⟩;have hT:Texts w' v (D.M.map Sec.now):=by
  refine⟨h1.1,?_⟩;rcases h1.2 with h4 | ⟨g,cap,cur,hv,hg,r⟩
  ·exact .inl h4
  ·exact .inr ⟨g,cap,cur,hv,iT _,r⟩
 obtain⟨A,c,hv,_⟩:=hT.parts;refine⟨v,rfl,⟨lo,D,p,u,D,b,h.on h3,hl,h.inv,hb,rfl,hT,fun j e=>?_⟩,A,_,c,hv⟩;have hj:=(h1.lt j e).1;obtain⟨_,_,s3,_,_,_,s7,_⟩:=h.vis.sizes;have s3':x.a.sb<w.heap.size:=s3;exact⟨by omega,fun q=>by have:=s7 j q;omega⟩
def SO (W w:World) (x:uX) (pb:Nat):Prop:=∃ D D0 b0,D7 W w x.a pb 6 D/\Fine D.M/\Clean D.M/\jy 6 yH D0 b0/\b0<=100/\aP D.M=aP D0.M/\D.slots= [bV 5,yG,zero32]/\D.down=false/\D.left= -1
theorem IC:∀ (I:List ByteArray) (M:List Sec),I.length=M.length->(kP I M).map Sec.now=I
 | [],[],_=>rfl
 | [],_::_,h=>by cases h
 | _::_,[],h=>by cases h
 | t::I,s::M,h=>by
  show t::(kP I M).map Sec.now=_
  rw[IC I M (by simpa using h)]
theorem BZ {I:List ByteArray} {M:List Sec} {y:Sec} (h:y ∈ kP I M):y.now ∈ I/\y.before=y.now/\y.dirty=false:=by
 unfold kP at h;obtain⟨i,hi⟩:=List.mem_iff_getElem?.1 h;rw[List.getElem?_zipWith] at hi;cases h1:I[i]? with
 | none=>rw[h1] at hi;cases hi
 | some t=>
  cases h2:M[i]? with
  | none=>rw[h1,h2] at hi;cases hi
  | some s=>
   rw[h1,h2] at hi;cases hi;exact⟨zI h1,rfl,rfl⟩
theorem QN {M M':List Sec} (h:M.map Sec.now=M'.map Sec.now):aP M=aP M':=by
 have e:∀ M:List Sec,aP M=(M.map Sec.now).map fun t=>t.data.toList:=fun M=>by
  unfold aP;rw[List.map_map];rfl
 rw[e,e,h]
theorem ZE (k:SI W w x pb afV b v yH):Calls Tryz.prog 21 #[.pointer (some ⟨x.a.d,0,none⟩),v] w fun e w'=>e= .returned (.int .i64 0)/\Hid (SO W w' x pb):=by
 obtain⟨lo,D,p,u,D0,b0,h,hl,i0,hb0,hl0,hT,hsep⟩:=k;have hlen:(D0.M.map Sec.now).length=D.M.length:=by rw[lq];exact hl0
 have hw:kR (D0.M.map Sec.now)=false:=by
  unfold kR;rw[List.any_eq_false];intro t ht;obtain⟨y,hy,rfl⟩:=List.mem_map.1 ht;have:=(i0.CJ.inv.fine y hy).1;simp[this]
 have he:dS (D0.M.map Sec.now) D.M=false:=by
  unfold dS;rw[hw,hlen];simp
 have hc:=Np h.vis.dev v (D0.M.map Sec.now) hT (by rw[hlen];have:=h.len;omega);rw[he] at hc;refine hc.mono ?_;rintro e w' ⟨rfl,hd,hF⟩;refine⟨rfl,{ D with M:=kP (D0.M.map Sec.now) D.M },D0,b0,h.q.sV hF hd (Ls _ _ hlen),fun y hy=>?_,fun y hy=>?_,i0,hb0,QN (IC _ _ hlen),h.inv.slots,h.inv.on.down,hl⟩
 ·obtain⟨h1,h2,h3⟩:=BZ hy;obtain⟨z,hz,e⟩:=List.mem_map.1 h1;have h64:=(i0.CJ.inv.fine z hz).1;rw[e] at h64;exact⟨h64,by rw[h2];exact h64,fun q=>by rw[h3] at q;cases q⟩
 ·exact(BZ hy).2.2
theorem aeV (k:SO W w x pb) (hK:lV W 1):Calls Tryz.prog 22 #[.pointer (some ⟨pb,0,none⟩),.slice none 0 0] w fun e w'=>e= .returned (.int .i64 9)/\Below W.heap.size W w':=by
 obtain⟨D,D0,b0,hq,hf,hc,i0,hb0,hM,hs,hdn,hl⟩:=k;have hm:=I5 (D:=D) hc ⟨hdn,by rw[hl];decide⟩ hl [];obtain⟨v1,v2,v3,v4⟩:= @ZA _ [] _ _ i0 hM hs;have hjo:=i0.CJ.open_ (by omega:b0<=255);have hO:Opens 6 (D.mount []):=by
  rw[hm];refine⟨hf,hc,hq.half,by decide,hq.len,⟨bV 5,yG,zero32,bV 5,_,hs,⟨ny 5,rfl⟩,nC 5,v2,v3⟩,?_⟩;rw[AB hM];exact JInv.hbl hjo.inv (by have:=hjo.next;omega) (by decide)
 refine(Eb hq hf _ [] (Ea W) hO hK).mono ?_;intro e w' hp;have he:=hp.e;rw[hm,v1] at he;exact⟨he,hp.q.bel⟩
end
end
section
open Go.RowKit Go.Shelf
open Sec (aj)
attribute [local go_sem] Oper.semAt_some
section
variable {W w w':World} {x:uX} {pb b:Nat} {V V' V0:mJ} {v:Value}
theorem SI.on (k:SI W w x pb V b v V0) (hB:Below w.heap.size w w'):SI W w' x pb V b v V0:=by
 obtain⟨lo,D,p,u,D0,b0,h,hl,i0,hb0,hl0,hT,hs⟩:=k;exact⟨lo,D,p,u,D0,b0,h.on hB,hl,i0,hb0,hl0,ownsRow_below hT hB (aF _),hs⟩
theorem ZF (k:SS W w x pb yH b):Calls Tryz.prog 36 #[.pointer (some ⟨x.vb,0,none⟩)] w fun e w'=>∃ v,e= .returned v/\Hid (kL w' v [⟨#[97]⟩,⟨#[98]⟩])/\Hid (Below w.heap.size w w'):=by
 obtain⟨lo,D,p,u,h,hl⟩:=k;refine(CP h.vis (by decide)).mono ?_;rintro e w' ⟨v,rfl,h1,h2⟩;exact⟨v,rfl,kL.row h1,h2⟩
theorem ak9 (w:World):kL (w.alloc (.cells #[.string ⟨#[97]⟩,.string ⟨#[98]⟩] 9)) (.slice (some ⟨w.heap.size,0,none⟩) 2 2) [⟨#[97]⟩,⟨#[98]⟩]:=by
 have hb:=ak.new w 9 #[.string ⟨#[97]⟩,.string ⟨#[98]⟩];refine⟨_,2,rfl,aF _,by unfold maxLen;omega,fun i t ht=>⟨_,rfl,hb.lt,?_⟩⟩
 match i,ht with
 | 0,ht=>cases ht;exact hb.cell 0
 | 1,ht=>cases ht;exact hb.cell 1
theorem XC (k:SS W w x pb RX b):Calls Tryz.prog 18 #[.pointer (some ⟨x.vb,0,none⟩)] w fun e w'=>e= .returned (.string wU)/\w=w':=by
 obtain⟨lo,D,p,u,h,hl⟩:=k;exact VF h.vis
theorem ahx (k:SS W w x pb RX b):Calls Tryz.prog 31 #[.pointer (some ⟨x.a.d,0,none⟩),.int .i64 0] w fun e w'=>e= .returned (.tuple #[.string (bV 9),.int .i64 0])/\w=w':=by
 obtain⟨lo,D,p,u,h,hl⟩:=k;exact MS h.vis.dev h.inv.on.down (i:=0) (by rw[h.inv.slots];rfl)
theorem acP (k:SS W w x pb RX b):Calls Tryz.prog 38 #[.pointer (some ⟨x.vb,0,none⟩)] w fun e w'=>e= .returned (.tuple #[.string ⟨#[110,101,119]⟩,.bool true])/\w=w':=by
 obtain⟨lo,D,p,u,h,hl⟩:=k;exact I4 h.vis
theorem ahy (k:SS W w x pb RX b):Calls Tryz.prog 15 #[.pointer (some ⟨x.vb,0,none⟩)] w fun e w'=>e= .returned (.int .i64 4)/\Below w.heap.size w w':=by
 obtain⟨lo,D,p,u,h,hl⟩:=k;exact ZG h.vis (by decide) (by decide)
theorem ahz (w:World):Calls Tryz.prog 9 #[.int .i64 16] w fun e w'=>e= .returned (.int .i64 2)/\w=w':=ZH w 16
theorem ahA (w:World) (hK:lV w 1):Calls Tryz.prog 11 #[.string wU,.int .i64 3,.string ⟨#[120]⟩] w fun e w'=>e= .returned (.string RU)/\Below w.heap.size w w':=by
 have h:=zG w wU ⟨#[120]⟩ 3 (by decide) (by decide) (by decide) hK;rw[ahw] at h;exact h
end
theorem Rl (w:World) (hK:lV w 1):Calls Tryz.prog 8 #[] w fun e w'=>e= .returned (.bool true)/\Below w.heap.size w w':=by
 have HK:=zh hK;have HRt:Hid (∀ wx,Calls Tryz.prog 26 #[.int .u8 9] wx fun e w'=>e= .returned (.string (bV 9))/\Below wx.heap.size wx w'):=fun wx=>zA wx 9 (by decide)
 have HLk:Hid (∀ wx,Below w.heap.size w wx->Calls Tryz.prog 11 #[.string wU,.int .i64 3,.string ⟨#[120]⟩] wx fun e w'=>e= .returned (.string RU)/\Below wx.heap.size wx w'):=fun wx hB=>ahA wx (hK.below hB)
 have hr9:Hid ((bV 9).size=32/\bV 9≠zero32):=⟨ny 9,nC 9⟩;have hcc:(wU.toList==wU.toList)=true:=beq_self_eq_true _;have hln:(RU.toList==wU.toList)=false:=by
  rw[FI,qH,qH];exact fun e=>OB.2.2 (by apply ByteArray.ext;exact Array.ext' e)
 have hsz:wU.size=32:=rfl;clear hK;go_enter Tryz.func8,Tryz.ntmps8;go_wp2_with fail;refine(XB (bK _ _)).mono ?_;rintro e w1 ⟨x,pb,rfl,H1⟩;obtain⟨y0,y1⟩:=H1.out.cells;go_wp2_with fail;refine(RY H1.out HK.out (by decide) ⟨#[97]⟩ (by decide) (by decide) acJ).mono ?_;rintro e w2 ⟨rfl,H2⟩;clear y0 y1 H1;obtain⟨y0,y1⟩:=H2.out.cells;go_wp2_with fail;refine(RY H2.out HK.out (by decide) ⟨#[98]⟩ (by decide) (by decide) acK).mono ?_;rintro e w3 ⟨rfl,H3⟩;clear y0 y1 H2;go_wp2_with fail;refine(acO H3.out HK.out (by decide) rfl).mono ?_;rintro e w4 ⟨x4,rfl,hx4,H4⟩;clear H3 hx4;obtain⟨y0,y1⟩:=H4.out.cells;go_wp2_with fail;refine(aeU H4.out (by decide)).mono ?_;rintro e w5 ⟨v5,rfl,H5,A5,n5,c5,rfl⟩;clear y0 y1 H4;obtain⟨y0,y1⟩:=H5.out.ss.cells;go_wp2_with fail;refine(ZF H5.out.ss).mono ?_;rintro e w6 ⟨v6,rfl,HT6,oq⟩;have HBa:Hid (Below w6.heap.size w6 (w6.alloc (.cells #[.string ⟨#[97]⟩,.string ⟨#[98]⟩] 9))):=(bK _ _).alloc (aF _) _;have HSm:=zh (Md _ _ _ _ _ (HT6.out.below HBa.out) (ak9 w6) (by decide) (by decide));obtain⟨A6,c6,rfl,_⟩:=id HT6.out;clear y0 y1;go_wp2_with fail;refine HSm.out.mono ?_;rintro e w7 ⟨rfl,qQ⟩;have H7:Hid (SI w w7 x4 pb yH 3 (.slice A5 n5 c5) yH):=((H5.out.on oq.out).on HBa.out).on qQ;clear H5 qQ HSm HBa oq HT6;obtain⟨y0,y1⟩:=H7.out.ss.cells;go_wp2_with fail;refine(ZB H7.out HK.out (by decide) ⟨#[99]⟩ (by decide) (by decide) acL).mono ?_;rintro e w8 ⟨rfl,H8⟩;clear y0 y1 H7;obtain⟨y0,y1⟩:=H8.out.ss.cells;go_wp2_with fail;refine(ZE H8.out).mono ?_;rintro e w9 ⟨rfl,H9⟩;clear y0 y1 H8;go_wp2_with fail;refine(aeV H9.out HK.out).mono ?_;rintro e w10 ⟨rfl,Jj⟩;have JZ:=zh Jj;clear H9 Jj;go_wp2_with fail;refine(XB JZ.out).mono ?_;rintro e ZU ⟨x,pb2,rfl,H11⟩;clear JZ;obtain⟨y0,y1⟩:=H11.out.cells;go_wp2_with fail;refine(ZC H11.out HK.out (by decide) ⟨#[105,109,97,103,101]⟩ (by decide) (by decide) acM).mono ?_;rintro e w12 ⟨rfl,Xv⟩;clear y0 y1 H11;obtain⟨y0,y1⟩:=Xv.out.cells;have qw:Hid (Below w12.heap.size w12 w12.drew):=(bK _ _).drew;go_wp2_with fail
 go_region_held3 (fun W=>W.cell? ⟨pb2,1,none⟩=some (.pointer (some ⟨x.vb,0,none⟩))) (go_keep)
  (first
   | (go_at_call 25;refine(aeT ZV.out HK.out (by decide) (bV 9) ⟨#[110,101,119]⟩ hr9.out (by decide) (by decide) acN).mono ?_;rintro e w14 ⟨rfl,H14⟩;obtain⟨u0,u1⟩:=H14.out.cells)
   | (go_at_call 26;refine(HRt.out _).mono ?_;rintro e w13 ⟨rfl,hB⟩;have ZV:=zh ((Xv.out.on qw.out).on hB);obtain⟨z0,z1⟩:=ZV.out.cells;clear hB))
 clear y0 y1 z0 z1 u0 u1 Xv ZV qw;obtain⟨y0,y1⟩:=H14.out.cells;go_wp2_with fail;refine(XC H14.out).mono ?_;rintro e w15 ⟨rfl,rfl⟩;clear y0 y1;go_wp2_with fail;refine(acO H14.out HK.out (by decide) rfl).mono ?_;rintro e w16 ⟨x16,rfl,hx16,H16⟩;clear H14 hx16;obtain⟨y0,y1⟩:=H16.out.cells;go_wp2_with fail;refine(ahx H16.out).mono ?_;rintro e w17 ⟨rfl,rfl⟩;go_wp2_with fail;refine(acP H16.out).mono ?_;rintro e w17 ⟨rfl,rfl⟩;have h99:((bV 9).toList==(bV 9).toList)=true:=beq_self_eq_true _;generalize bV 9=R9 at *;clear y0 y1;obtain⟨y0,y1⟩:=H16.out.cells;go_wp2_with fail;refine(HRt.out _).mono ?_;rintro e w18 ⟨rfl,alb⟩;have H18:=zh (H16.out.on alb);clear y0 y1 alb H16;obtain⟨y0,y1⟩:=H18.out.cells;go_wp2_with fail;refine(XC H18.out).mono ?_;rintro e w19 ⟨rfl,rfl⟩;go_wp2_with fail;refine(ahy H18.out).mono ?_;rintro e w19 ⟨rfl,ald⟩;have H19:=zh (H18.out.on ald);clear y0 y1 ald H18;go_wp2_with fail;refine(ahz _).mono ?_;rintro e w20 ⟨rfl,rfl⟩;go_wp2_with fail;refine(HLk.out _ H19.out.bel).mono ?_;rintro e w20 ⟨rfl,ale⟩;have H20:=zh (H19.out.on ale);clear ale H19;go_wp2_with fail;go_ret;exact⟨rfl,H20.out.bel⟩
end
section
open Go.RowKit Go.Shelf
attribute [local go_sem] Oper.semAt_some
def rP (image:Option ByteArray) (v:Value):Value:= .agg #[.string (image.getD ⟨#[]⟩),.bool image.isSome,v]
section
variable {W w w':World} {x:uX} {h b pb:Nat} {V:mJ} {D:Dev} {p u:Value}
theorem Zc (k:uY W w x pb h V D b p u):
  Calls Tryz.prog 23 #[.pointer (some ⟨pb,0,none⟩)] w fun e w'=>∃ v,e= .returned (rP V.image v)/\w'.ownsRow w.heap.size 9 1 v V.texts.length (strCells V.texts)/\Below w.heap.size w w':=by
 have HI:Hid (∀ wx,Below w.heap.size w wx->Calls Tryz.prog 38 #[.pointer (some ⟨x.vb,0,none⟩)] wx fun e w'=>e= .returned (.tuple #[.string (V.image.getD ⟨#[]⟩),.bool V.image.isSome])/\wx=w'):=fun wx hB=>I4 (k.vis.below hB)
 have HR:Hid (∀ wx,Below w.heap.size w wx->Calls Tryz.prog 36 #[.pointer (some ⟨x.vb,0,none⟩)] wx fun e w'=>∃ v,e= .returned v/\w'.ownsRow wx.heap.size 9 1 v V.texts.length (strCells V.texts)/\Below wx.heap.size wx w'):=fun wx hB=>CP (k.vis.below hB) k.few.2
 have y1:=k.pl.cell 1;have hlt:=k.pl.lt;have HP:=zh k.pl;have HB0:Hid (Below w.heap.size w (w.alloc (.cells #[.string ⟨#[]⟩,.bool false,.slice none 0 0] 52))):=(bK _ _).alloc (aF _) _;have R0:Hid (ak (w.alloc (.cells #[.string ⟨#[]⟩,.bool false,.slice none 0 0] 52)) w.heap.size 52 #[.string ⟨#[]⟩,.bool false,.slice none 0 0]):=ak.new _ _ _;unfold rP;generalize V.image.getD ⟨#[]⟩=i0 at HI ⊢;generalize V.image.isSome=b0 at HI ⊢;clear k;go_enter Tryz.func23,Tryz.ntmps23;go_wp2_with fail;refine(HI.out _ HB0.out).mono ?_;rintro e w1 ⟨rfl,rfl⟩;go_wp2_with fail;refine(HR.out _ HB0.out).mono ?_;rintro e w2 ⟨v,rfl,hr,hB⟩;obtain⟨A,c,rfl⟩:=Sec.aJ hr;have HR2:=zh hr;have HB2:=zh hB;have R2:=zh (R0.out.below hB R0.out.lt);have c0:=R2.out.cell 0;have c1:=R2.out.cell 1;have c2:=R2.out.cell 2;have f0:=R2.out.frozen 0;have f1:=R2.out.frozen 1;have f2:=R2.out.frozen 2;clear hr hB;go_wp2_with fail;have q1:=R2.out.aB 0 (.string i0);have q2:=q1.aB 1 (.bool b0);have q3:=q2.aB 2 (.slice A V.texts.length c);have hrow:=lF HR2.out (show w.heap.size<=_ from HB0.out.size);have k1:=hrow.kept (au w2 w.heap.size 0 (.string i0)) (.inr (aA hrow R2.out (by decide)));have k2:=k1.kept (au _ w.heap.size 1 (.bool b0)) (.inr (aA k1 q1 (by decide)));have k3:=k2.kept (au _ w.heap.size 2 (.slice A V.texts.length c)) (.inr (aA k2 q2 (by decide)));have hbb:=(((HB0.out.trans (HB2.out.mono HB0.out.size)).setCell (p:=⟨w.heap.size,0,none⟩) (aF _) (.string i0)).setCell (p:=⟨w.heap.size,1,none⟩) (aF _) (.bool b0)).setCell (p:=⟨w.heap.size,2,none⟩) (aF _) (.slice A V.texts.length c);exact kG (bF (P:=Tryz.prog) rfl _ _ w.heap.size 52 #[.string i0,.bool b0,.slice A V.texts.length c] _ rfl q3 Tryz.underlying52 rfl (by kernel_rfl)) rfl ⟨_,rfl,k3,hbb⟩
theorem Mc (w:World) (i j:Option ByteArray) (v v':Value) (I J:List ByteArray) (h0:kL w v I) (h1:kL w v' J) (hN:I.length<=1048576) (hM:J.length<=1048576):
  Calls Tryz.prog 30 #[rP i v,rP j v'] w fun e w'=>e= .returned (.bool (decide (I=J) && (decide (i.getD ⟨#[]⟩=j.getD ⟨#[]⟩) && decide (i.isSome=j.isSome))))/\Below w.heap.size w w':=by
 have HS:Hid (∀ wx,Below w.heap.size w wx->Calls Tryz.prog 33 #[v,v'] wx fun e w'=>e= .returned (.bool (decide (I=J)))/\Below wx.heap.size wx w'):=fun wx hB=>Md wx v v' I J (h0.below hB) (h1.below hB) hN hM
 unfold rP;generalize decide (I=J)=T at HS ⊢;generalize i.getD ⟨#[]⟩=i0;generalize j.getD ⟨#[]⟩=j0;generalize i.isSome=b0;generalize j.isSome=b1;clear h0 h1 hN hM;have hb1:Hid (Below w.heap.size w (w.alloc (.cells #[.string i0,.bool b0,v] 52))):=(bK _ _).alloc (aF _) _;have HB2:Hid (Below w.heap.size w ((w.alloc (.cells #[.string i0,.bool b0,v] 52)).alloc (.cells #[.string j0,.bool b1,v'] 52))):=hb1.out.alloc hb1.out.size _;have R0:Hid (ak ((w.alloc (.cells #[.string i0,.bool b0,v] 52)).alloc (.cells #[.string j0,.bool b1,v'] 52)) w.heap.size 52 #[.string i0,.bool b0,v]):=(ak.new w _ _).alloc _;have R1:Hid (ak ((w.alloc (.cells #[.string i0,.bool b0,v] 52)).alloc (.cells #[.string j0,.bool b1,v'] 52)) (w.heap.size+1) 52 #[.string j0,.bool b1,v']):=by
  have:=ak.new (w.alloc (.cells #[.string i0,.bool b0,v] 52)) 52 #[.string j0,.bool b1,v'];rw[oz] at this;exact this
 go_enter Tryz.func30,Tryz.ntmps30;go_wp2_with fail;generalize ((w.alloc (.cells #[.string i0,.bool b0,v] 52)).alloc (.cells #[.string j0,.bool b1,v'] 52))=w0 at *;refine(HS.out _ HB2.out).mono ?_;rintro e w1 ⟨rfl,hB⟩;have HB3:=zh (HB2.out.trans (hB.mono HB2.out.size));have c00:=(R0.out.below hB R0.out.lt).cell 0;have c01:=(R0.out.below hB R0.out.lt).cell 1;have c10:=(R1.out.below hB R1.out.lt).cell 0;have c11:=(R1.out.below hB R1.out.lt).cell 1;clear hB;cases T with
 | false=>
  go_wp2_with fail;go_ret;exact⟨rfl,HB3.out⟩
 | true=>
  by_cases hij:i0=j0
  ·have e1:(i0.toList==j0.toList)=true:=by rw[hij];exact beq_self_eq_true _
   have hd:=zh (dF hij);clear hij;go_wp2_with fail;go_ret;refine⟨?_,HB3.out⟩;rw[hd.out];cases b0<;>cases b1<;>rfl
  ·have e1:(i0.toList==j0.toList)=false:=jh hij;have hd:=zh (bU hij);clear hij;go_wp2_with fail;go_ret;exact⟨by rw[hd.out];rfl,HB3.out⟩
end
end
def kX (i:Option ByteArray) (o:kE):Option ByteArray:=if o.kind=1 then i else some o.text
def iM (I:List ByteArray) (o:kE):List ByteArray:=if o.kind=1 then I++ [o.text] else []
section
variable {h b:Nat} {V:mJ} {D:Dev}
theorem Zn (I:jy h V D b) (hb:b<254) (o:kE):
  (∃ V',(jO h V D o).2.1=some V'/\jy h V' (jO h V D o).2.2 (b+1)/\
   (((jO h V D o).1=0/\V'.image=kX V.image o/\V'.texts=iM V.texts o)\/((jO h V D o).1=15/\V'.image=V.image/\V'.texts=V.texts)))\/
  (0<=D.left/\Falls h (b+1) (jO h V D o) (fun _ i l=>(i=V.image/\l=V.texts)\/(i=kX V.image o/\l=iM V.texts o))/\
   ((jO h V D o).1=14\/(jO h V D o).1=15)):=by
 have ht:=o.aeC;by_cases h1:o.kind=1
 ·have e:jO h V D o=dX h V D o.text:=by unfold jO;rw[if_pos h1]
  have ei:kX V.image o=V.image:=by unfold kX;rw[if_pos h1]
  have et:iM V.texts o=V.texts++ [o.text]:=by unfold iM;rw[if_pos h1]
  rw[e,ei,et];rcases Jd I (by omega) o.text (by omega) with⟨_,a⟩ | ⟨_,a,⟨V',k1,k2,_,k4,k5⟩,_⟩ | ⟨a0,a1,a2⟩
  ·rw[a];exact .inl ⟨V,rfl,I.up (by omega),.inr ⟨rfl,rfl,rfl⟩⟩
  ·exact .inl ⟨V',k1,k2,.inl ⟨a,k4,k5⟩⟩
  ·refine .inr ⟨a0,⟨a2.none,a2.down,fun P=>?_⟩,.inl a1⟩;obtain⟨r,i,l,⟨_,q2,q3⟩,L⟩:=a2.lies P;exact⟨r,i,l,q3.elim (fun q=> .inl ⟨q2,q⟩) (fun q=> .inr ⟨q2,q⟩),L⟩
 ·have ei:kX V.image o=some o.text:=by unfold kX;rw[if_neg h1]
  have et:iM V.texts o= []:=by unfold iM;rw[if_neg h1]
  rw[ei,et];by_cases h2:o.kind=2
  ·have e:jO h V D o=dK h V D o.text:=by unfold jO;rw[if_neg h1,if_pos h2]
   rw[e];rcases CW I (by omega) o.text (by omega) with⟨_,a⟩ | ⟨_,a,⟨V',k1,k2,_,k4,k5⟩⟩ | ⟨a0,a1,a2⟩
   ·rw[a];exact .inl ⟨V,rfl,I.up (by omega),.inr ⟨rfl,rfl,rfl⟩⟩
   ·exact .inl ⟨V',k1,k2,.inl ⟨a,k4,k5⟩⟩
   ·refine .inr ⟨a0,⟨a2.none,a2.down,fun P=>?_⟩,.inl a1⟩;obtain⟨r,i,l,⟨_,q⟩,L⟩:=a2.lies P;exact⟨r,i,l,q,L⟩
  ·have e:jO h V D o=eY h V D o.root o.text:=by unfold jO;rw[if_neg h1,if_neg h2]
   rw[e];rcases Eh I (by omega) o.root o.text ⟨o.Zt,o.aeD⟩ (by omega) with⟨a,⟨k1,k2⟩ | ⟨a0,a2⟩⟩ | ⟨a,⟨V',k1,k2,_,k4,k5⟩⟩ | ⟨a0,a1,a2⟩
   ·exact .inl ⟨V,k1,k2.up (by omega),.inr ⟨a,rfl,rfl⟩⟩
   ·refine .inr ⟨a0,⟨a2.none,a2.down,fun P=>?_⟩,.inr a⟩;obtain⟨r,i,l,⟨_,q2,q3⟩,L⟩:=a2.lies P;exact⟨r,i,l,.inl ⟨q2,q3⟩,L⟩
   ·exact .inl ⟨V',k1,k2,.inl ⟨a,k4,k5⟩⟩
   ·refine .inr ⟨a0,⟨a2.none,a2.down,fun P=>?_⟩,.inl a1⟩;obtain⟨r,i,l,q,L⟩:=a2.lies P;exact⟨r,i,l,q.elim (fun q=> .inl ⟨q.2.1,q.2.2⟩) (fun q=> .inr ⟨q.2.1,q.2.2⟩),L⟩
end
section
open Go.RowKit Go.Shelf
attribute [local go_sem] Oper.semAt_some
section
open Sec (tH)
theorem CQ {w:World} {base:Nat} {v u:Value} {l m:List ByteArray} (hown:w.ownsRow base 9 1 v l.length (strCells l)) (hat:tH w u m) (hl:l.length+m.length<=1000) (hb:base<=w.heap.size):
  ∃ v' w',(Builtin.append_ #[35,35] 35 #[v,u]).run Tryz.prog w= .ok v' w'/\(w'.ownsRow base 9 1 v' (l++m).length (strCells (l++m))/\Below base w w'):=by
 obtain⟨i0,hi,hz0,hz1,hz2⟩:=info_parts iw;obtain⟨A,c,rfl,hc,hm,hcells⟩:=hat;by_cases h0:0<m.length
 ·obtain⟨b,o,rfl,hbl,hcell⟩:=hcells h0;obtain⟨v',w',hr,h2,h3,_⟩:=run_append_own (P:=Tryz.prog) w base 35 35 9 i0 _ 1 16 Tryz.underlying35 hi hz0 hz1 hz2 rfl (by omega) v l.length (strCells l) hown ⟨b,o,none⟩ m.length c (strCells m) (by rw[vT];omega)
   (by
    intro j x hj;unfold strCells at hj;rw[sD] at hj;cases ht:m[j]? with
    | none=>rw[ht] at hj;cases hj
    | some t=>
     rw[ht] at hj;cases hj;rw[Addr.add_lit];exact hcell j t ht)
   (by
    intro x hx;unfold strCells at hx;obtain⟨t,_,rfl⟩:=List.mem_map.1 hx;rfl)
   (by unfold maxLen;omega) (by omega) hb
  refine⟨v',w',hr,?_,(bK base w).grown h3 hb (fun g e=>(hown.lt g e).1)⟩;rw[kM,show strCells (l++m)=strCells l++strCells m from by simp[strCells]];exact h2
 ·have hm0:m= []:=ZX (by omega);subst hm0;rw[List.append_nil];refine⟨v,w,?_,hown,bK _ _⟩;rcases hown.2 with⟨rfl,_⟩ | ⟨g,cap,cur,rfl,_,_,hnc,_⟩
  ·cases A<;>simp[Builtin.append_,run_underlying Tryz.underlying35,sizeOf,typeInfo,hi,Builtin.lenOf,Builtin.firstCells,loadCells,loadCellsFrom]
  ·cases A<;>simp[Builtin.append_,run_underlying Tryz.underlying35,sizeOf,typeInfo,hi,Builtin.lenOf,Builtin.firstCells,hnc,storeCells,loadCells,loadCellsFrom]
end
theorem Rz {P:Program} {w w':World} {v':Value} {ops:Array Oper} {o:Oper} {a:Act} {K:Act->World->Prop} {Q:Exit->Act->World->Prop} {E:Prop} (hgd:o.guard=none) (s x:Operand) (t:TypeId)
  (ho:o.op= .call { callee:= .builtin .append,args:= #[s,x],argTypes:= #[t,t] }) (hr:(Builtin.append_ #[t,t] o.type #[a.eval s,a.eval x]).run P w= .ok v' w') (h:K (a.put o.dst v') w'):
  if Region.wanted o (yielded ops a.tmps)=true then Oper.wp P o a w K Q else E:=by
 have hw:Region.wanted o (yielded ops a.tmps)=true:=by simp[Region.wanted,hgd]
 rw[if_pos hw];unfold Oper.wp execOp;simp only[ho,resolve,invoke,builtin,Sem.run_bind,Sem.run_pure,Result.andThen_ok,List.map_toArray,List.map_cons,List.map_nil,hr];exact h
theorem Zd (w:World) (i:Option ByteArray) (v:Value) (I:List ByteArray) (h0:kL w v I) (hN:I.length<=900) (kind n size:Int) (f:Nat) (hf:f<256) (hk:kind=1\/kind=2\/kind=3) (A:Option Addr) (m c:Nat):
  Calls Tryz.prog 34 #[rP i v,.agg #[.int .i64 kind,.int .i64 n,.int .i64 size,.int .u8 f,.slice A m c]] w fun e w'=>∃ v',e= .returned (rP (kX i ⟨kind,n,size,f⟩) v')/\w'.ownsRow w.heap.size 9 1 v' (iM I ⟨kind,n,size,f⟩).length (strCells (iM I ⟨kind,n,size,f⟩))/\Below w.heap.size w w':=by
 obtain⟨T,hT⟩:∃ T,AQ f size=T:=⟨_,rfl⟩;have HT:Hid (∀ wx,Calls Tryz.prog 14 #[.agg #[.int .i64 kind,.int .i64 n,.int .i64 size,.int .u8 f,.slice A m c]] wx fun e w'=>e= .returned (.string T)/\Below wx.heap.size wx w'):=fun wx=>by rw[<-hT];exact Fa wx kind n size f hf A m c
 have eI:Hid (kX i ⟨kind,n,size,f⟩=if kind=1 then i else some T):=by unfold Hid kX kE.text;rw[hT]
 have eT:Hid (iM I ⟨kind,n,size,f⟩=if kind=1 then I++ [T] else []):=by unfold Hid iM kE.text;rw[hT]
 rw[eI.out,eT.out];clear eI eT hT;by_cases h1:kind=1
 ·rw[if_pos h1,if_pos h1];subst h1;have hst:∀ wx,Below w.heap.size w wx->Sec.tH wx v I:=fun wx hB=>by
   obtain⟨A0,c0,rfl,h1,h2,h3⟩:=h0;refine⟨A0,c0,rfl,h1,h2,fun hp=>?_⟩;obtain⟨t,ht⟩:∃ t,I[0]? =some t:=⟨_,jB hp⟩;obtain⟨g,rfl,hg,_⟩:=h3 0 t ht;refine⟨g,0,rfl,rY hg hB.size,fun i t ht=>?_⟩;obtain⟨g',e,hg',hc⟩:=h3 i t ht;cases e;rw[AZ];exact(hB.cell (p:=⟨g,i,none⟩) hg).trans hc
  have Qg:=zh hst;clear hst;obtain⟨A0,c0,rfl,hv⟩:=h0;clear hv;unfold rP;generalize i.getD ⟨#[]⟩=i0;generalize i.isSome=b0;obtain⟨w0,hw0⟩:∃ w0,((w.alloc (.cells #[.string i0,.bool b0,.slice A0 I.length c0] 52)).alloc (.cells #[.int .i64 1,.int .i64 n,.int .i64 size,.int .u8 f,.slice A m c] 32)).alloc (.cells #[.string ⟨#[]⟩,.bool false,.slice none 0 0] 52)=w0:=⟨_,rfl⟩;have hb1:=(bK w.heap.size w).alloc (aF _) (.cells #[.string i0,.bool b0,.slice A0 I.length c0] 52);have hb2:=hb1.alloc hb1.size (.cells #[.int .i64 1,.int .i64 n,.int .i64 size,.int .u8 f,.slice A m c] 32);have HB0:Hid (Below w.heap.size w w0):=by
   unfold Hid;rw[<-hw0];exact hb2.alloc hb2.size _
  have hsz:Hid (w0.heap.size=w.heap.size+1+1+1):=by unfold Hid;rw[<-hw0];simp
  have R0:Hid (ak w0 (w.heap.size+1+1) 52 #[.string ⟨#[]⟩,.bool false,.slice none 0 0]):=by
   unfold Hid;rw[<-hw0];have:=ak.new ((w.alloc (.cells #[.string i0,.bool b0,.slice A0 I.length c0] 52)).alloc (.cells #[.int .i64 1,.int .i64 n,.int .i64 size,.int .u8 f,.slice A m c] 32)) 52 #[.string ⟨#[]⟩,.bool false,.slice none 0 0];rw[oz,oz] at this;exact this
  have P0:ak w0 w.heap.size 52 #[.string i0,.bool b0,.slice A0 I.length c0]:=by
   rw[<-hw0];exact((ak.new w _ _).alloc _).alloc _
  have P1:ak w0 (w.heap.size+1) 32 #[.int .i64 1,.int .i64 n,.int .i64 size,.int .u8 f,.slice A m c]:=by
   rw[<-hw0];have:=ak.new (w.alloc (.cells #[.string i0,.bool b0,.slice A0 I.length c0] 52)) 32 #[.int .i64 1,.int .i64 n,.int .i64 size,.int .u8 f,.slice A m c];rw[oz] at this;exact this.alloc _
  have HS:Hid (∀ wx,Below (w.heap.size+1+1) w0 wx->(fun Wx=>Wx.cell? ⟨w.heap.size,0,none⟩=some (.string i0)/\Wx.cell? ⟨w.heap.size,1,none⟩=some (.bool b0)/\Wx.cell? ⟨w.heap.size,2,none⟩=some (.slice A0 I.length c0)/\Wx.cell? ⟨w.heap.size+1,0,none⟩=some (.int .i64 1)/\Wx.cell? ⟨w.heap.size+1,1,none⟩=some (.int .i64 n)/\Wx.cell? ⟨w.heap.size+1,2,none⟩=some (.int .i64 size)/\Wx.cell? ⟨w.heap.size+1,3,none⟩=some (.int .u8 f)/\Wx.cell? ⟨w.heap.size+1,4,none⟩=some (.slice A m c)) wx):=fun wx hB=>by
   have k0:=P0.below hB (by omega);have k1:=P1.below hB (by omega);exact⟨k0.cell 0,k0.cell 1,k0.cell 2,k1.cell 0,k1.cell 1,k1.cell 2,k1.cell 3,k1.cell 4⟩
  have Hw0:=zh hw0;clear hw0 hb1 hb2 P0 P1;go_enter Tryz.func34,Tryz.ntmps34;go_upto_region 2 with fail;rw[Hw0.out];refine wZ (S:=(fun Wx=>Wx.cell? ⟨w.heap.size,0,none⟩=some (.string i0)/\Wx.cell? ⟨w.heap.size,1,none⟩=some (.bool b0)/\Wx.cell? ⟨w.heap.size,2,none⟩=some (.slice A0 I.length c0)/\Wx.cell? ⟨w.heap.size+1,0,none⟩=some (.int .i64 1)/\Wx.cell? ⟨w.heap.size+1,1,none⟩=some (.int .i64 n)/\Wx.cell? ⟨w.heap.size+1,2,none⟩=some (.int .i64 size)/\Wx.cell? ⟨w.heap.size+1,3,none⟩=some (.int .u8 f)/\Wx.cell? ⟨w.heap.size+1,4,none⟩=some (.slice A m c))) (by kernel_rfl) (HS.out _ (bK _ _).drew) (fun zs=>?_);refine' tk 0 rfl zs ?_;refine' tk 1 rfl zs ?_;refine' tk 2 rfl zs ?_;refine' tk 3 rfl zs ?_;refine' tk 5 rfl zs ?_;refine' tk 6 rfl zs ?_;refine' tk 8 rfl zs ?_;have HB4:Hid (Below w.heap.size w (w0.alloc (.cells #[] 9)).drew):=(HB0.out.alloc HB0.out.size _).drew;have HC4:Hid (Below (w.heap.size+1+1) w0 (w0.alloc (.cells #[] 9)).drew):=((bK _ _).alloc (by have:=hsz.out;omega) _).drew;have HD4:Hid (Below w0.heap.size w0 (w0.alloc (.cells #[] 9)).drew):=((bK _ _).alloc (aF _) _).drew;have HR4:Hid ((w0.alloc (.cells #[] 9)).drew.ownsRow w0.heap.size 9 1 (.slice (some ⟨w0.heap.size,0,none⟩) 0 0) ([]:List ByteArray).length (strCells [])):=World.ownsRow_made w0 #[] 0 (aF _) (by unfold maxLen;decide) rfl;have hle:Hid (w.heap.size+1+1<=w0.heap.size/\w.heap.size<=w0.heap.size):=by have:=hsz.out;unfold Hid;omega
  refine td 4 rfl (fun K hK=>?_);go_simp;refine hK.out _ _ (HS.out _ HC4.out) (fun zs=>?_);clear hK K;try simp only[sA,gA]
  have ahg:w0.heap.size<=(w0.alloc (.cells #[] 9)).drew.heap.size:=by simp
  obtain⟨v5,w5,F5,hown5,oZ⟩:=CQ HR4.out (Qg.out _ HB4.out) (by simp;omega) ahg;rw[GI] at hown5;obtain⟨A5,c5,rfl⟩:=Sec.aJ hown5;have uh:=zh (HB4.out.trans (oZ.mono hle.out.2));have HC5:=zh (HC4.out.trans (oZ.mono hle.out.1));have HD5:=zh (HD4.out.trans oZ);have HR5:=zh hown5;have hsz5:=zh (fU ahg oZ.size);refine td 7 rfl (fun K hK=>?_);refine Rz rfl _ _ _ rfl F5 ?_;refine hK.out _ _ (HS.out _ HC5.out) (fun zs=>?_);clear hK K F5 hown5 oZ ahg HB4 HC4 HR4;try simp only[sA,gA]
  refine td 9 rfl (fun K hK=>?_);go_simp;go_at_call 14;refine(HT.out _).mono ?_;rintro e w6 ⟨rfl,hB⟩;have oq:=zh (uh.out.trans (hB.mono uh.out.size));have xg:=zh (HC5.out.trans (hB.mono (fU hle.out.1 hsz5.out)));have HD6:=zh (HD5.out.trans (hB.mono hsz5.out));have Xl:=zh (ownsRow_below HR5.out hB (aF _));have Ze:=zh (fU hsz5.out hB.size);clear hB uh HC5 HR5 hsz5;go_wp2_with fail;refine hK.out _ _ (HS.out _ xg.out) (fun zs=>?_);clear hK K;try simp only[sA,gA]
  have wP:Hid (Below w.heap.size w (w6.alloc (.cells #[.string T] 9))):=oq.out.alloc oq.out.size _;have D5:Hid (Below (w.heap.size+1+1) w0 (w6.alloc (.cells #[.string T] 9))):=xg.out.alloc (fU hle.out.1 Ze.out) _;have HD7:=zh (HD6.out.alloc Ze.out (.cells #[.string T] 9));have HR7:=zh (Xl.out.alloc (.cells #[.string T] 9));have akZ:Sec.tH (w6.alloc (.cells #[.string T] 9)) (.slice (some ⟨w6.heap.size,0,none⟩) 1 1) [T]:=by
   refine⟨_,1,rfl,aF _,by unfold maxLen;decide,fun _=>⟨w6.heap.size,0,rfl,by simp,fun j t ht=>?_⟩⟩;have hb:=ak.new w6 9 #[.string T];cases j with
   | zero=>cases ht;exact hb.cell 0
   | succ j=>simp at ht
  have ak0:=zh akZ;have ak1:w0.heap.size<=(w6.alloc (.cells #[.string T] 9)).heap.size:=by have:=Ze.out;simp;omega
  clear akZ;refine td 10 rfl (fun K hK=>?_);go_simp;refine hK.out _ _ (HS.out _ D5.out) (fun zs=>?_);clear hK K oq xg Xl;try simp only[sA,gA]
  obtain⟨v8,w8,hr8,acg,Dw⟩:=CQ HR7.out ak0.out (by simp;omega) ak1;obtain⟨A8,c8,rfl⟩:=Sec.aJ acg;have XO:=zh (wP.out.trans (Dw.mono hle.out.2));have HC8:=zh (D5.out.trans (Dw.mono hle.out.1));have HD8:=zh (HD7.out.trans Dw);have HR8:=zh acg;refine td 11 rfl (fun K hK=>?_);refine Rz rfl _ _ _ rfl hr8 ?_;refine hK.out _ _ (HS.out _ HC8.out) (fun zs=>?_);clear hK K hr8 acg wP D5 HR7 Ze ak1 ak0;try simp only[sA,gA]
  have R8:=zh (R0.out.below HD8.out R0.out.lt);have g0:=R8.out.cell 0;have g1:=R8.out.cell 1;have g2:=R8.out.cell 2;have f0:=R8.out.frozen 0;have f1:=R8.out.frozen 1;have f2:=R8.out.frozen 2;have hrw:Hid (w.heap.size<=w.heap.size+1+1):=by unfold Hid;omega
  refine' tk 12 rfl zs ?_;have hL:(I++ [T]).length=I.length+1:=by simp
  have HL:=zh hL;rw[hL] at HR8;clear hL;have q1:=R8.out.aB 0 (.string i0);have q2:=q1.aB 1 (.bool b0);have q3:=zh (q2.aB 2 (.slice A8 (I.length+1) c8));have r1:=HR8.out.kept (au w8 (w.heap.size+1+1) 0 (.string i0)) (.inr (aA HR8.out R8.out (by decide)));have r2:=r1.kept (au _ (w.heap.size+1+1) 1 (.bool b0)) (.inr (aA r1 q1 (by decide)));have r3:=zh (r2.kept (au _ (w.heap.size+1+1) 2 (.slice A8 (I.length+1) c8)) (.inr (aA r2 q2 (by decide))));have JC:=zh (((XO.out.setCell (p:=⟨w.heap.size+1+1,0,none⟩) hrw.out (.string i0)).setCell (p:=⟨w.heap.size+1+1,1,none⟩) hrw.out (.bool b0)).setCell (p:=⟨w.heap.size+1+1,2,none⟩) hrw.out (.slice A8 (I.length+1) c8));have HC9:=zh (((HC8.out.setCell (p:=⟨w.heap.size+1+1,0,none⟩) (aF _) (.string i0)).setCell (p:=⟨w.heap.size+1+1,1,none⟩) (aF _) (.bool b0)).setCell (p:=⟨w.heap.size+1+1,2,none⟩) (aF _) (.slice A8 (I.length+1) c8));clear q1 q2 r1 r2;refine td 13 rfl (fun K hK=>?_);go_simp;refine hK.out _ _ ?_ (fun fM=>?_)
  ·exact HS.out _ HC9.out
  refine pW (by kernel_rfl) ?_ _;clear hK K zs fM g0 g1 g2 f0 f1 f2;go_wp2_with fail;exact kG (bF (P:=Tryz.prog) rfl _ _ (w.heap.size+1+1) 52 #[.string i0,.bool b0,.slice A8 (I.length+1) c8] _ rfl q3.out Tryz.underlying52 rfl (by kernel_rfl)) rfl ⟨_,rfl,(by rw[HL.out];exact lF r3.out hle.out.2),JC.out⟩
 ·rw[if_neg h1,if_neg h1];have d1:(kind==1)=false:=lM h1;unfold rP;generalize i.getD ⟨#[]⟩=i0;generalize i.isSome=b0;clear h0 hk h1;go_enter Tryz.func34,Tryz.ntmps34;obtain⟨w0,hw0⟩:∃ w0,((w.alloc (.cells #[.string i0,.bool b0,v] 52)).alloc (.cells #[.int .i64 kind,.int .i64 n,.int .i64 size,.int .u8 f,.slice A m c] 32)).alloc (.cells #[.string ⟨#[]⟩,.bool false,.slice none 0 0] 52)=w0:=⟨_,rfl⟩;have HB0:Hid (Below w.heap.size w w0):=by
   unfold Hid;rw[<-hw0];have h1:=(bK w.heap.size w).alloc (aF _) (.cells #[.string i0,.bool b0,v] 52);have h2:=h1.alloc h1.size (.cells #[.int .i64 kind,.int .i64 n,.int .i64 size,.int .u8 f,.slice A m c] 32);exact h2.alloc h2.size _
  have R0:Hid (ak w0 (w.heap.size+1+1) 52 #[.string ⟨#[]⟩,.bool false,.slice none 0 0]):=by
   unfold Hid;rw[<-hw0];have:=ak.new ((w.alloc (.cells #[.string i0,.bool b0,v] 52)).alloc (.cells #[.int .i64 kind,.int .i64 n,.int .i64 size,.int .u8 f,.slice A m c] 32)) 52 #[.string ⟨#[]⟩,.bool false,.slice none 0 0];rw[oz,oz] at this;exact this
  have Hw0:=zh hw0;clear hw0;go_wp2_with fail;rw[Hw0.out];refine(HT.out _).mono ?_;rintro e w1 ⟨rfl,hB⟩;have HB1:=zh (HB0.out.trans (hB.mono HB0.out.size));have R1:=zh (R0.out.below hB R0.out.lt);have c0:=R1.out.cell 0;have c1:=R1.out.cell 1;have c2:=R1.out.cell 2;have f0:=R1.out.frozen 0;have f1:=R1.out.frozen 1;have f2:=R1.out.frozen 2;clear hB R0 Hw0;have hr:Hid (w.heap.size<=w.heap.size+1+1):=by unfold Hid;omega
  go_wp2_with fail;exact kG (bF (P:=Tryz.prog) rfl _ _ (w.heap.size+1+1) 52 #[.string T,.bool true,.slice none 0 0] _ rfl (((R1.out.aB 0 (.string T)).aB 1 (.bool true)).aB 2 (.slice none 0 0)) Tryz.underlying52 rfl (by kernel_rfl)) rfl ⟨_,rfl,Ju _ _ _ _,((HB1.out.setCell (p:=⟨w.heap.size+1+1,0,none⟩) hr.out (.string T)).setCell (p:=⟨w.heap.size+1+1,1,none⟩) hr.out (.bool true)).setCell (p:=⟨w.heap.size+1+1,2,none⟩) hr.out (.slice none 0 0)⟩
end
open Go.RowKit Go.Shelf
attribute [local go_sem] Oper.semAt_some
theorem QH (w:World) (s:ByteArray) (f:Nat) (hs:s.size=64) (hf:f+8<=64):
  Calls Tryz.prog 141 #[.string s,.int .i64 f] w fun e w'=>∃ z,e= .returned (.int .i64 z)/\w=w':=by
 have Hs:=zh hs;have hsz:(s.size:Int)=64:=by rw[hs];rfl
 clear hs;go_enter Tryz.func141,Tryz.ntmps141;go_wp2_with fail;go_loopw [5,6] (fun n k wr=>∃ (z:Int) (j:Nat),n= .int .i64 z/\j<=8/\k= .int .i64 ((j:Int)-1)/\wr=w) (fun _ k _=>(intOf k+1).toNat)
 case atStart=>exact⟨0,8,rfl,by decide,rfl,rfl⟩
 case round=>
  obtain⟨z,j,rfl,hj,rfl,rfl⟩:=hrel;cases j with
  | zero=>
   go_wp2_with fail;all_goals go_ret
   all_goals exact⟨_,rfl,rfl⟩
  | succ j=>
   have hj1:(f:Int)+(j:Int)<64:=by omega
   go_wp2_with fail
   ·go_ret;exact⟨_,rfl,rfl⟩
   case roundEnd=>
    refine⟨⟨_,j,rfl,by omega,rfl,trivial⟩,?_⟩;simp[intOf]
end Go.Proofs.YtpghocekofdpbaaGreatDoor
