import Derived.Test.YtpghocekofdpbaaGreatDoorQr30
set_option maxRecDepth 100000
set_option maxHeartbeats 6400000
namespace Go.Proofs.YtpghocekofdpbaaGreatDoor
section
open Go.RowKit Go.Shelf
attribute [local go_sem] Oper.semAt_some lu
theorem YH (K:List UInt8) (c:UInt8) (hK:K.length<=64) (i:Nat) (hi:i<64):
  (∃ x,K[i]? =some x/\i<K.length/\(nK K c).take (i+1)=(nK K c).take i++ [pK x c])\/(K.length<=i/\(nK K c).take (i+1)=(nK K c).take i++ [pK 0 c]):=by
 by_cases h:i<K.length
 ·refine .inl ⟨K[i],jB h,h,?_⟩;rw[FD];unfold nK xU;rw[sD,List.getElem?_append_left h,jB h];rfl
 ·refine .inr ⟨by omega,?_⟩;rw[FD];unfold nK xU;rw[sD,ZP (by omega),List.getElem?_replicate,if_pos (by omega)];rfl
theorem ES (w:World) (key:ByteArray) (c:UInt8) (hk:key.size<1000000000) (hK:lV w 0):
  Calls Tryz.prog 79 #[.string key,.int .u8 (c.toNat:Int)] w fun e w'=>∃ v',e= .returned v'/\dD w' w.heap.size v' (nK (keyOf (bl key)) c)/\Below w.heap.size w w':=by
 have HK:=zh hK;clear hK;have hbase:=zh (aF w.heap.size);go_enter Tryz.func79,Tryz.ntmps79;go_upto_if 12 with fail
 go_cut [5] from 9 (fun v wx=>∃ kk:ByteArray,v= .string kk/\Hid (bl kk=keyOf (bl key))/\Hid (Below w.heap.size w wx))
 case first=>
  by_cases h64:key.size<=64
  ·have d1:decide ((64:Int)<(key.size:Int))=false:=dF (by omega);have t1:(key.size:Int)<=64:=by omega
   have hkk:Hid (bl key=keyOf (bl key)):=by unfold Hid keyOf;rw[if_pos (by rw[aG];exact h64)]
   clear hk h64;go_wp2_with fail;go_meet;exact⟨key,rfl,hkk,bK _ w⟩
  ·have d1:decide ((64:Int)<(key.size:Int))=true:=pW (by omega);have t1:¬ (key.size:Int)<=64:=by omega
   obtain⟨cc,w1,hcv,hba,hbel,hsz⟩:=Dq w key;have hlb:(bl key).length=key.size:=aG key;have hkk:Hid (bl (txt (gU (bl key)))=keyOf (bl key)):=by unfold Hid keyOf;rw[if_neg (by rw[aG];exact h64),lU]
   have agT:=zh (Ib w1 w.heap.size 0 cc key.size (bl key) hlb hba (by omega) (HK.out.below hbel));have ana:Hid ((gU (bl key)).length=32):=kC _;have afD:=zh hbel;generalize gU (bl key)=D at *;clear hba hbel hsz hlb h64 hk;go_wp2_with (first
    | (go_at_call 80;refine(wE _ D ana.out).mono ?_;rintro e w3 ⟨rfl,hB⟩;have HB3:=zh (HB2.out.trans (hB.mono HB2.out.size));clear hB)
    | (go_at_call 81;refine agT.out.mono ?_;rintro e w2 ⟨rfl,hB⟩;have HB2:=zh (afD.out.trans (hB.mono afD.out.size));clear hB)
    | fail)
   go_meet;exact⟨txt D,rfl,hkk,HB3.out⟩
 case rest=>
 obtain⟨kk,rfl,hkk,hB0⟩:=hcut;have hkl:(keyOf (bl key)).length<=64:=uP _;have hks:kk.size=(keyOf (bl key)).length:=by rw[<-hkk.out,aG]
 obtain⟨K,hK0⟩:∃ K,keyOf (bl key)=K:=⟨_,rfl⟩;rw[hK0] at hkk hkl hks;have hst:=zh (YH K c hkl);have hpl:=zh (xW K c hkl);have ad8:=zh hks;have HR1:Hid (dD wc w.heap.size (.slice none 0 0) ((nK K c).take 0)):=um wc _;have hz0:=zh hB0.out.size;clear hkl hks HK;have anb:=zh hK0;clear hK0;obtain⟨L,hL0⟩:∃ L,nK K c=L:=⟨_,rfl⟩;rw[hL0] at HR1 hst hpl;have anc:=zh hL0;clear hL0;go_wp2_with fail;go_loopw [6,7] (fun v q wr=>∃ i:Nat,q= .int .i64 i/\Hid (i<=64)/\Hid (dD wr w.heap.size v (L.take i))/\Hid (Below w.heap.size w wr)) (fun _ q _=>64-(intOf q).toNat)
 case atStart=>exact⟨0,rfl,iT _,HR1,hB0⟩
 case round=>
  clear HR1 hB0 hz0;obtain⟨i,rfl,hi,hR,hB⟩:=hrel;by_cases hlt:i<64
  ·have d1:decide (i<64)=true:=pW hlt;have d2:decide ((i:Int)<64)=true:=pW (by omega);have fG:=zh hlt;have hln:Hid ((L.take i).length<99999999999):=by unfold Hid;rw[ou];omega
   have hwi:wrap64 ((i:Int)+1)=((i+1:Nat):Int):=pR (i+1) (by omega);have hm:Hid (64-(i+1)<64-i):=by unfold Hid;omega
   rcases hst.out i hlt with⟨x,hx,hxl,hsn⟩ | ⟨hge,hsn⟩
   ·have t3:decide (i<kk.size)=true:=pW (by rw[ad8.out];omega);have d3:decide ((i:Int)<(kk.size:Int))=true:=pW (by rw[ad8.out];omega);have hix:=fun wx=>iq wx kk i x (by rw[hkk.out];exact hx)
    have hxf:=lu x c;have xu:=zh hsn;clear hx hxl hsn hlt;go_wp2_with (at_builtin;refine mF rfl _ _ rfl w.heap.size _ (L.take i) rfl hR.out 1 (pK x c) rfl rfl hln.out hB.out.size ?_;intro v' w' hP;rw[<-xu.out] at hP);have hB2:=zh (hP.bel _ _ (aF _) hB.out.size hB.out);have hR2:=zh hP.row;refine⟨⟨i+1,by first | (rw[hwi];done) | go_num,fG.out,hR2,hB2⟩,?_⟩;try rw[hwi]
    exact hm.out
   ·have t3:decide (i<kk.size)=false:=dF (by rw[ad8.out];omega);have d3:decide ((i:Int)<(kk.size:Int))=false:=dF (by rw[ad8.out];omega);have hxf:bits .xor .u8 0 (c.toNat:Int)=((pK 0 c).toNat:Int):=lu 0 c;have xu:=zh hsn;clear hge hsn hlt;go_wp2_with (at_builtin;refine mF rfl _ _ rfl w.heap.size _ (L.take i) rfl hR.out 1 (pK 0 c) rfl rfl hln.out hB.out.size ?_;intro v' w' hP;rw[<-xu.out] at hP);have hB2:=zh (hP.bel _ _ (aF _) hB.out.size hB.out);have hR2:=zh hP.row;refine⟨⟨i+1,by first | (rw[hwi];done) | go_num,fG.out,hR2,hB2⟩,?_⟩;try rw[hwi]
    exact hm.out
  ·have d1:decide (i<64)=false:=dF hlt;have d2:decide ((i:Int)<64)=false:=dF (by omega);have hR2:Hid (dD wr w.heap.size u6 L):=by
    have h:=hR.out;rw[uo (by rw[hpl.out];omega)] at h;exact h
   clear hR hlt;go_wp2_with fail;go_ret;exact⟨_,rfl,by rw[anb.out,anc.out];exact hR2.out,hB.out⟩
end
section
open Go.RowKit Go.Shelf
attribute [local go_sem] Oper.semAt_some
theorem QB {w:World} {base:Nat} {v:Value} {l:List UInt8} {N:Nat} (h:dD w base v l) (hN:l.length=N) (h0:0<N):∃ g c,v= .slice (some ⟨g,0,none⟩) N c/\base<=g/\g<w.heap.size:=by
 obtain⟨g,c,e,h1,h2⟩:=h.slice (by intro e;rw[e,zag] at hN;omega);exact⟨g,c,by rw[e,hN],h1,h2⟩
theorem yh (w:World) (key text:ByteArray) (hk:key.size<1000000000) (ht:text.size<1000000000) (hK:lV w 0):
  Calls Tryz.prog 44 #[.string key,.string text] w fun e w'=>e= .returned (.string (txt (nJ (bl key) (bl text))))/\Below w.heap.size w w':=by
 have HK:=zh hK;have HP1:=zh (ES w key 54 hk hK);have HP2:Hid (∀ wx,Below w.heap.size w wx->Calls Tryz.prog 79 #[.string key,.int .u8 92] wx fun e w'=>∃ v',e= .returned v'/\dD w' wx.heap.size v' (nK (keyOf (bl key)) 92)/\Below wx.heap.size wx w'):=fun wx hB=>ES wx key 92 hk (hK.below hB)
 have l1:=xW (keyOf (bl key)) 54 (uP _);have l2:=xW (keyOf (bl key)) 92 (uP _);have hfin:Hid (nJ (bl key) (bl text)=gU (nK (keyOf (bl key)) 92++gU (nK (keyOf (bl key)) 54++bl text))):=rfl;have htl:(bl text).length=text.size:=aG text;generalize nK (keyOf (bl key)) 54=PA at *;generalize nK (keyOf (bl key)) 92=PB at *;obtain⟨N,hN⟩:∃ N,64+text.size=N:=⟨_,rfl⟩;have hI:Hid ((PA++bl text).length=N):=by unfold Hid;rw[kM,l1,htl,hN]
 have akc:Hid (PA.length+text.size<100000000000):=by unfold Hid;omega
 have hN0:Hid (0<N/\N<10000000000):=⟨by omega,by omega⟩;obtain⟨D1,hD1⟩:∃ D,gU (PA++bl text)=D:=⟨_,rfl⟩;have agU:Hid (D1.length=32):=by unfold Hid;rw[<-hD1];exact kC _
 rw[hD1] at hfin;have ane:=zh hD1;have anf:(txt D1).size=32:=by rw[fP,agU.out]
 have hbd1:Hid (bl (txt D1)=D1):=lU D1;have hO:Hid ((PB++D1).length=96):=by unfold Hid;rw[kM,l2,agU.out]
 have akd:Hid (PB.length+(txt D1).size<100000000000):=by unfold Hid;omega
 clear hk ht hK htl l1 l2 hN hD1 anf;go_enter Tryz.func44,Tryz.ntmps44;go_upto_region 3 with(first
  | (at_builtin;refine xk rfl _ _ rfl w.heap.size v1 PA rfl hR1.out text rfl akc.out hB1.out.size ?_;intro v2 w2 hP2)
  | (go_at_call 79;refine HP1.out.mono ?_;rintro e w1 ⟨v1,rfl,hR,hB⟩;have hR1:=zh hR;have hB1:=zh hB;clear hR hB)
  | fail)
 try simp only[sA]
 have hB2:=zh (hP2.bel _ _ (aF _) hB1.out.size hB1.out);have hR2:=zh hP2.row;obtain⟨g2,c2,e2,_,hg2⟩:=QB hR2.out hI.out hN0.out.1;subst e2;clear hP2 hR1 hB1;go_upto_region 4 with(first
  | (go_at_call 79;refine(HP2.out _ hB2.out).mono ?_;rintro e w3 ⟨v3,rfl,hR,hB⟩;have oH:=zh hR;have hB3:=zh (hB2.out.trans (hB.mono hB2.out.size));have Dx:=zh (hR2.out.below hB);have hz3:=zh hB.size;clear hR hB)
  | fail)
 have FU:=zh (Ib w3 g2 0 c2 N (PA++bl text) hI.out Dx.out.nN hN0.out.2 (HK.out.below hB3.out));rw[ane.out] at FU;go_upto_region 5 with(first
  | (at_builtin;refine xk rfl _ _ rfl w2.heap.size v3 PB rfl hR5.out (txt D1) rfl akd.out hz5.out ?_;intro v6 w6 hP6)
  | (go_at_call 80;refine(wE _ D1 agU.out).mono ?_;rintro e w5 ⟨rfl,hB⟩;have hR5:=zh (hR4.out.below hB);have oZ:=zh (hB4.out.trans (hB.mono hB4.out.size));have hz5:=zh (fU hz4.out hB.size);clear hB)
  | (go_at_call 81;refine FU.out.mono ?_;rintro e w4 ⟨rfl,hB⟩;have hR4:=zh (oH.out.below hB);have hB4:=zh (hB3.out.trans (hB.mono hB3.out.size));have hz4:=zh (fU hz3.out hB.size);clear hB)
  | fail)
 try simp only[sA]
 have pJ:=zh (hP6.bel _ _ hB2.out.size hz5.out oZ.out);have hR6:=hP6.row;rw[hbd1.out] at hR6;obtain⟨g6,c6,e6,_,hg6⟩:=QB hR6 hO.out (by decide);subst e6;have HS2:=zh (Ib w6 g6 0 c6 96 (PB++D1) hO.out hR6.nN (by decide) (HK.out.below pJ.out));have anh:Hid ((gU (PB++D1)).length=32):=kC _;generalize gU (PB++D1)=D2 at *;clear hP6 hR6 hR5 oZ;go_wp2_with (first
  | (go_at_call 80;refine(wE _ D2 anh.out).mono ?_;rintro e w8 ⟨rfl,hB⟩;have Dw:=zh (qQ.out.trans (hB.mono qQ.out.size));clear hB)
  | (go_at_call 81;refine HS2.out.mono ?_;rintro e w7 ⟨rfl,hB⟩;have qQ:=zh (pJ.out.trans (hB.mono pJ.out.size));clear hB)
  | fail)
 go_ret;exact⟨by rw[hfin.out];rfl,Dw.out⟩
end
section
open Go.RowKit Go.Shelf
attribute [local go_sem] Oper.semAt_some
theorem sO (w:World) (x:UInt32) (n s:Nat) (h1:1<=n) (h2:n<=31) (hs:32-n=s):
  Calls Tryz.prog 206 #[ah x,.int .i64 n] w fun e w'=>e= .returned (ah (rotl x n))/\w'=w.drew:=by
 have hr:=Ie x s (by omega);have hl:=xq x n (by omega);have hr2:(x.toNat:Int)/2^s=((wB x s).toNat:Int):=by rw[<-hr,Gm (by omega)]
 have hl2:(x.toNat:Int)*2^n % 4294967296=((gq x n).toNat:Int):=by rw[<-hl,Gm (by omega)]
 have hl3:IntKind.u32.wrap ((x.toNat:Int)*2^n)=((gq x n).toNat:Int):=by rw[<-hl2];simp[IntKind.wrap,IntKind.bits,IntKind.signed]
 have hws:IntKind.i64.wrap (s:Int)=(s:Int):=LP s (by omega);have hw':(32:Int)-(n:Int)=(s:Int):=by clear hr hl hr2 hl2 hl3 hws;omega
 have hw:wrap64 (32-(n:Int))=(s:Int):=by rw[hw'];clear hr hl hr2 hl2 hl3 hws;unfold wrap64;omega
 have n0:(0:Int)<=(n:Int):=by clear hr hl hr2 hl2 hl3 hws hw hw';omega
 have n1:¬ (n:Int)<0:=by clear hr hl hr2 hl2 hl3 hws hw hw';omega
 have s0:(0:Int)<=(s:Int):=by clear hr hl hr2 hl2 hl3 hws hw hw';omega
 have s1:¬ (s:Int)<0:=by clear hr hl hr2 hl2 hl3 hws hw hw';omega
 have ho:=Tt (gq x n) (wB x s);have hE:rotl x n=Af (gq x n) (wB x s):=by unfold rotl;rw[hs]
 rw[hE];clear hE hs h1 h2;go_enter Tryz.func206,Tryz.ntmps206;go_wp2_with fail
 go_region
 go_wp2_with fail;go_ret;exact⟨rfl,rfl⟩
end
section
open Go.RowKit Go.Shelf
attribute [local go_sem] Oper.semAt_some mW jC
theorem ET (w:World) (s:ByteArray) (h:4<=s.size):
  Calls Tryz.prog 190 #[.string s] w fun e w'=>e= .returned (ah (zH (bl s)))/\w'=w.drew:=by
 have hl:4<=(bl s).length:=by rw[aG];exact h
 obtain⟨b0,e0⟩:∃ x,(bl s)[0]? =some x:=⟨_,jB (by omega)⟩;obtain⟨b1,e1⟩:∃ x,(bl s)[1]? =some x:=⟨_,jB (by omega)⟩;obtain⟨b2,e2⟩:∃ x,(bl s)[2]? =some x:=⟨_,jB (by omega)⟩;obtain⟨b3,e3⟩:∃ x,(bl s)[3]? =some x:=⟨_,jB (by omega)⟩;have i0:∀ wx,(Instr.index 9 (.string s) (.int .i64 0)).run Tryz.prog wx= .ok (.int .u8 (b0.toNat:Int)) wx:=fun wx=>iq wx s 0 b0 e0
 have i1:∀ wx,(Instr.index 9 (.string s) (.int .i64 1)).run Tryz.prog wx= .ok (.int .u8 (b1.toNat:Int)) wx:=fun wx=>iq wx s 1 b1 e1
 have i2:∀ wx,(Instr.index 9 (.string s) (.int .i64 2)).run Tryz.prog wx= .ok (.int .u8 (b2.toNat:Int)) wx:=fun wx=>iq wx s 2 b2 e2
 have i3:∀ wx,(Instr.index 9 (.string s) (.int .i64 3)).run Tryz.prog wx= .ok (.int .u8 (b3.toNat:Int)) wx:=fun wx=>iq wx s 3 b3 e3
 have hW:Hid (zH (bl s)=aT (aT (aT (w8 b0) (gq (w8 b1) 8)) (gq (w8 b2) 16)) (gq (w8 b3) 24)):=by
  rw[ad9];unfold Hid zH;simp only[En,e0,e1,e2,e3,Option.getD_some]
 have c0:=gZ b0;have c1:=gZ b1;have c2:=gZ b2;have c3:=gZ b3;have d0:=gy b0;have d1:=gy b1;have d2:=gy b2;have d3:=gy b3;have s1:=af4 (w8 b1);have s2:=Z4 (w8 b2);have s3:=Z5 (w8 b3);clear hl e0 e1 e2 e3;go_enter Tryz.func190,Tryz.ntmps190;go_wp2_with fail
 go_region
 go_wp2_with fail;go_ret;exact⟨by rw[hW.out];rfl,rfl⟩
end
section
open Go.RowKit Go.Shelf
attribute [local go_sem] Oper.semAt_some zQ mW jC
theorem NT (w:World) (a b c d:Nat) (S0:List UInt32) (hl:S0.length=16) (ha:a<16) (hb:b<16) (hc:c<16) (hd:d<16):
  Calls Tryz.prog 201 #[.agg (S0.map ah).toArray,.int .i64 a,.int .i64 b,.int .i64 c,.int .i64 d] w fun e w'=>e= .returned (.agg ((JB S0 a b c d).map ah).toArray)/\Below w.heap.size w w':=by
 have hl0:=zh hl;have ia:=fun wx g=>bP wx g a ha a rfl
 have ib:=fun wx g=>bP wx g b hb b rfl
 have ic:=fun wx g=>bP wx g c hc c rfl
 have id':=fun wx g=>bP wx g d hd d rfl
 have h1:=zh ha;have h2:=zh hb;have h3:=zh hc;have h4:=zh hd;clear hl ha hb hc hd
 rename Hid (a<16)=>ha
 rename Hid (b<16)=>hb
 rename Hid (c<16)=>hc
 rename Hid (d<16)=>hd
 go_enter Tryz.func201,Tryz.ntmps201;go_upto_region 1 with fail;refine aX (P:=fun W=>Code.wp _ _ _ _ W) (fun W0 hW0=>?_);have H0:Hid (kN w W0 S0):=by
  have b1:=(bK _ w).alloc (aF _) (Obj.cells (S0.map ah).toArray 211);have hres:∃ cs,ak W0 (w.heap.size+1) 211 cs/\cs.size=16:=by rw[<-hW0];exact⟨Kt,uy _ _ _ _,rfl⟩
  refine⟨?_,hres,?_⟩
  ·rw[<-hW0];exact(ak.new w _ _).alloc _
  ·rw[<-hW0];exact b1.alloc b1.size _
 have HB0:=zh H0.out.st;have HG0:Hid (W0.grownBy W0 (some w.heap.size)):=⟨rfl,rfl,rfl,aF _,fun _ _ _=>rfl⟩;clear hW0;go_wp2_with fail;obtain⟨x0,hx0⟩:∃ x,S0.getD a 0=x:=⟨_,rfl⟩;obtain⟨y0,hy0⟩:∃ y,S0.getD b 0=y:=⟨_,rfl⟩;have p0:W0.cell? ⟨w.heap.size,a,none⟩=some (ah x0):=by rw[<-hx0];exact bg HB0.out (by rw[hl0.out];exact ha.out)
 have q0:W0.cell? ⟨w.heap.size,b,none⟩=some (ah y0):=by rw[<-hy0];exact bg HB0.out (by rw[hl0.out];exact hb.out)
 have f0:=HB0.out.frozen a;refine bJ (S:=(fun w'=>w'.cell? ⟨w.heap.size,a,none⟩=some (ah x0)/\w'.cell? ⟨w.heap.size,b,none⟩=some (ah y0))) 9 (by kernel_rfl) ⟨p0,q0⟩ (fun zs=>?_);refine' tl 0 rfl zs ?_;refine' tl 1 rfl zs ?_;refine' tl 2 rfl zs ?_;refine' tl 3 rfl zs ?_;refine' tl 4 rfl zs ?_;refine' tl 5 rfl zs ?_;refine' tl 6 rfl zs ?_;refine' tl 7 rfl zs ?_;refine' tl 8 rfl zs ?_;refine aN (rs:= [9]) (by kernel_rfl) (by simp) ?_;refine aI.last rfl (fun K hK=>?_);go_simp;refine hK.out _ _ ?_;clear hK K;try simp only[sA,gA]
 refine bZ (by kernel_rfl) ?_ _;clear zs;go_upto_region 2 with fail;refine aX (P:=fun W=>Code.wp _ _ _ _ W) (fun W1 hW1=>?_);have hB1:ak W1 w.heap.size 211 ((S0.set a (aT x0 y0)).map ah).toArray:=by rw[<-hW1];exact fV HB0.out a (aT x0 y0)
 have hG1:W0.grownBy W1 (some w.heap.size):=by rw[<-hW1];exact aZ HG0.out (aZ (bC W0 w.heap.size a (ah (aT x0 y0))) (bY _ _))
 clear hW1;have hn0:S0.set a (aT x0 y0)=jl S0 a b:=by rw[<-hx0,<-hy0];rfl
 rw[hn0] at hB1;have hl1:Hid ((jl S0 a b).length=16):=by unfold Hid;rw[iY];exact hl0.out
 obtain⟨S1,hS1⟩:∃ S,jl S0 a b=S:=⟨_,rfl⟩;rw[hS1] at hB1 hl1;have HB1:=zh hB1;have MZ:=zh hG1;have FU:=zh hS1;clear p0 q0 f0 hx0 hy0 hB1 hG1 hS1 hn0 HB0 HG0 hl0;obtain⟨x1,hx1⟩:∃ x,S1.getD d 0=x:=⟨_,rfl⟩;obtain⟨y1,hy1⟩:∃ y,S1.getD a 0=y:=⟨_,rfl⟩;have p1:W1.cell? ⟨w.heap.size,d,none⟩=some (ah x1):=by rw[<-hx1];exact bg HB1.out (by rw[hl1.out];exact hd.out)
 have q1:W1.cell? ⟨w.heap.size,a,none⟩=some (ah y1):=by rw[<-hy1];exact bg HB1.out (by rw[hl1.out];exact ha.out)
 have f1:=HB1.out.frozen d;refine bJ (S:=(fun w'=>w'.cell? ⟨w.heap.size,d,none⟩=some (ah x1)/\w'.cell? ⟨w.heap.size,a,none⟩=some (ah y1))) 10 (by kernel_rfl) ⟨p1,q1⟩ (fun zs=>?_);refine' tl 0 rfl zs ?_;refine' tl 1 rfl zs ?_;refine' tl 2 rfl zs ?_;refine' tl 3 rfl zs ?_;refine' tl 4 rfl zs ?_;refine' tl 5 rfl zs ?_;refine' tl 6 rfl zs ?_;refine' tl 7 rfl zs ?_;refine aN (rs:= [8]) (by kernel_rfl) (by simp) ?_;refine aI.cons rfl (fun K hK=>?_) aI.nil;go_simp;go_at_call 206;refine(sO _ (dI x1 y1) 16 16 (by decide) (by decide) (by decide)).mono ?_;rintro e w9 ⟨rfl,rfl⟩;go_wp2_with fail;refine hK.out _ _ (⟨p1,q1⟩) (fun zs=>?_);clear hK K;try simp only[sA,gA]
 refine' tl 9 rfl zs ?_;refine aN (rs:= [10]) (by kernel_rfl) (by simp) ?_;refine aI.last rfl (fun K hK=>?_);go_simp;refine hK.out _ _ ?_;clear hK K;try simp only[sA,gA]
 refine bZ (by kernel_rfl) ?_ _;clear zs;go_upto_region 3 with fail;refine aX (P:=fun W=>Code.wp _ _ _ _ W) (fun W2 hW2=>?_);have hB2:ak W2 w.heap.size 211 ((S1.set d (rotl (dI x1 y1) 16)).map ah).toArray:=by rw[<-hW2];exact fV HB1.out d (rotl (dI x1 y1) 16)
 have hG2:W0.grownBy W2 (some w.heap.size):=by rw[<-hW2];exact aZ MZ.out (aZ (bC W1 w.heap.size d (ah (rotl (dI x1 y1) 16))) (aZ (bY _ _) (bY _ _)))
 clear hW2;have hn1:S1.set d (rotl (dI x1 y1) 16)=jm S1 d a 16:=by rw[<-hx1,<-hy1];rfl
 rw[hn1] at hB2;have hl2:Hid ((jm S1 d a 16).length=16):=by unfold Hid;rw[iZ];exact hl1.out
 obtain⟨S2,hS2⟩:∃ S,jm S1 d a 16=S:=⟨_,rfl⟩;rw[hS2] at hB2 hl2;have HB2:=zh hB2;have HG2:=zh hG2;have HS2:=zh hS2;clear p1 q1 f1 hx1 hy1 hB2 hG2 hS2 hn1 HB1 MZ hl1;obtain⟨x2,hx2⟩:∃ x,S2.getD c 0=x:=⟨_,rfl⟩;obtain⟨y2,hy2⟩:∃ y,S2.getD d 0=y:=⟨_,rfl⟩;have p2:W2.cell? ⟨w.heap.size,c,none⟩=some (ah x2):=by rw[<-hx2];exact bg HB2.out (by rw[hl2.out];exact hc.out)
 have q2:W2.cell? ⟨w.heap.size,d,none⟩=some (ah y2):=by rw[<-hy2];exact bg HB2.out (by rw[hl2.out];exact hd.out)
 have f2:=HB2.out.frozen c;refine bJ (S:=(fun w'=>w'.cell? ⟨w.heap.size,c,none⟩=some (ah x2)/\w'.cell? ⟨w.heap.size,d,none⟩=some (ah y2))) 9 (by kernel_rfl) ⟨p2,q2⟩ (fun zs=>?_);refine' tl 0 rfl zs ?_;refine' tl 1 rfl zs ?_;refine' tl 2 rfl zs ?_;refine' tl 3 rfl zs ?_;refine' tl 4 rfl zs ?_;refine' tl 5 rfl zs ?_;refine' tl 6 rfl zs ?_;refine' tl 7 rfl zs ?_;refine' tl 8 rfl zs ?_;refine aN (rs:= [9]) (by kernel_rfl) (by simp) ?_;refine aI.last rfl (fun K hK=>?_);go_simp;refine hK.out _ _ ?_;clear hK K;try simp only[sA,gA]
 refine bZ (by kernel_rfl) ?_ _;clear zs;go_upto_region 4 with fail;refine aX (P:=fun W=>Code.wp _ _ _ _ W) (fun W3 hW3=>?_);have hB3:ak W3 w.heap.size 211 ((S2.set c (aT x2 y2)).map ah).toArray:=by rw[<-hW3];exact fV HB2.out c (aT x2 y2)
 have hG3:W0.grownBy W3 (some w.heap.size):=by rw[<-hW3];exact aZ HG2.out (aZ (bC W2 w.heap.size c (ah (aT x2 y2))) (bY _ _))
 clear hW3;have hn2:S2.set c (aT x2 y2)=jl S2 c d:=by rw[<-hx2,<-hy2];rfl
 rw[hn2] at hB3;have hl3:Hid ((jl S2 c d).length=16):=by unfold Hid;rw[iY];exact hl2.out
 obtain⟨S3,hS3⟩:∃ S,jl S2 c d=S:=⟨_,rfl⟩;rw[hS3] at hB3 hl3;have HB3:=zh hB3;have XM:=zh hG3;have Du:=zh hS3;clear p2 q2 f2 hx2 hy2 hB3 hG3 hS3 hn2 HB2 HG2 hl2;obtain⟨x3,hx3⟩:∃ x,S3.getD b 0=x:=⟨_,rfl⟩;obtain⟨y3,hy3⟩:∃ y,S3.getD c 0=y:=⟨_,rfl⟩;have p3:W3.cell? ⟨w.heap.size,b,none⟩=some (ah x3):=by rw[<-hx3];exact bg HB3.out (by rw[hl3.out];exact hb.out)
 have q3:W3.cell? ⟨w.heap.size,c,none⟩=some (ah y3):=by rw[<-hy3];exact bg HB3.out (by rw[hl3.out];exact hc.out)
 have f3:=HB3.out.frozen b;refine bJ (S:=(fun w'=>w'.cell? ⟨w.heap.size,b,none⟩=some (ah x3)/\w'.cell? ⟨w.heap.size,c,none⟩=some (ah y3))) 10 (by kernel_rfl) ⟨p3,q3⟩ (fun zs=>?_);refine' tl 0 rfl zs ?_;refine' tl 1 rfl zs ?_;refine' tl 2 rfl zs ?_;refine' tl 3 rfl zs ?_;refine' tl 4 rfl zs ?_;refine' tl 5 rfl zs ?_;refine' tl 6 rfl zs ?_;refine' tl 7 rfl zs ?_;refine aN (rs:= [8]) (by kernel_rfl) (by simp) ?_;refine aI.cons rfl (fun K hK=>?_) aI.nil;go_simp;go_at_call 206;refine(sO _ (dI x3 y3) 12 20 (by decide) (by decide) (by decide)).mono ?_;rintro e w9 ⟨rfl,rfl⟩;go_wp2_with fail;refine hK.out _ _ (⟨p3,q3⟩) (fun zs=>?_);clear hK K;try simp only[sA,gA]
 refine' tl 9 rfl zs ?_;refine aN (rs:= [10]) (by kernel_rfl) (by simp) ?_;refine aI.last rfl (fun K hK=>?_);go_simp;refine hK.out _ _ ?_;clear hK K;try simp only[sA,gA]
 refine bZ (by kernel_rfl) ?_ _;clear zs;go_upto_region 5 with fail;refine aX (P:=fun W=>Code.wp _ _ _ _ W) (fun W4 Na=>?_);have hB4:ak W4 w.heap.size 211 ((S3.set b (rotl (dI x3 y3) 12)).map ah).toArray:=by rw[<-Na];exact fV HB3.out b (rotl (dI x3 y3) 12)
 have hG4:W0.grownBy W4 (some w.heap.size):=by rw[<-Na];exact aZ XM.out (aZ (bC W3 w.heap.size b (ah (rotl (dI x3 y3) 12))) (aZ (bY _ _) (bY _ _)))
 clear Na;have hn3:S3.set b (rotl (dI x3 y3) 12)=jm S3 b c 12:=by rw[<-hx3,<-hy3];rfl
 rw[hn3] at hB4;have hl4:Hid ((jm S3 b c 12).length=16):=by unfold Hid;rw[iZ];exact hl3.out
 obtain⟨S4,hS4⟩:∃ S,jm S3 b c 12=S:=⟨_,rfl⟩;rw[hS4] at hB4 hl4;have HB4:=zh hB4;have HG4:=zh hG4;have Nb:=zh hS4;clear p3 q3 f3 hx3 hy3 hB4 hG4 hS4 hn3 HB3 XM hl3;obtain⟨x4,hx4⟩:∃ x,S4.getD a 0=x:=⟨_,rfl⟩;obtain⟨y4,hy4⟩:∃ y,S4.getD b 0=y:=⟨_,rfl⟩;have p4:W4.cell? ⟨w.heap.size,a,none⟩=some (ah x4):=by rw[<-hx4];exact bg HB4.out (by rw[hl4.out];exact ha.out)
 have q4:W4.cell? ⟨w.heap.size,b,none⟩=some (ah y4):=by rw[<-hy4];exact bg HB4.out (by rw[hl4.out];exact hb.out)
 have f4:=HB4.out.frozen a;refine bJ (S:=(fun w'=>w'.cell? ⟨w.heap.size,a,none⟩=some (ah x4)/\w'.cell? ⟨w.heap.size,b,none⟩=some (ah y4))) 9 (by kernel_rfl) ⟨p4,q4⟩ (fun zs=>?_);refine' tl 0 rfl zs ?_;refine' tl 1 rfl zs ?_;refine' tl 2 rfl zs ?_;refine' tl 3 rfl zs ?_;refine' tl 4 rfl zs ?_;refine' tl 5 rfl zs ?_;refine' tl 6 rfl zs ?_;refine' tl 7 rfl zs ?_;refine' tl 8 rfl zs ?_;refine aN (rs:= [9]) (by kernel_rfl) (by simp) ?_;refine aI.last rfl (fun K hK=>?_);go_simp;refine hK.out _ _ ?_;clear hK K;try simp only[sA,gA]
 refine bZ (by kernel_rfl) ?_ _;clear zs;go_upto_region 6 with fail;refine aX (P:=fun W=>Code.wp _ _ _ _ W) (fun W5 Dv=>?_);have oZ:ak W5 w.heap.size 211 ((S4.set a (aT x4 y4)).map ah).toArray:=by rw[<-Dv];exact fV HB4.out a (aT x4 y4)
 have hG5:W0.grownBy W5 (some w.heap.size):=by rw[<-Dv];exact aZ HG4.out (aZ (bC W4 w.heap.size a (ah (aT x4 y4))) (bY _ _))
 clear Dv;have hn4:S4.set a (aT x4 y4)=jl S4 a b:=by rw[<-hx4,<-hy4];rfl
 rw[hn4] at oZ;have hl5:Hid ((jl S4 a b).length=16):=by unfold Hid;rw[iY];exact hl4.out
 obtain⟨S5,hS5⟩:∃ S,jl S4 a b=S:=⟨_,rfl⟩;rw[hS5] at oZ hl5;have uh:=zh oZ;have HG5:=zh hG5;have HS5:=zh hS5;clear p4 q4 f4 hx4 hy4 oZ hG5 hS5 hn4 HB4 HG4 hl4;obtain⟨x5,hx5⟩:∃ x,S5.getD d 0=x:=⟨_,rfl⟩;obtain⟨y5,hy5⟩:∃ y,S5.getD a 0=y:=⟨_,rfl⟩;have p5:W5.cell? ⟨w.heap.size,d,none⟩=some (ah x5):=by rw[<-hx5];exact bg uh.out (by rw[hl5.out];exact hd.out)
 have q5:W5.cell? ⟨w.heap.size,a,none⟩=some (ah y5):=by rw[<-hy5];exact bg uh.out (by rw[hl5.out];exact ha.out)
 have f5:=uh.out.frozen d;refine bJ (S:=(fun w'=>w'.cell? ⟨w.heap.size,d,none⟩=some (ah x5)/\w'.cell? ⟨w.heap.size,a,none⟩=some (ah y5))) 10 (by kernel_rfl) ⟨p5,q5⟩ (fun zs=>?_);refine' tl 0 rfl zs ?_;refine' tl 1 rfl zs ?_;refine' tl 2 rfl zs ?_;refine' tl 3 rfl zs ?_;refine' tl 4 rfl zs ?_;refine' tl 5 rfl zs ?_;refine' tl 6 rfl zs ?_;refine' tl 7 rfl zs ?_;refine aN (rs:= [8]) (by kernel_rfl) (by simp) ?_;refine aI.cons rfl (fun K hK=>?_) aI.nil;go_simp;go_at_call 206;refine(sO _ (dI x5 y5) 8 24 (by decide) (by decide) (by decide)).mono ?_;rintro e w9 ⟨rfl,rfl⟩;go_wp2_with fail;refine hK.out _ _ (⟨p5,q5⟩) (fun zs=>?_);clear hK K;try simp only[sA,gA]
 refine' tl 9 rfl zs ?_;refine aN (rs:= [10]) (by kernel_rfl) (by simp) ?_;refine aI.last rfl (fun K hK=>?_);go_simp;refine hK.out _ _ ?_;clear hK K;try simp only[sA,gA]
 refine bZ (by kernel_rfl) ?_ _;clear zs;go_upto_region 7 with fail;refine aX (P:=fun W=>Code.wp _ _ _ _ W) (fun W6 hW6=>?_);have pJ:ak W6 w.heap.size 211 ((S5.set d (rotl (dI x5 y5) 8)).map ah).toArray:=by rw[<-hW6];exact fV uh.out d (rotl (dI x5 y5) 8)
 have hG6:W0.grownBy W6 (some w.heap.size):=by rw[<-hW6];exact aZ HG5.out (aZ (bC W5 w.heap.size d (ah (rotl (dI x5 y5) 8))) (aZ (bY _ _) (bY _ _)))
 clear hW6;have Z7:S5.set d (rotl (dI x5 y5) 8)=jm S5 d a 8:=by rw[<-hx5,<-hy5];rfl
 rw[Z7] at pJ;have OT:Hid ((jm S5 d a 8).length=16):=by unfold Hid;rw[iZ];exact hl5.out
 obtain⟨S6,hS6⟩:∃ S,jm S5 d a 8=S:=⟨_,rfl⟩;rw[hS6] at pJ OT;have oq:=zh pJ;have HG6:=zh hG6;have HS6:=zh hS6;clear p5 q5 f5 hx5 hy5 pJ hG6 hS6 Z7 uh HG5 hl5;obtain⟨x6,hx6⟩:∃ x,S6.getD c 0=x:=⟨_,rfl⟩;obtain⟨y6,hy6⟩:∃ y,S6.getD d 0=y:=⟨_,rfl⟩;have p6:W6.cell? ⟨w.heap.size,c,none⟩=some (ah x6):=by rw[<-hx6];exact bg oq.out (by rw[OT.out];exact hc.out)
 have q6:W6.cell? ⟨w.heap.size,d,none⟩=some (ah y6):=by rw[<-hy6];exact bg oq.out (by rw[OT.out];exact hd.out)
 have f6:=oq.out.frozen c;refine bJ (S:=(fun w'=>w'.cell? ⟨w.heap.size,c,none⟩=some (ah x6)/\w'.cell? ⟨w.heap.size,d,none⟩=some (ah y6))) 9 (by kernel_rfl) ⟨p6,q6⟩ (fun zs=>?_);refine' tl 0 rfl zs ?_;refine' tl 1 rfl zs ?_;refine' tl 2 rfl zs ?_;refine' tl 3 rfl zs ?_;refine' tl 4 rfl zs ?_;refine' tl 5 rfl zs ?_;refine' tl 6 rfl zs ?_;refine' tl 7 rfl zs ?_;refine' tl 8 rfl zs ?_;refine aN (rs:= [9]) (by kernel_rfl) (by simp) ?_;refine aI.last rfl (fun K hK=>?_);go_simp;refine hK.out _ _ ?_;clear hK K;try simp only[sA,gA]
 refine bZ (by kernel_rfl) ?_ _;clear zs;go_upto_region 8 with fail;refine aX (P:=fun W=>Code.wp _ _ _ _ W) (fun W7 Z8=>?_);have qQ:ak W7 w.heap.size 211 ((S6.set c (aT x6 y6)).map ah).toArray:=by rw[<-Z8];exact fV oq.out c (aT x6 y6)
 have hG7:W0.grownBy W7 (some w.heap.size):=by rw[<-Z8];exact aZ HG6.out (aZ (bC W6 w.heap.size c (ah (aT x6 y6))) (bY _ _))
 clear Z8;have hn6:S6.set c (aT x6 y6)=jl S6 c d:=by rw[<-hx6,<-hy6];rfl
 rw[hn6] at qQ;have Z9:Hid ((jl S6 c d).length=16):=by unfold Hid;rw[iY];exact OT.out
 obtain⟨S7,hS7⟩:∃ S,jl S6 c d=S:=⟨_,rfl⟩;rw[hS7] at qQ Z9;have wP:=zh qQ;have HG7:=zh hG7;have HS7:=zh hS7;clear p6 q6 f6 hx6 hy6 qQ hG7 hS7 hn6 oq HG6 OT;obtain⟨x7,hx7⟩:∃ x,S7.getD b 0=x:=⟨_,rfl⟩;obtain⟨y7,hy7⟩:∃ y,S7.getD c 0=y:=⟨_,rfl⟩;have p7:W7.cell? ⟨w.heap.size,b,none⟩=some (ah x7):=by rw[<-hx7];exact bg wP.out (by rw[Z9.out];exact hb.out)
 have q7:W7.cell? ⟨w.heap.size,c,none⟩=some (ah y7):=by rw[<-hy7];exact bg wP.out (by rw[Z9.out];exact hc.out)
 have f7:=wP.out.frozen b;refine bJ (S:=(fun w'=>w'.cell? ⟨w.heap.size,b,none⟩=some (ah x7)/\w'.cell? ⟨w.heap.size,c,none⟩=some (ah y7))) 10 (by kernel_rfl) ⟨p7,q7⟩ (fun zs=>?_);refine' tl 0 rfl zs ?_;refine' tl 1 rfl zs ?_;refine' tl 2 rfl zs ?_;refine' tl 3 rfl zs ?_;refine' tl 4 rfl zs ?_;refine' tl 5 rfl zs ?_;refine' tl 6 rfl zs ?_;refine' tl 7 rfl zs ?_;refine aN (rs:= [8]) (by kernel_rfl) (by simp) ?_;refine aI.cons rfl (fun K hK=>?_) aI.nil;go_simp;go_at_call 206;refine(sO _ (dI x7 y7) 7 25 (by decide) (by decide) (by decide)).mono ?_;rintro e w9 ⟨rfl,rfl⟩;go_wp2_with fail;refine hK.out _ _ (⟨p7,q7⟩) (fun zs=>?_);clear hK K;try simp only[sA,gA]
 refine' tl 9 rfl zs ?_;refine aN (rs:= [10]) (by kernel_rfl) (by simp) ?_;refine aI.last rfl (fun K hK=>?_);go_simp;refine hK.out _ _ ?_;clear hK K;try simp only[sA,gA]
 refine bZ (by kernel_rfl) ?_ _;clear zs;go_upto_region 9 with fail;refine aX (P:=fun W=>Code.wp _ _ _ _ W) (fun W8 hW8=>?_);have Dw:ak W8 w.heap.size 211 ((S7.set b (rotl (dI x7 y7) 7)).map ah).toArray:=by rw[<-hW8];exact fV wP.out b (rotl (dI x7 y7) 7)
 have hG8:W0.grownBy W8 (some w.heap.size):=by rw[<-hW8];exact aZ HG7.out (aZ (bC W7 w.heap.size b (ah (rotl (dI x7 y7) 7))) (aZ (bY _ _) (bY _ _)))
 clear hW8;have hn7:S7.set b (rotl (dI x7 y7) 7)=jm S7 b c 7:=by rw[<-hx7,<-hy7];rfl
 rw[hn7] at Dw;have hl8:Hid ((jm S7 b c 7).length=16):=by unfold Hid;rw[iZ];exact Z9.out
 obtain⟨S8,hS8⟩:∃ S,jm S7 b c 7=S:=⟨_,rfl⟩;rw[hS8] at Dw hl8;have XO:=zh Dw;have HG8:=zh hG8;have OU:=zh hS8;clear p7 q7 f7 hx7 hy7 Dw hG8 hS8 hn7 wP HG7 Z9;have hq:JB S0 a b c d=S8:=by
  unfold JB;rw[FU.out,HS2.out,Du.out,Nb.out,HS5.out,HS6.out,HS7.out,OU.out]
 rw[<-hq] at hl8;have hA1:Hid (kN w W8 (JB S0 a b c d)):=by rw[hq];exact H0.out.next XO.out HG8.out
 clear hq XO HG8 FU HS2 Du Nb HS5 HS6 HS7 OU H0;have hRl:Hid (((JB S0 a b c d).map ah).length=16):=by unfold Hid;rw[lq];exact hl8.out
 have hRo:Hid (∀ v ∈ (JB S0 a b c d).map ah,v.oneCell'=true):=jZ _;have hst:=hA1.out.st;obtain⟨cs,hr,hrs⟩:=hA1.out.res;have O4:=zh hrs;have Tz:=zh hr;have hbel:=zh hA1.out.bel;clear hA1 hr hrs hl8;generalize hD:(JB S0 a b c d).map ah=D at *;have VZ:=zh hD;have hrg:=dZ hst;clear hD hst;go_wp2_with (first | (refine wpList_load_mid rfl 211 _ rfl w.heap.size 0 rfl D _ hrg Tryz.underlying211 rfl ?hI1 ?_) | (refine wpList_store_mid rfl 211 _ _ rfl (w.heap.size+1) 0 D.toArray rfl rfl ?hI2 ?Dx ?SN ?_) | fail)
 case hI1=>rw[hRl.out];exact lX
 case hI2=>rw[hRl.out];exact aU (o:=0) Tz.out (by rw[O4.out];exact aF _)
 case Dx=>rw[hRl.out];exact lX
 case SN=>exact hRo.out
 have hL:=aW Tz.out D (by rw[hRl.out,O4.out]);have hBL:=below_setCells (g:=w.heap.size+1) (wW _) D 0 _ hbel.out;exact bU (bF (P:=Tryz.prog) rfl _ _ (w.heap.size+1) 211 D.toArray _ rfl hL Tryz.underlying211 rfl (by rw[mG,hRl.out];exact jH)) rfl ⟨by rw[VZ.out],hBL⟩
end
section
open Go.RowKit Go.Shelf
attribute [local go_sem] Oper.semAt_some
def ake:List (List Nat):= [[0,4,8,12],[1,5,9,13],[2,6,10,14],[3,7,11,15],[0,5,10,15],[1,6,11,12],[2,7,8,13],[3,4,9,14]]
structure sQ (w:World) (g:Nat):Prop where
 rows:∀ k,k<8->w.cell? ⟨g+8,k,none⟩=some (.slice (some ⟨g+k,0,none⟩) 4 4)
 cells:∀ k j,k<8->j<4->w.cell? ⟨g+k,j,none⟩=some (.int .i64 (((ake.getD k []).getD j 0:Nat):Int))
 size:g+8<w.heap.size
theorem jW (w:World) (o:Obj) (g n:Nat) (h:w.heap.size=g+n):(w.alloc o).heap.size=g+(n+1):=by
 have e:(w.alloc o).heap.size=w.heap.size+1:=Array.size_push ..;omega
theorem qE (w:World) (g n:Nat) (t:TypeId) (cs:Array Value) (h:w.heap.size=g+n):ak (w.alloc (.cells cs t)) (g+n) t cs:=h ▸ ak.new w t cs
theorem abt (w:World) (t u:TypeId) (c0 c1 c2 c3 c4 c5 c6 c7 c8:Array Value):(((((((((w.alloc (.cells c0 t)).alloc (.cells c1 t)).alloc (.cells c2 t)).alloc (.cells c3 t)).alloc (.cells c4 t)).alloc (.cells c5 t)).alloc (.cells c6 t)).alloc (.cells c7 t)).alloc (.cells c8 u)).heap.size=w.heap.size+9/\ak (((((((((w.alloc (.cells c0 t)).alloc (.cells c1 t)).alloc (.cells c2 t)).alloc (.cells c3 t)).alloc (.cells c4 t)).alloc (.cells c5 t)).alloc (.cells c6 t)).alloc (.cells c7 t)).alloc (.cells c8 u)) (w.heap.size+0) t c0/\ak (((((((((w.alloc (.cells c0 t)).alloc (.cells c1 t)).alloc (.cells c2 t)).alloc (.cells c3 t)).alloc (.cells c4 t)).alloc (.cells c5 t)).alloc (.cells c6 t)).alloc (.cells c7 t)).alloc (.cells c8 u)) (w.heap.size+1) t c1/\ak (((((((((w.alloc (.cells c0 t)).alloc (.cells c1 t)).alloc (.cells c2 t)).alloc (.cells c3 t)).alloc (.cells c4 t)).alloc (.cells c5 t)).alloc (.cells c6 t)).alloc (.cells c7 t)).alloc (.cells c8 u)) (w.heap.size+2) t c2/\ak (((((((((w.alloc (.cells c0 t)).alloc (.cells c1 t)).alloc (.cells c2 t)).alloc (.cells c3 t)).alloc (.cells c4 t)).alloc (.cells c5 t)).alloc (.cells c6 t)).alloc (.cells c7 t)).alloc (.cells c8 u)) (w.heap.size+3) t c3/\ak (((((((((w.alloc (.cells c0 t)).alloc (.cells c1 t)).alloc (.cells c2 t)).alloc (.cells c3 t)).alloc (.cells c4 t)).alloc (.cells c5 t)).alloc (.cells c6 t)).alloc (.cells c7 t)).alloc (.cells c8 u)) (w.heap.size+4) t c4/\ak (((((((((w.alloc (.cells c0 t)).alloc (.cells c1 t)).alloc (.cells c2 t)).alloc (.cells c3 t)).alloc (.cells c4 t)).alloc (.cells c5 t)).alloc (.cells c6 t)).alloc (.cells c7 t)).alloc (.cells c8 u)) (w.heap.size+5) t c5/\ak (((((((((w.alloc (.cells c0 t)).alloc (.cells c1 t)).alloc (.cells c2 t)).alloc (.cells c3 t)).alloc (.cells c4 t)).alloc (.cells c5 t)).alloc (.cells c6 t)).alloc (.cells c7 t)).alloc (.cells c8 u)) (w.heap.size+6) t c6/\ak (((((((((w.alloc (.cells c0 t)).alloc (.cells c1 t)).alloc (.cells c2 t)).alloc (.cells c3 t)).alloc (.cells c4 t)).alloc (.cells c5 t)).alloc (.cells c6 t)).alloc (.cells c7 t)).alloc (.cells c8 u)) (w.heap.size+7) t c7/\ak (((((((((w.alloc (.cells c0 t)).alloc (.cells c1 t)).alloc (.cells c2 t)).alloc (.cells c3 t)).alloc (.cells c4 t)).alloc (.cells c5 t)).alloc (.cells c6 t)).alloc (.cells c7 t)).alloc (.cells c8 u)) (w.heap.size+8) u c8:=by
 have s0:w.heap.size=w.heap.size+0:=rfl;have s1:=jW _ (.cells c0 t) _ _ s0;have s2:=jW _ (.cells c1 t) _ _ s1;have s3:=jW _ (.cells c2 t) _ _ s2;have s4:=jW _ (.cells c3 t) _ _ s3;have s5:=jW _ (.cells c4 t) _ _ s4;have s6:=jW _ (.cells c5 t) _ _ s5;have s7:=jW _ (.cells c6 t) _ _ s6;have s8:=jW _ (.cells c7 t) _ _ s7;have s9:=jW _ (.cells c8 u) _ _ s8;exact⟨s9,(((((((((qE _ _ 0 _ c0 s0).alloc _).alloc _).alloc _).alloc _).alloc _).alloc _).alloc _).alloc _),((((((((qE _ _ 1 _ c1 s1).alloc _).alloc _).alloc _).alloc _).alloc _).alloc _).alloc _),(((((((qE _ _ 2 _ c2 s2).alloc _).alloc _).alloc _).alloc _).alloc _).alloc _),((((((qE _ _ 3 _ c3 s3).alloc _).alloc _).alloc _).alloc _).alloc _),(((((qE _ _ 4 _ c4 s4).alloc _).alloc _).alloc _).alloc _),((((qE _ _ 5 _ c5 s5).alloc _).alloc _).alloc _),(((qE _ _ 6 _ c6 s6).alloc _).alloc _),((qE _ _ 7 _ c7 s7).alloc _),(qE _ _ 8 _ c8 s8)⟩
theorem jv (w w1:World) (h:Below w.heap.size w w1) (o:Obj):Below w.heap.size w (w1.alloc o):=h.alloc h.size o
theorem YJ (w:World):
  Calls Tryz.prog 200 #[] w fun e w'=>e= .returned (.slice (some ⟨w.heap.size+8,0,none⟩) 8 8)/\sQ w' w.heap.size/\Below w.heap.size w w':=by
 go_enter Tryz.func200,Tryz.ntmps200;go_wp2_with fail;go_ret;obtain⟨hs,b0,b1,b2,b3,b4,b5,b6,b7,b8⟩:=abt w _ _ #[.int .i64 0,.int .i64 4,.int .i64 8,.int .i64 12] #[.int .i64 1,.int .i64 5,.int .i64 9,.int .i64 13] #[.int .i64 2,.int .i64 6,.int .i64 10,.int .i64 14] #[.int .i64 3,.int .i64 7,.int .i64 11,.int .i64 15] #[.int .i64 0,.int .i64 5,.int .i64 10,.int .i64 15] #[.int .i64 1,.int .i64 6,.int .i64 11,.int .i64 12] #[.int .i64 2,.int .i64 7,.int .i64 8,.int .i64 13] #[.int .i64 3,.int .i64 4,.int .i64 9,.int .i64 14] _;refine⟨rfl,⟨fun k hk=>?_,fun k j hk hj=>?_,?_⟩,?_⟩
 ·refine(b8.cell k).trans ?_;have e:k=0\/k=1\/k=2\/k=3\/k=4\/k=5\/k=6\/k=7:=by omega
  rcases e with rfl | rfl | rfl | rfl | rfl | rfl | rfl | rfl<;>rfl
 ·have e:k=0\/k=1\/k=2\/k=3\/k=4\/k=5\/k=6\/k=7:=by omega
  have f:j=0\/j=1\/j=2\/j=3:=by omega
  rcases e with rfl | rfl | rfl | rfl | rfl | rfl | rfl | rfl
  ·refine(b0.cell j).trans ?_;rcases f with rfl | rfl | rfl | rfl<;>rfl
  ·refine(b1.cell j).trans ?_;rcases f with rfl | rfl | rfl | rfl<;>rfl
  ·refine(b2.cell j).trans ?_;rcases f with rfl | rfl | rfl | rfl<;>rfl
  ·refine(b3.cell j).trans ?_;rcases f with rfl | rfl | rfl | rfl<;>rfl
  ·refine(b4.cell j).trans ?_;rcases f with rfl | rfl | rfl | rfl<;>rfl
  ·refine(b5.cell j).trans ?_;rcases f with rfl | rfl | rfl | rfl<;>rfl
  ·refine(b6.cell j).trans ?_;rcases f with rfl | rfl | rfl | rfl<;>rfl
  ·refine(b7.cell j).trans ?_;rcases f with rfl | rfl | rfl | rfl<;>rfl
 ·rw[hs];omega
 ·have B0:=bK w.heap.size w;exact jv _ _ (jv _ _ (jv _ _ (jv _ _ (jv _ _ (jv _ _ (jv _ _ (jv _ _ (jv _ _ B0 _) _) _) _) _) _) _) _) _
end
def JV (k j:Nat):Nat:=(ake.getD k []).getD j 0
theorem F9:∀ k j,k<8->j<4->JV k j<16:=by
 have h:∀ k:Fin 8,∀ j:Fin 4,JV k.val j.val<16:=by decide
 exact fun k j hk hj=>h ⟨k,hk⟩ ⟨j,hj⟩
def wR (S:List UInt32):Nat->List UInt32
 | 0=>S
 | k+1=>JB (wR S k) (JV k 0) (JV k 1) (JV k 2) (JV k 3)
theorem LM (S:List UInt32):∀ k,(wR S k).length=S.length
 | 0=>rfl
 | k+1=>by unfold wR;rw[Ba];exact LM S k
theorem QC (S:List UInt32):wR S 8=FH (yF S 4) 4:=by
 simp only[wR,yF,FH];generalize JB=q;rfl
theorem YI (S:List UInt32) (n:Nat):jY S (n+1)=wR (jY S n) 8:=by rw[QC];rfl
open Go.RowKit Go.Shelf
attribute [local go_sem] Oper.semAt_some
theorem LQ (k:List UInt8) (S:List UInt32) (c:UInt32):∀ t,t<=8->lK k (S.set 12 c) t=(lK k S t).set 12 c
 | 0,_=>rfl
 | t+1,h=>by
  unfold lK;rw[LQ k S c t (by omega),List.set_comm _ _ (show 12≠4+t by omega)]
theorem QD (k:List UInt8) (c:UInt32) (n:List UInt8):gu k c n=uq n ((lK k (jI 0) 8).set 12 c) 3:=by
 unfold gu;rw[<-LQ k (jI 0) c 8 (aF _)];rfl
structure UC (w wr:World) (S:List UInt32):Prop where
 st:ak wr (w.heap.size+1) 211 (S.map ah).toArray
 res:ak wr w.heap.size 211 Kt
 bel:Below w.heap.size w wr
theorem UC.put {w wr:World} {S:List UInt32} (h:UC w wr S) (a:Nat) (v:UInt32):UC w (wr.setCell ⟨w.heap.size+1,a,none⟩ (ah v)) (S.set a v):=
 ⟨fV h.st a v,h.res.other (by show w.heap.size≠w.heap.size+1;omega) _,h.bel.setCell (p:=⟨w.heap.size+1,a,none⟩) (wW _) _⟩
theorem UC.drew {w wr:World} {S:List UInt32} (h:UC w wr S):UC w wr.drew S:=⟨h.st.drew,h.res.drew,h.bel.drew⟩
theorem Ig (w:World) (key aY:ByteArray) (c:UInt32) (hk:key.size=32) (hn:aY.size=12):
  Calls Tryz.prog 183 #[.string key,ah c,.string aY] w fun e w'=>e= .returned (.tuple #[.agg ((gu (bl key) c (bl aY)).map ah).toArray,.int .i64 0])/\Below w.heap.size w w':=by
 have hkH:=zh hk;have SL:=zh hn;have t1:((key.size:Int) !=32)=false:=by rw[hk];rfl
 have t2:((aY.size:Int) !=12)=false:=by rw[hn];rfl
 go_enter Tryz.func183,Tryz.ntmps183;go_upto_region 4 with fail;refine aX (P:=fun W=>Code.wp _ _ _ _ W) (fun W1 hW1=>?_);have FU:Hid (ak W1 (w.heap.size+1) 211 Kt):=by unfold Hid;rw[<-hW1];exact uy _ _ _ _
 have HR1:Hid (ak W1 w.heap.size 211 Kt):=by unfold Hid;rw[<-hW1];exact(ak.new w _ _).alloc _
 have HB1:Hid (Below w.heap.size w W1):=by unfold Hid;rw[<-hW1];exact((bK w.heap.size w).alloc (aF _) _).alloc (by rw[oz];exact wW _) _
 clear hW1;have c0:W1.cell? ⟨w.heap.size+1,0,none⟩=some (.int .u32 0):=FU.out.cell 0;have c1:W1.cell? ⟨w.heap.size+1,1,none⟩=some (.int .u32 0):=FU.out.cell 1;have c2:W1.cell? ⟨w.heap.size+1,2,none⟩=some (.int .u32 0):=FU.out.cell 2;have c3:W1.cell? ⟨w.heap.size+1,3,none⟩=some (.int .u32 0):=FU.out.cell 3;have f0:=FU.out.frozen 0;have f1:=FU.out.frozen 1;have f2:=FU.out.frozen 2;have f3:=FU.out.frozen 3;have x0:=fun wx=>bP wx (w.heap.size+1) 0 (by decide) 0 rfl
 have x1:=fun wx=>bP wx (w.heap.size+1) 1 (by decide) 1 rfl
 have x2:=fun wx=>bP wx (w.heap.size+1) 2 (by decide) 2 rfl
 have x3:=fun wx=>bP wx (w.heap.size+1) 3 (by decide) 3 rfl
 go_upto_region 8 with fail;refine aX (P:=fun W=>Code.wp _ _ _ _ W) (fun W2 hW2=>?_);have hS0:Hid (UC w W2 (lK (bl key) (jI 0) 0)):=by
  refine⟨?_,?_,?_⟩
  ·rw[<-hW2];exact(((FU.out.aB 0 (.int .u32 1634760805)).aB 1 (.int .u32 857760878)).aB 2 (.int .u32 2036477234)).aB 3 (.int .u32 1797285236)
  ·rw[<-hW2];exact((((HR1.out.other (a:=⟨w.heap.size+1,0,none⟩) (by show w.heap.size≠w.heap.size+1;omega) _).other (a:=⟨w.heap.size+1,1,none⟩) (by show w.heap.size≠w.heap.size+1;omega) _).other (a:=⟨w.heap.size+1,2,none⟩) (by show w.heap.size≠w.heap.size+1;omega) _).other (a:=⟨w.heap.size+1,3,none⟩) (by show w.heap.size≠w.heap.size+1;omega) _)
  ·rw[<-hW2];exact((((HB1.out.setCell (p:=⟨w.heap.size+1,0,none⟩) (wW _) _).setCell (p:=⟨w.heap.size+1,1,none⟩) (wW _) _).setCell (p:=⟨w.heap.size+1,2,none⟩) (wW _) _).setCell (p:=⟨w.heap.size+1,3,none⟩) (wW _) _)
 clear hW2 FU HR1 HB1 c0 c1 c2 c3 f0 f1 f2 f3 x0 x1 x2 x3;go_wp2_with fail;go_loopw [9] (fun q wr=>∃ t:Nat,q= .int .i64 t/\Hid (t<=8)/\Hid (UC w wr (lK (bl key) (jI 0) t))) (fun q _=>8-(intOf q).toNat)
 case atStart=>exact⟨0,rfl,iT _,hS0⟩
 case round=>
  clear hS0;obtain⟨t,rfl,ht,hA⟩:=hrel;by_cases hlt:t<8
  ·have d1:decide (t<8)=true:=pW hlt;have d2:decide ((t:Int)<8)=true:=pW (by omega);have x1:=fun wx=>bP wx (w.heap.size+1) (4+t) (by omega) (4+(t:Int)) (by omega)
   have e1:bl (key.extract (4*t) 32)=(bl key).drop (4*t):=by
    have h:=jD key (4*t) (by omega);rw[hk] at h;exact h
   have HG:Hid (∀ wx,Calls Tryz.prog 190 #[.string (key.extract (4*t) 32)] wx fun e w'=>e= .returned (ah (zH ((bl key).drop (4*t))))/\w'=wx.drew):=fun wx=>by
    have h:=ET wx (key.extract (4*t) 32) (by rw[<-aG,e1,rX,aG,hk];omega);rw[e1] at h;exact h
   have hfr:=hA.out.st.frozen (4+t);have hce:=bg hA.out.st (a:=4+t) (by rw[qI];show 4+t<16;omega);have hN:Hid (UC w (wr.setCell ⟨w.heap.size+1,4+t,none⟩ (ah (zH ((bl key).drop (4*t))))).drew (lK (bl key) (jI 0) (t+1))):=(hA.out.put (4+t) _).drew;have fG:=zh hlt;clear e1;go_wp2_with (first | (go_at_call 190;refine(HG.out _).mono ?_;rintro e w9 ⟨rfl,rfl⟩) | fail);refine⟨⟨t+1,by go_num,fG.out,hN⟩,?_⟩;have:=fG.out;simp[intOf];omega
  ·have d1:decide (t<8)=false:=dF hlt;have d2:decide ((t:Int)<8)=false:=dF (by omega);have e8:t=8:=zap ht (Ep hlt);have hS1:Hid (UC w wr (lK (bl key) (jI 0) 8)):=by rw[e8] at hA;exact hA
   have hfin:Hid (gu (bl key) c (bl aY)=uq (bl aY) ((lK (bl key) (jI 0) 8).set 12 c) 3):=QD _ _ _;have hVl:Hid ((lK (bl key) (jI 0) 8).length=16):=by unfold Hid;rw[qI];rfl
   generalize lK (bl key) (jI 0) 8=V at *;clear e8 hA;have f12:=hS1.out.st.frozen 12;have c12:=bg hS1.out.st (a:=12) (by rw[hVl.out];decide);have x12:=fun wx=>bP wx (w.heap.size+1) 12 (by decide) 12 rfl
   have hS2:Hid (UC w (wr.setCell ⟨w.heap.size+1,12,none⟩ (ah c)) (V.set 12 c)):=hS1.out.put 12 c;have hUl:Hid ((V.set 12 c).length=16):=by unfold Hid;rw[List.length_set];exact hVl.out
   go_upto_region 13 with fail;refine aX (P:=fun W=>Code.wp _ _ _ _ W) (fun W5 Dv=>?_);have hS3:Hid (UC w W5 (uq (bl aY) (V.set 12 c) 0)):=by unfold Hid;rw[<-Dv];exact hS2.out
   generalize V.set 12 c=U at *;clear Dv hS2 hS1 f12 c12 x12 hVl ht hlt d1 d2;go_wp2_with fail;go_loopw [10] (fun q wr=>∃ i:Nat,q= .int .i64 i/\Hid (i<=3)/\Hid (UC w wr (uq (bl aY) U i))) (fun q _=>3-(intOf q).toNat)
   case atStart=>exact⟨0,rfl,iT _,hS3⟩
   case round=>
    clear hS3;obtain⟨i,rfl,hi,hA⟩:=hrel;by_cases hlt:i<3
    ·have d1:decide (i<3)=true:=pW hlt;have d2:decide ((i:Int)<3)=true:=pW (by omega);have x1:=fun wx=>bP wx (w.heap.size+1) (13+i) (by omega) (13+(i:Int)) (by omega)
     have e1:bl (aY.extract (4*i) 12)=(bl aY).drop (4*i):=by
      have h:=jD aY (4*i) (by omega);rw[hn] at h;exact h
     have HG:Hid (∀ wx,Calls Tryz.prog 190 #[.string (aY.extract (4*i) 12)] wx fun e w'=>e= .returned (ah (zH ((bl aY).drop (4*i))))/\w'=wx.drew):=fun wx=>by
      have h:=ET wx (aY.extract (4*i) 12) (by rw[<-aG,e1,rX,aG,hn];omega);rw[e1] at h;exact h
     have hfr:=hA.out.st.frozen (13+i);have hce:=bg hA.out.st (a:=13+i) (by rw[yJ,hUl.out];omega);have hN:Hid (UC w (wr.setCell ⟨w.heap.size+1,13+i,none⟩ (ah (zH ((bl aY).drop (4*i))))).drew (uq (bl aY) U (i+1))):=(hA.out.put (13+i) _).drew;have fG:=zh hlt;clear e1;go_wp2_with (first | (go_at_call 190;refine(HG.out _).mono ?_;rintro e w9 ⟨rfl,rfl⟩) | fail);refine⟨⟨i+1,by go_num,fG.out,hN⟩,?_⟩;have:=fG.out;simp[intOf];omega
    ·have d1:decide (i<3)=false:=dF hlt;have d2:decide ((i:Int)<3)=false:=dF (by omega);have e3:i=3:=zap hi (Ep hlt);have hA1:Hid (UC w wr (gu (bl key) c (bl aY))):=by rw[e3] at hA;unfold Hid;rw[hfin.out];exact hA
     have hRl:Hid (((gu (bl key) c (bl aY)).map ah).length=16):=by unfold Hid;rw[lq,oI]
     have hRo:Hid (∀ v ∈ (gu (bl key) c (bl aY)).map ah,v.oneCell'=true):=jZ _;have hst:=hA1.out.st;have hres:=zh hA1.out.res;have hbel:=zh hA1.out.bel;clear e3 hA hA1 hfin;generalize hD:(gu (bl key) c (bl aY)).map ah=D at *;have VZ:=zh hD;have hrg:=dZ hst;clear hD hst;go_wp2_with (first | (refine wpList_load_mid rfl 211 _ rfl (w.heap.size+1) 0 rfl D _ hrg Tryz.underlying211 rfl ?hI1 ?_) | (refine wpList_store_mid rfl 211 _ _ rfl w.heap.size 0 D.toArray rfl rfl ?hI2 ?Dx ?SN ?_) | fail)
     case hI1=>rw[hRl.out];exact lX
     case hI2=>rw[hRl.out];exact aU (o:=0) hres.out (by decide)
     case Dx=>rw[hRl.out];exact lX
     case SN=>exact hRo.out
     have hL:=aW hres.out D (by rw[hRl.out];rfl);have hBL:=below_setCells (g:=w.heap.size) (aF _) D 0 _ hbel.out;rw[VZ.out];exact bU (v:= .tuple #[.agg D.toArray,.int .i64 0]) (dA (p:=6) (q:=7) rfl _ _ w.heap.size 211 D.toArray _ rfl hL Tryz.underlying211 rfl (by rw[mG,hRl.out];exact jH)) rfl ⟨rfl,hBL⟩
end Go.Proofs.YtpghocekofdpbaaGreatDoor
