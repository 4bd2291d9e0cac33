import Derived.Test.YtpghocekofdpbaaGreatDoorQr29
set_option maxRecDepth 100000
set_option maxHeartbeats 8000000
namespace Go.Proofs.YtpghocekofdpbaaGreatDoor
def tX (k:List UInt8):List UInt8:=nJ k [101,110,99]
def nZ (k:List UInt8):List UInt8:=nJ k [109,97,99]
def gW (m ad t:List UInt8):List UInt8:=(nJ m ([110,111,110,99,101]++dB ad++t)).take 12
def tY (m n ad c:List UInt8):List UInt8:=(nJ m ([116,97,103]++n++dB ad++c)).take 16
theorem AO (m ad t:List UInt8):(gW m ad t).length=12:=by unfold gW;rw[ou,jK];rfl
theorem QT (m n ad c:List UInt8):(tY m n ad c).length=16:=by unfold tY;rw[ou,jK];rfl
def pX (k ad t:List UInt8):List UInt8:=
 let n:=gW (nZ k) ad t
 let c:=lS (tX k) 1 n t
 n++c++tY (nZ k) n ad c
theorem LX (k ad t:List UInt8):(pX k ad t).length=t.length+28:=by
 unfold pX;simp only[kM,AO,QT,lW];omega
def dw (k ad b:List UInt8):List UInt8×Nat:=
 if b.length<28 then ([],5) else
 let n:=b.take 12
 let c:=(b.drop 12).take (b.length-28)
 if tY (nZ k) n ad c=b.drop (b.length-16) then
  let t:=lS (tX k) 1 n c
  if gW (nZ k) ad t=n then (t,0) else ([],8)
 else ([],8)
theorem YW (k ad t:List UInt8):dw k ad (pX k ad t)=(t,0):=by
 unfold dw;have hl:=LX k ad t;rw[if_neg (by omega)];have hn:=AO (nZ k) ad t;have e1:(pX k ad t).take 12=gW (nZ k) ad t:=by
  unfold pX;simp only[Em];rw[List.take_append_of_le_length (by omega),uo (by omega)]
 have e2:(pX k ad t).drop 12=lS (tX k) 1 (gW (nZ k) ad t) t++tY (nZ k) (gW (nZ k) ad t) ad (lS (tX k) 1 (gW (nZ k) ad t) t):=by
  unfold pX;simp only[Em];rw[List.drop_append_of_le_length (by omega),List.drop_of_length_le (by omega),GI]
 have e3:((pX k ad t).drop 12).take ((pX k ad t).length-28)=lS (tX k) 1 (gW (nZ k) ad t) t:=by
  rw[e2,hl,Nat.add_sub_cancel,List.take_append_of_le_length (by rw[lW];exact aF _),uo (by rw[lW];exact aF _)]
 have e4:(pX k ad t).drop ((pX k ad t).length-16)=tY (nZ k) (gW (nZ k) ad t) ad (lS (tX k) 1 (gW (nZ k) ad t) t):=by
  have h:(pX k ad t).length-16=12+t.length:=by omega
  rw[h,<-List.drop_drop,e2,List.drop_append_of_le_length (by rw[lW];exact aF _),List.drop_of_length_le (by rw[lW];exact aF _),GI]
 simp only[e1,e3,e4,if_true,Tq]
theorem abe (a b c d:UInt8):BN [a,b,c,d]=Af (Af (Af (gq (w8 a) 24) (gq (w8 b) 16)) (gq (w8 c) 8)) (w8 d):=by
 unfold BN;simp only[List.foldl_cons,List.foldl_nil];unfold Af gq;generalize w8 a=x;generalize w8 b=y;generalize w8 c=z;generalize w8 d=u;apply UInt32.toBitVec_inj.1;simp only[UInt32.toBitVec_or,UInt32.toBitVec_shiftLeft];have e8:((UInt32.ofNat 8).toBitVec % 32).toNat=8:=rfl;have e16:((UInt32.ofNat 16).toBitVec % 32).toNat=16:=rfl;have e24:((UInt32.ofNat 24).toBitVec % 32).toNat=24:=rfl;have e0:(0:UInt32).toBitVec=0#32:=rfl;generalize x.toBitVec=p;generalize y.toBitVec=q;generalize z.toBitVec=r;generalize u.toBitVec=s;simp only[e0,BitVec.shiftLeft_eq',e8,e16,e24];apply BitVec.eq_of_getLsbD_eq;intro i hi;simp only[BitVec.getLsbD_or,BitVec.getLsbD_shiftLeft,BitVec.getLsbD_zero,hi,decide_true,Bool.true_and,Bool.and_false,Bool.false_or];by_cases h8:i<8
 ·have h16:i<16:=by omega
  have h24:i<24:=by omega
  simp[h8,h16,h24]
 ·by_cases h16:i<16
  ·have h24:i<24:=by omega
   have g:i-8<8:=by omega
   have g32:i-8<32:=by omega
   simp[h8,h16,h24,g,g32]
  ·have g8:¬ i-8<8:=by omega
   have g32:i-8<32:=by omega
   by_cases h24:i<24
   ·have g:i-8-8<8:=by omega
    have f32:i-8-8<32:=by omega
    have m8:i-16<8:=by omega
    simp[h8,h16,h24,g8,g32,m8,Nat.sub_sub]
   ·have g:¬ i-8-8<8:=by omega
    have f32:i-8-8<32:=by omega
    have k32:i-8-8-8<32:=by omega
    have m8:¬ i-16<8:=by omega
    have m32:i-16<32:=by omega
    simp[h8,h16,h24,g8,g32,m8,m32,Nat.sub_sub]
section
open Go.RowKit Go.Shelf
attribute [local go_sem] Oper.semAt_some zQ Tt
theorem ajU {b:List UInt8} (hl:b.length=64) (t:Nat) (ht:t<16):∃ x0 x1 x2 x3,b[4*t]? =some x0/\b[4*t+1]? =some x1/\b[4*t+2]? =some x2/\b[4*t+3]? =some x3/\(b.drop (4*t)).take 4= [x0,x1,x2,x3]:=by
 have g:∀ k,k<4->b[4*t+k]? =some (b.getD (4*t+k) 0):=fun k hk=>by
  rw[En,jB (by omega)];rfl
 refine⟨_,_,_,_,g 0 (by decide),g 1 (by decide),g 2 (by decide),g 3 (by decide),?_⟩;apply List.ext_getElem?;intro i;rw[List.getElem?_take];by_cases hi:i<4
 ·rw[if_pos hi,Nc,g i hi]
  match i,hi with
  | 0,_=>rfl
  | 1,_=>rfl
  | 2,_=>rfl
  | 3,_=>rfl
 ·rw[if_neg hi]
  match i,hi with
  | n+4,_=>rfl
theorem NR (a:UInt8) (s:Nat) (hs:s<32):((w8 a).toNat:Int)*2^s % 4294967296=((gq (w8 a) s).toNat:Int):=by
 have h:=xq (w8 a) s hs;rw[Gm (by omega)] at h;exact h
theorem Yy (w:World) (bb bo c:Nat) (b:List UInt8) (hl:b.length=64) (hb:BytesAt w bb bo b):
  Calls Tryz.prog 113 #[.slice (some ⟨bb,bo,none⟩) 64 c] w fun e w'=>e= .returned (.agg (fF b).toArray)/\Below w.heap.size w w':=by
 have hs1:(w.alloc (.cells z64 166)).heap.size=w.heap.size+1:=by simp
 have bk:=ak.new (w.alloc (.cells z64 166)) 166 z64;rw[hs1] at bk;have HR:Hid (ak ((w.alloc (.cells z64 166)).alloc (.cells z64 166)) w.heap.size 166 z64):=(ak.new w 166 z64).alloc _;have HB:Hid (Below w.heap.size w ((w.alloc (.cells z64 166)).alloc (.cells z64 166))):=by
  have b1:=(bK _ w).alloc (aF _) (.cells z64 166);exact b1.alloc b1.size _
 have HS:Hid (ig ((w.alloc (.cells z64 166)).alloc (.cells z64 166)) (w.heap.size+1) b 0 0):=⟨_,bk,by rfl,fun j hj=>by rw[abh j hj,if_neg (by omega)];split<;>rfl⟩;clear bk;go_enter Tryz.func113,Tryz.ntmps113;go_wp2_with fail;have Hb:=zh hb;clear hb hs1;go_loopw [4] (fun i wr=>∃ t:Nat,t<=16/\i= .int .i64 t/\Hid (ig wr (w.heap.size+1) b t 0)/\Hid (∃ cs,ak wr w.heap.size 166 cs/\cs.size=64)/\Hid (Below w.heap.size w wr)) (fun i _=>64-(intOf i).toNat)
 case atStart=>exact⟨0,iT _,rfl,HS,⟨_,HR.out,by rfl⟩,HB⟩
 case round=>
  clear HS HR HB;obtain⟨t,ht,rfl,hS,hR,hB⟩:=hrel;by_cases h16:t<16
  ·have d16:decide ((t:Int)<16)=true:=pW (by omega);obtain⟨x0,x1,x2,x3,q0,q1,q2,q3,q4⟩:=ajU hl t h16;have hbx:=Hb.out.below hB.out;have c0:=hbx.2 _ x0 q0;have c1:=hbx.2 _ x1 q1;have c2:=hbx.2 _ x2 q2;have c3:=hbx.2 _ x3 q3;have hw:Hid (sw b t=Af (Af (Af (gq (w8 x0) 24) (gq (w8 x1) 16)) (gq (w8 x2) 8)) (w8 x3)):=by unfold Hid;rw[abj b t h16,q4,abe]
   obtain⟨yt,ft⟩:=fB hS.out t (by omega);rw[if_neg (Nat.lt_irrefl t),if_pos rfl] at yt;obtain⟨p0,hp0⟩:∃ q,4*t=q:=⟨_,rfl⟩;obtain⟨p1,hp1⟩:∃ q,4*t+1=q:=⟨_,rfl⟩;obtain⟨p2,hp2⟩:∃ q,4*t+2=q:=⟨_,rfl⟩;obtain⟨p3,hp3⟩:∃ q,4*t+3=q:=⟨_,rfl⟩;rw[hp0] at c0;rw[hp1] at c1;rw[hp2] at c2;rw[hp3] at c3;have e0:IntKind.i64.wrap (4*(t:Int))=(p0:Int):=by rw[show 4*(t:Int)=(p0:Int) by omega];exact i64_is p0 (by omega)
   have e1:IntKind.i64.wrap ((p0:Int)+1)=(p1:Int):=by rw[show(p0:Int)+1=(p1:Int) by omega];exact i64_is p1 (by omega)
   have e2:IntKind.i64.wrap ((p0:Int)+2)=(p2:Int):=by rw[show(p0:Int)+2=(p2:Int) by omega];exact i64_is p2 (by omega)
   have e3:IntKind.i64.wrap ((p0:Int)+3)=(p3:Int):=by rw[show(p0:Int)+3=(p3:Int) by omega];exact i64_is p3 (by omega)
   have l0:¬ 64<=(p0:Int):=by omega
   have l1:¬ 64<=(p1:Int):=by omega
   have l2:¬ 64<=(p2:Int):=by omega
   have l3:¬ 64<=(p3:Int):=by omega
   have m0:p0<64:=by omega
   have m1:p1<64:=by omega
   have m2:p2<64:=by omega
   have m3:p3<64:=by omega
   have mt:t<64:=by omega
   clear hp0 hp1 hp2 hp3;have bt:¬ 64<=(t:Int):=by omega
   have b0:=gZ x0;have b1:=gZ x1;have b2:=gZ x2;have b3:=gZ x3
   have b0':=gy x0;have b1':=gy x1;have b2':=gy x2;have b3':=gy x3
   have s0:((w8 x0).toNat:Int)*16777216 % 4294967296=((gq (w8 x0) 24).toNat:Int):=NR x0 24 (by decide);have s1:((w8 x1).toNat:Int)*65536 % 4294967296=((gq (w8 x1) 16).toNat:Int):=NR x1 16 (by decide);have s2:((w8 x2).toNat:Int)*256 % 4294967296=((gq (w8 x2) 8).toNat:Int):=NR x2 8 (by decide)
   have ad2:=zh h16;clear q0 q1 q2 q3 q4 hbx h16;go_wp2_with fail
   go_region
   clear b0 b1 b2 b3 b0' b1' b2' b3' s0 s1 s2 e0 e1 e2 e3 c0 c1 c2 c3 yt ft;rw[<-hw.out];have Yz:Hid (ig (wr.setCell ⟨w.heap.size+1,t,none⟩ (ah (sw b t))).drew (w.heap.size+1) b (t+1) 0):=qB (sN (c:=sw b t) hS.out mt);have xZ:Hid (∃ cs,ak (wr.setCell ⟨w.heap.size+1,t,none⟩ (ah (sw b t))).drew w.heap.size 166 cs/\cs.size=64):=by
    obtain⟨cs,h1,h2⟩:=hR.out;exact⟨cs,(h1.grown (bC wr (w.heap.size+1) t _) (by simp)).drew,h2⟩
   have hBn:Hid (Below w.heap.size w (wr.setCell ⟨w.heap.size+1,t,none⟩ (ah (sw b t))).drew):=(hB.out.setCell (p:=⟨w.heap.size+1,t,none⟩) (by show _<=w.heap.size+1;omega) _).drew;go_wp2_with fail;go_roundw
   case rel=>exact⟨t+1,ad2.out,by go_num,Yz,xZ,hBn⟩
   case measure=>have:=ad2.out;simp[intOf];omega
  ·have e16:t=16:=by omega
   have d16:decide ((t:Int)<16)=false:=dF (by omega);have ajV:Hid (ig wr (w.heap.size+1) b 16 0):=by rw[<-e16];exact hS
   clear hS e16;go_wp2_with fail;go_loopw [5] (fun i wx=>∃ t:Nat,16<=t/\t<=64/\i= .int .i64 t/\Hid (ig wx (w.heap.size+1) b t 0)/\Hid (∃ cs,ak wx w.heap.size 166 cs/\cs.size=64)/\Hid (Below w.heap.size w wx)) (fun i _=>64-(intOf i).toNat)
   case atStart=>exact⟨16,aF _,by decide,rfl,ajV,hR,hB⟩
   case round=>
   clear ajV hR hB h16 ht d16;obtain⟨t,h16,ht,rfl,hS,hR,hB⟩:=hrel;by_cases h64:t<64
   ·have d64:decide (t<64)=true:=pW h64;have abk:decide ((t:Int)<64)=true:=pW (by omega);obtain⟨p,hp⟩:∃ p,p+16=t:=⟨t-16,by omega⟩;have r15:IntKind.i64.wrap ((t:Int)-15)=((p+1:Nat):Int):=by rw[show(t:Int)-15=((p+1:Nat):Int) by omega];exact i64_is _ (by omega)
    have r2:IntKind.i64.wrap ((t:Int)-2)=((p+14:Nat):Int):=by rw[show(t:Int)-2=((p+14:Nat):Int) by omega];exact i64_is _ (by omega)
    have r16:IntKind.i64.wrap ((t:Int)-16)=(p:Int):=by rw[show(t:Int)-16=(p:Int) by omega];exact i64_is _ (by omega)
    have r7:IntKind.i64.wrap ((t:Int)-7)=((p+9:Nat):Int):=by rw[show(t:Int)-7=((p+9:Nat):Int) by omega];exact i64_is _ (by omega)
    have ZT:=(fB hS.out (p+1) (by omega)).1;have y2:=(fB hS.out (p+14) (by omega)).1;have y16:=(fB hS.out p (by omega)).1;have y7:=(fB hS.out (p+9) (by omega)).1;obtain⟨yt,ft⟩:=fB hS.out t (by omega);rw[if_pos (by omega)] at ZT y2 y16 y7;rw[if_neg (Nat.lt_irrefl t),if_pos rfl] at yt;have hsw:=zh (Xi b t (by omega) h64);rw[show t-16=p by omega,show t-15=p+1 by omega,show t-7=p+9 by omega,show t-2=p+14 by omega] at hsw;generalize sw b (p+1)=x15 at ZT hsw;generalize sw b (p+14)=x2 at y2 hsw;generalize sw b p=x16 at y16 hsw;generalize sw b (p+9)=x7 at y7 hsw;obtain⟨p15,abm⟩:∃ q,p+1=q:=⟨_,rfl⟩;obtain⟨p2,hp2⟩:∃ q,p+14=q:=⟨_,rfl⟩;obtain⟨p7,hp7⟩:∃ q,p+9=q:=⟨_,rfl⟩;rw[abm] at r15 ZT;rw[hp2] at r2 y2;rw[hp7] at r7 y7;have b15:¬ 64<=(p15:Int):=by omega
    have b2:¬ 64<=(p2:Int):=by omega
    have b16:¬ 64<=(p:Int):=by omega
    have b7:¬ 64<=(p7:Int):=by omega
    have n15:p15<64:=by omega
    have n2:p2<64:=by omega
    have n16:p<64:=by omega
    have n7:p7<64:=by omega
    have ad2:=zh h16;clear hp abm hp2 hp7 h16;have bt:¬ 64<=(t:Int):=by omega
    have s3:=Qw x15;have s10:=LG x2;go_wp2_with fail;refine yD (S:=(fun w'=>w'.cell? ⟨w.heap.size+1,p15,none⟩=some (ah x15))) (by kernel_rfl) ZT (fun zs=>?_);refine' tk 0 rfl zs ?_;refine' tk 1 rfl zs ?_;refine' tk 2 rfl zs ?_;refine' tk 3 rfl zs ?_;refine' tk 5 rfl zs ?_;refine' tk 6 rfl zs ?_;refine' tk 7 rfl zs ?_;refine' tk 8 rfl zs ?_;refine' tk 11 rfl zs ?_;refine' tk 12 rfl zs ?_;refine' tk 13 rfl zs ?_;refine' tk 14 rfl zs ?_;refine' tk 15 rfl zs ?_;refine td 4 rfl (fun K hK=>?_);go_simp;go_at_call 114;refine(lZ _ x15 7 25 (by decide) (by decide) rfl).mono ?_;rintro e wz1 ⟨rfl,q1,rfl⟩;go_wp2_with fail;refine hK.out _ _ (ZT) (fun zs=>?_);clear hK K;try simp only[sA,gA]
    refine td 9 rfl (fun K hK=>?_);go_simp;go_at_call 114;refine(lZ _ x15 18 14 (by decide) (by decide) rfl).mono ?_;rintro e wz2 ⟨rfl,q2,rfl⟩;go_wp2_with fail;refine hK.out _ _ (ZT) (fun zs=>?_);clear hK K;try simp only[sA,gA]
    refine' tk 10 rfl zs ?_;refine' tk 16 rfl zs ?_;refine' tk 17 rfl zs ?_;refine wZ (by kernel_rfl) ?_ _;clear zs;go_upto_region 10 with fail;refine aX (P:=fun W=>Code.wp _ _ _ _ W) (fun wq hq=>?_);have hSq:Hid (ig wq (w.heap.size+1) b t 0):=by unfold Hid;rw[<-hq];exact hS.out
    have hRq:Hid (∃ cs,ak wq w.heap.size 166 cs/\cs.size=64):=by unfold Hid;rw[<-hq];exact hR.out
    have hBq:Hid (Below w.heap.size w wq):=by unfold Hid;rw[<-hq];exact qA hB.out _
    have z2:wq.cell? ⟨w.heap.size+1,p2,none⟩=some (ah x2):=by rw[<-hq];exact y2
    have Kt:wq.cell? ⟨w.heap.size+1,p,none⟩=some (ah x16):=by rw[<-hq];exact y16
    have z7:wq.cell? ⟨w.heap.size+1,p7,none⟩=some (ah x7):=by rw[<-hq];exact y7
    have zt:wq.cell? ⟨w.heap.size+1,t,none⟩=some (ah 0):=by rw[<-hq];exact yt
    have zf:wq.frozen? ⟨w.heap.size+1,t,none⟩=false:=by rw[<-hq];exact ft
    clear hq ZT y2 y16 y7 yt ft hS hR hB s3;have y2:=z2;clear z2;refine yD (S:=(fun w'=>w'.cell? ⟨w.heap.size+1,p2,none⟩=some (ah x2))) (by kernel_rfl) y2 (fun zs=>?_);refine' tk 0 rfl zs ?_;refine' tk 1 rfl zs ?_;refine' tk 2 rfl zs ?_;refine' tk 3 rfl zs ?_;refine' tk 5 rfl zs ?_;refine' tk 6 rfl zs ?_;refine' tk 7 rfl zs ?_;refine' tk 8 rfl zs ?_;refine' tk 11 rfl zs ?_;refine' tk 12 rfl zs ?_;refine' tk 13 rfl zs ?_;refine' tk 14 rfl zs ?_;refine' tk 15 rfl zs ?_;refine td 4 rfl (fun K hK=>?_);go_simp;go_at_call 114;refine(lZ _ x2 17 15 (by decide) (by decide) rfl).mono ?_;rintro e wz1 ⟨rfl,q1,rfl⟩;go_wp2_with fail;refine hK.out _ _ (y2) (fun zs=>?_);clear hK K;try simp only[sA,gA]
    refine td 9 rfl (fun K hK=>?_);go_simp;go_at_call 114;refine(lZ _ x2 19 13 (by decide) (by decide) rfl).mono ?_;rintro e wz2 ⟨rfl,q2,rfl⟩;go_wp2_with fail;refine hK.out _ _ (y2) (fun zs=>?_);clear hK K;try simp only[sA,gA]
    refine' tk 10 rfl zs ?_;refine' tk 16 rfl zs ?_;refine' tk 17 rfl zs ?_;refine wZ (by kernel_rfl) ?_ _;clear zs;go_upto_region 11 with fail;refine aX (P:=fun W=>Code.wp _ _ _ _ W) (fun wk hk=>?_);have hS2:Hid (ig wk (w.heap.size+1) b t 0):=by unfold Hid;rw[<-hk];exact hSq.out
    have hR2:Hid (∃ cs,ak wk w.heap.size 166 cs/\cs.size=64):=by unfold Hid;rw[<-hk];exact hRq.out
    have hB3:Hid (Below w.heap.size w wk):=by unfold Hid;rw[<-hk];exact qA hBq.out _
    have y16:wk.cell? ⟨w.heap.size+1,p,none⟩=some (ah x16):=by rw[<-hk];exact Kt
    have y7:wk.cell? ⟨w.heap.size+1,p7,none⟩=some (ah x7):=by rw[<-hk];exact z7
    have yt:wk.cell? ⟨w.heap.size+1,t,none⟩=some (ah 0):=by rw[<-hk];exact zt
    have ft:wk.frozen? ⟨w.heap.size+1,t,none⟩=false:=by rw[<-hk];exact zf
    clear hk y2 Kt z7 zt zf hSq hRq hBq s10;have q1:dI (dI (rotl x15 25) (rotl x15 14)) (wB x15 3)=sg0 x15:=rfl;have q2:dI (dI (rotl x2 15) (rotl x2 13)) (wB x2 10)=sg1 x2:=rfl;rw[q1,q2];clear q1 q2;generalize sg0 x15=g0 at *;generalize sg1 x2=g1 at *;have a1:=mW x16 g0;have a2:=mW (aT x16 g0) x7;have a3:=mW (aT (aT x16 g0) x7) g1;have a1':=jC x16 g0;have a2':=jC (aT x16 g0) x7;have a3':=jC (aT (aT x16 g0) x7) g1
    go_region
    clear a1 a2 a3 a1' a2' a3' y16 y7 yt ft;have Yz:Hid (ig (wk.setCell ⟨w.heap.size+1,t,none⟩ (ah (aT (aT (aT x16 g0) x7) g1))).drew (w.heap.size+1) b (t+1) 0):=by
     have e:=sN (c:=aT (aT (aT x16 g0) x7) g1) hS2.out h64;rw[<-hsw.out] at e ⊢;exact qB e
    have xZ:Hid (∃ cs,ak (wk.setCell ⟨w.heap.size+1,t,none⟩ (ah (aT (aT (aT x16 g0) x7) g1))).drew w.heap.size 166 cs/\cs.size=64):=by
     obtain⟨cs,h1,h2⟩:=hR2.out;exact⟨cs,(h1.grown (bC wk (w.heap.size+1) t _) (by simp)).drew,h2⟩
    have hBn:Hid (Below w.heap.size w (wk.setCell ⟨w.heap.size+1,t,none⟩ (ah (aT (aT (aT x16 g0) x7) g1))).drew):=(hB3.out.setCell (p:=⟨w.heap.size+1,t,none⟩) (by show _<=w.heap.size+1;omega) _).drew;go_wp2_with fail;go_roundw
    case rel=>exact⟨t+1,Nat.le_succ_of_le ad2.out,by omega,by go_num,Yz,xZ,hBn⟩
    case measure=>simp[intOf];omega
   ·obtain rfl:t=64:=by omega
    have d64:decide (((64:Nat):Int)<64)=false:=by decide
    have hld:=zh (Hq hS.out);obtain⟨cs,hb1,hb2⟩:=hR.out;have hb3:=zh hb1;have hb4:=zh hb2;have yc:=zh (rG b);clear hR hS hb1 hb2;go_wp2_with (first | (refine wpList_load_mid rfl 166 _ rfl (w.heap.size+1) 0 rfl (fF b) _ hld.out Tryz.underlying166 rfl (by rw[yc.out];exact qC) ?_) | (refine wpList_store_mid rfl 166 _ _ rfl w.heap.size 0 (fF b).toArray rfl rfl (aU hb3.out (by rw[hb4.out,mG,yc.out];omega)) (by rw[mG,yc.out];exact qC) (su _ _ (fun a=>BO _)) ?_));exact bU (bF (P:=Tryz.prog) rfl _ _ w.heap.size 166 (fF b).toArray _ rfl (aW hb3.out (fF b) (by rw[yc.out,hb4.out])) Tryz.underlying166 rfl (by rw[mG,yc.out];exact qC)) rfl ⟨rfl,below_setCells (aF _) _ _ _ hB.out⟩
end
section
open Go.RowKit Go.Shelf
attribute [local go_sem] Oper.semAt_some
theorem Uw (w:World):dD (w.alloc (.cells #[] 5)) w.heap.size (.slice (some ⟨w.heap.size,0,none⟩) 0 0) []:=
 ⟨rfl,.inr ⟨w.heap.size,0,#[],rfl,aF _,heap_alloc_new w _,aF _,iT _,rfl,rfl⟩⟩
def Ht (b:List UInt8) (j:Nat):List UInt8:=b++pG j
theorem BP (b:List UInt8) (j:Nat):(Ht b j).length=b.length+(j+1):=by unfold Ht;rw[kM,zl]
theorem YA (b:List UInt8) (j:Nat):Ht b (j+1)=Ht b j++ [0]:=by unfold Ht;rw[Hy,Em]
def BQ (b:List UInt8) (i:Nat):List UInt8:=Ht b (dP b.length)++(zL (8*b.length)).take i
theorem Qx (b:List UInt8) (i:Nat) (h:i<=8):(BQ b i).length=b.length+(dP b.length+1)+i:=by unfold BQ;rw[kM,BP,ou,uT,Gm h]
theorem YB (b:List UInt8) (i:Nat) (h:i<8):BQ b (i+1)=BQ b i++ [UInt8.ofNat (8*b.length/2^(56-8*i))]:=by unfold BQ;rw[LH _ _ h,Em]
theorem abn (b:List UInt8) (h:b.length<100000000000):BQ b 8=b++uU b.length:=by
 unfold BQ Ht uU pG;rw[uo (Nat.le_of_eq (uT _)),Nat.mod_eq_of_lt (by omega),Em];rfl
theorem NS {w:World} {base:Nat} {v:Value} {l:List UInt8} {T:Nat} (h:dD w base v l) (hT:l.length=T):∃ A c,v= .slice A T c:=by
 obtain⟨A,c,e⟩:=h.any;exact⟨A,c,by rw[e,hT]⟩
theorem Ux (w:World) (bb bo c N:Nat) (b:List UInt8) (hN:b.length=N) (hb:BytesAt w bb bo b) (hlen:N<10000000000):
  Calls Tryz.prog 112 #[.slice (some ⟨bb,bo,none⟩) N c] w fun e w'=>∃ v',e= .returned v'/\dD w' w.heap.size v' (b++uU N)/\Below w.heap.size w w':=by
 have hfin:Hid (BQ b 8=b++uU N):=by unfold Hid;rw[abn b (by omega),hN]
 have hE:=Uw w;have hB0:Hid (Below w.heap.size w (w.alloc (.cells #[] 5))):=(bK _ w).alloc (aF _) _;have hbe:=hb.below ((bK _ w).alloc (aF _) (.cells #[] 5));have hbl:Hid (([]:List UInt8).length+b.length<100000000000):=by unfold Hid;rw[hN,zag];omega
 have ajW:Hid (([]++b).length<99999999999):=by unfold Hid;rw[GI,hN];omega
 have SX:=zh hN;have hsl:Value.slice (some ⟨bb,bo,none⟩) N c= .slice (some ⟨bb,bo,none⟩) b.length c:=by rw[hN]
 have BR:=zh hlen;have hEH:=zh hE;have ajX:=zh hbe;have ajY:=zh hsl;clear hE hbe hb hN hsl;have q0:IntKind.u64.wrap (N:Int)=(N:Int):=DX N (by omega);obtain⟨M,hM⟩:∃ M,8*N=M:=⟨_,rfl⟩;have q1:IntKind.u64.wrap (8*(N:Int))=(M:Int):=by rw[show 8*(N:Int)=(M:Int) by omega];exact DX M (by omega)
 have hMH:=zh hM;clear hM hlen;go_enter Tryz.func112,Tryz.ntmps112;go_upto_region 3 with(first
  | (at_builtin;refine mF rfl _ _ rfl w.heap.size v1 ([]++b) rfl hP1.row 1 128 rfl rfl ajW.out (hP1.bel _ _ (aF _) (by rw[oz];exact wW _) hB0.out).size ?_;intro v2 w2 hP2)
  | (at_builtin;refine Ae rfl _ _ rfl w.heap.size (.slice (some ⟨w.heap.size,0,none⟩) 0 0) [] rfl hEH.out bb bo c b ajY.out ajX.out hbl.out (by rw[oz];exact wW _) ?_;intro v1 w1 hP1)
  | fail)
 try simp only[Act.put,zq]
 have hB1:=hP1.bel _ _ (aF _) (by rw[oz];exact wW _) hB0.out;have hB2:=zh (hP2.bel _ _ (aF _) hB1.size hB1);have hR2:Hid (dD w2 w.heap.size v2 (Ht b 0)):=hP2.row;obtain⟨A,c2,rfl⟩:=NS hR2.out (T:=N+1) (by rw[BP,SX.out]);clear hP1 hP2 hB1 hB0 hEH ajX hbl ajW ajY;go_loopw [3] (fun v wr=>∃ (j T:Nat) (A:Option Addr) (c:Nat),v= .slice A T c/\Hid (T=N+(j+1))/\Hid (j<=dP N)/\Hid (dD wr w.heap.size v (Ht b j))/\Hid (Below w.heap.size w wr)) (fun v _=>N+70-rowLen v)
 case atStart=>exact⟨0,N+1,_,_,rfl,rfl,iT _,hR2,hB2⟩
 case round=>
  clear hR2 hB2;obtain⟨j,T,A,c,rfl,hT,hj,hR,hB⟩:=hrel;have hz:j<=63:=fU hj.out (by unfold dP;omega);obtain⟨r,hr⟩:∃ r,T % 64=r:=⟨_,rfl⟩;have q3:(T:Int) % 64=(r:Int):=by omega
  have q3':Int.tmod (T:Int) 64=(r:Int):=by rw[Int.tmod_eq_emod_of_nonneg (by omega)];exact q3
  by_cases hlt:j<dP N
  ·have q4:¬ r=56:=by
    have h1:=zV N j hlt;have h2:=hT.out;omega
   have q5:((r:Int) !=56)=true:=by rw[bne_iff_ne];omega
   have fG:=zh hlt;have hln:Hid ((Ht b j).length<99999999999):=by unfold Hid;rw[BP,SX.out];have:=BR.out;omega
   clear hr hlt;go_wp2_with (at_builtin;refine mF rfl _ _ rfl w.heap.size _ (Ht b j) rfl hR.out 1 0 rfl rfl hln.out hB.out.size ?_;intro v' w' hP;rw[<-YA] at hP;obtain⟨A2,c2,rfl⟩:=NS hP.row (T:=N+(j+1+1)) (by rw[BP,SX.out]));have hB2:=hP.bel _ _ (aF _) hB.out.size hB.out;refine⟨⟨j+1,N+(j+1+1),A2,c2,rfl,rfl,fG.out,hP.row,hB2⟩,?_⟩;show N+70-(N+(j+1+1))<N+70-T
   have:=hT.out;omega
  ·have hjz:Hid (j=dP N):=zap hj.out (Ep hlt);have q4:r=56:=by
    have h1:=wC N;have h2:=hT.out;rw[hjz.out] at h2;omega
   have q5:((r:Int) !=56)=false:=by rw[q4];rfl
   clear hr hlt q4;go_wp2_with fail;have hR1:Hid (dD wr w.heap.size (.slice A T c) (BQ b 0)):=by
    unfold BQ;rw[List.take_zero,List.append_nil,SX.out,<-hjz.out];exact hR
   have hB1:=hB;have hTz:Hid (T=N+(dP N+1)):=by unfold Hid;rw[hT.out,hjz.out]
   clear hR hB q3 q3' q5 hj hz hjz hT q0 q1;go_loopw [3,5] (fun p q wr=>∃ (i T:Nat) (A:Option Addr) (c:Nat),p= .slice A T c/\q= .int .i64 i/\Hid (T=N+(dP N+1)+i)/\Hid (i<=8)/\Hid (dD wr w.heap.size p (BQ b i))/\Hid (Below w.heap.size w wr)) (fun _ q _=>8-(intOf q).toNat)
   case atStart=>exact⟨0,T,A,c,rfl,rfl,hTz.out,iT _,hR1,hB1⟩
   case round=>
    clear hR1 hB1 hTz;obtain⟨i,T,A,c,rfl,rfl,hT,hi,hR,hB⟩:=hrel;by_cases hlt:i<8
    ·have d2:decide ((i:Int)<8)=true:=pW (by omega);obtain⟨e,he⟩:∃ e,8*i=e:=⟨_,rfl⟩;obtain⟨s,hs⟩:∃ s,56-e=s:=⟨_,rfl⟩;have q1:wrap64 (8*(i:Int))=(e:Int):=by rw[show 8*(i:Int)=(e:Int) by omega];exact pR e (by omega)
     have q2:wrap64 (56-(e:Int))=(s:Int):=by rw[show 56-(e:Int)=(s:Int) by omega];exact pR s (by omega)
     have s0:(0:Int)<=(s:Int):=by omega
     have s1:¬ (s:Int)<0:=by omega
     have s64:min s 64=s:=Gm (by omega);have hsn:=YB b i hlt;rw[SX.out,hMH.out,he,hs] at hsn;have hbv:=Ia M s;obtain⟨bx,hbx⟩:∃ bx,UInt8.ofNat (M/2^s)=bx:=⟨_,rfl⟩;rw[hbx] at hsn hbv;have xu:=zh hsn;have am1:=zh hbv;have fG:=zh hlt;have hln:Hid ((BQ b i).length<99999999999):=by
      unfold Hid;rw[Qx b i (by omega),SX.out];have h1:=BR.out;have h2:dP N<=63:=by unfold dP;omega
      omega
     have agN:Hid ((BQ b (i+1)).length=N+(dP N+1)+(i+1)):=by unfold Hid;rw[Qx b (i+1) (by omega),SX.out]
     clear hsn hbv hbx hlt he hs;go_wp2_with (at_builtin;refine mF rfl _ _ rfl w.heap.size _ (BQ b i) rfl hR.out 1 bx am1.out rfl hln.out hB.out.size ?_;intro v' w' hP;rw[<-xu.out] at hP;obtain⟨A2,c2,rfl⟩:=NS hP.row agN.out);have hB2:=hP.bel _ _ (aF _) hB.out.size hB.out;have hwi:wrap64 ((i:Int)+1)=((i+1:Nat):Int):=pR (i+1) (by have:=fG.out;omega);rw[hwi];refine⟨⟨i+1,_,A2,c2,rfl,rfl,rfl,fG.out,hP.row,hB2⟩,?_⟩;have:=fG.out;simp[intOf];omega
    ·obtain rfl:i=8:=by have:=hi.out;omega
     have d2:decide (((8:Nat):Int)<8)=false:=by decide
     have hR8:=hR.out;rw[hfin.out] at hR8;have hR9:=zh hR8;clear hR8 hR;go_wp2_with fail;go_ret;exact⟨_,rfl,hR9.out,hB.out⟩
end
section
open Go.RowKit Go.Shelf
theorem abf (x:UInt32):bits .xor .u32 (x.toNat:Int) 4294967295=((Uu x).toNat:Int):=by
 have h:=zQ x 4294967295;have e:dI x 4294967295=dI 4294967295 x:=by
  unfold dI;apply UInt32.toBitVec_inj.1;rw[UInt32.toBitVec_xor,UInt32.toBitVec_xor];exact BitVec.xor_comm _ _
 rw[e,Qv] at h;exact h
attribute [local go_sem] Oper.semAt_some zQ abg mW jC abf
structure uS (w wr:World) (g0 g3 mb:Nat) (P:List UInt8) (s:S8):Prop where
 res:∃ cs,ak wr g0 109 cs/\cs.size=32
 st:ak wr g3 113 (wQ s)
 msg:BytesAt wr mb 0 P
 bel:Below w.heap.size w wr
section
variable {w wr wy:World} {g0 g3 mb:Nat} {P:List UInt8} {s:S8}
theorem uS.below (h:uS w wr g0 g3 mb P s) (hB:Below wr.heap.size wr wy):uS w wy g0 g3 mb P s:=
 ⟨by obtain⟨cs,h1,h2⟩:=h.res;exact⟨cs,h1.below hB h1.lt,h2⟩,h.st.below hB h.st.lt,h.msg.below hB,h.bel.trans (hB.mono h.bel.size)⟩
theorem uS.drewN (h:uS w wr g0 g3 mb P s) (n:Nat):uS w (wr.drewN n) g0 g3 mb P s:=h.below (qA (bK _ _) n)
theorem uS.grown {g:Nat} (h:uS w wr g0 g3 mb P s) (hg:wr.grownBy wy (some g)) (h0:g0≠g) (h3:g3≠g) (hm:mb≠g) (hb:Below w.heap.size w wy):uS w wy g0 g3 mb P s:=
 ⟨by obtain⟨cs,h1,h2⟩:=h.res;exact⟨cs,h1.grown hg (by simpa using h0),h2⟩,h.st.grown hg (by simpa using h3),⟨rY h.msg.1 hg.size,fun i x hx=>by
  have h1:=h.msg.2 i x hx;have h2:=hg.block mb h.msg.1 (by simpa using hm);unfold World.cell? at h1 ⊢;rw[h2];exact h1⟩,hb⟩
end
end
section
open Go.RowKit Go.Shelf
attribute [local go_sem] Oper.semAt_some zQ abg mW jC abf
theorem am3 (t:Nat) (h:t<64):64-(t+1)<64-t:=by omega
theorem ad4 (s:S8):(wQ s).all (·.oneCell')=true:=by simp[wQ,Value.oneCell']
def YC (wr:World) (g:Nat) (s v:S8) (i:Nat):Prop:=∃ cs:Array Value,ak wr g 113 cs/\cs.size=8/\∀ j,j<8->cs[j]? =some (ah (if j<i then aT (s.get j) (v.get j) else s.get j))
theorem Uy {w:World} {g:Nat} {s:S8} (v:S8) (h:ak w g 113 (wQ s)):YC w g s v 0:=⟨_,h,rfl,fun j hj=>by rw[if_neg (Nat.not_lt_zero _)];exact yg s j hj⟩
theorem YD {w:World} {g:Nat} {s v:S8} {i:Nat} (h:YC w g s v i) (hi:i<8):YC (w.setCell ⟨g,i,none⟩ (ah (aT (s.get i) (v.get i)))).drew g s v (i+1):=by
 obtain⟨cs,h1,h2,h3⟩:=h;refine⟨_,(h1.aB i _).drew,by simp[h2],fun j hj=>?_⟩;rw[Array.getElem?_setIfInBounds];by_cases e:i=j
 ·subst e;rw[if_pos rfl,if_pos (by omega),if_pos (by omega)]
 ·rw[if_neg e,h3 j hj];by_cases e3:j<i
  ·rw[if_pos e3,if_pos (by omega)]
  ·rw[if_neg e3,if_neg (by omega)]
theorem YE {w:World} {g:Nat} {s v:S8} (h:YC w g s v 8):ak w g 113 (wQ (Qy s v)):=by
 obtain⟨cs,h1,h2,h3⟩:=h;have e:cs=wQ (Qy s v):=by
  apply Array.ext_getElem?;intro j;by_cases hj:j<8
  ·rw[h3 j hj,if_pos hj,yg _ j hj,Qz _ _ j hj]
  ·rw[Array.getElem?_eq_none (by omega),Array.getElem?_eq_none (by show 8<=j;omega)]
 rw[e] at h1;exact h1
theorem YF {P:List UInt8} {k:Nat} (h:64*(k+1)<=P.length):((P.drop (64*k)).take 64).length=64:=by rw[ou,rX];omega
theorem YG {w:World} {mb:Nat} {P:List UInt8} (h:BytesAt w mb 0 P) (u:Nat):BytesAt w mb u ((P.drop u).take 64):=by
 refine⟨h.1,fun i x hx=>?_⟩;rw[List.getElem?_take] at hx;split at hx
 ·rw[Nc] at hx;have:=h.2 _ x hx;rw[AZ] at this;exact this
 ·cases hx
theorem QA {w w':World} {mb bo g:Nat} {P:List UInt8} (h:BytesAt w mb bo P) (hg:w.grownBy w' (some g)) (hm:mb≠g):BytesAt w' mb bo P:=
 ⟨rY h.1 hg.size,fun i x hx=>by
  have h1:=h.2 i x hx;have h2:=hg.block mb h.1 (by simpa using hm);unfold World.cell? at h1 ⊢;rw[h2];exact h1⟩
theorem Ib (w:World) (bb bo c N:Nat) (b:List UInt8) (hN:b.length=N) (hb:BytesAt w bb bo b) (hlen:N<10000000000) (hK:lV w 0):
  Calls Tryz.prog 81 #[.slice (some ⟨bb,bo,none⟩) N c] w fun e w'=>e= .returned (.agg ((gU b).map aK).toArray)/\Below w.heap.size w w':=by
 have am4:Hid (∀ wx,Below w.heap.size w wx->Calls Tryz.prog 112 #[.slice (some ⟨bb,bo,none⟩) N c] wx fun e w'=>∃ v',e= .returned v'/\dD w' wx.heap.size v' (b++uU N)/\Below wx.heap.size wx w'):=fun wx hB=>Ux wx bb bo c N b hN (hb.below hB) hlen
 have hmod:=Uz b;have hPl:(b++uU N).length<=N+80:=by rw[kM,BU,hN];unfold dP;omega
 have am5:0<(b++uU N).length:=by rw[kM,BU];omega
 have hfin:Hid (gU b=digest (fC iv ((b++uU N).length/64) (b++uU N))):=by unfold Hid gU ad5;rw[hN]
 rw[hN] at hmod;generalize b++uU N=P at *;obtain⟨nb,hnb⟩:∃ nb,P.length/64=nb:=⟨_,rfl⟩;rw[hnb] at hfin;have hT:Hid (P.length=64*nb):=by unfold Hid;omega
 have hTs:Hid (P.length<20000000000):=by unfold Hid;omega
 have am6:Hid (0<nb):=by unfold Hid;omega
 have HK:=zh hK;clear hmod hPl am5 hnb hb hN hK hlen;go_enter Tryz.func81,Tryz.ntmps81;go_upto_region 2 with fail;refine aX (P:=fun W=>Code.wp _ _ _ _ W) (fun W1 hW1=>?_);have HR1:Hid (ak W1 w.heap.size 109 z32):=by unfold Hid;rw[<-hW1];exact(ak.new w 109 z32).alloc _
 have FU:Hid (ak W1 (w.heap.size+1) 113 (wQ iv)):=by unfold Hid;rw[<-hW1];exact uy w (.cells z32 109) 113 (wQ iv)
 have HB1:Hid (Below w.heap.size w W1):=by unfold Hid;rw[<-hW1];exact((bK _ w).alloc (aF _) _).alloc (by rw[oz];exact wW _) _
 clear hW1;obtain⟨g3,hg3⟩:∃ g,w.heap.size+1=g:=⟨_,rfl⟩;rw[hg3] at FU ⊢;go_upto_region 3 with(first | (go_at_call 112;refine(am4.out _ HB1.out).mono ?_;rintro e W2 ⟨v',rfl,hR,hB⟩;have HR2:=zh (HR1.out.below hB HR1.out.lt);have HS2:=zh (FU.out.below hB FU.out.lt);have HB2:=zh (HB1.out.trans (hB.mono HB1.out.size));have HM2:=zh hR;clear hR hB) | fail);obtain⟨mb,cap,e,ajZ,am7⟩:=HM2.out.slice (by intro e;have h1:=hT.out;have h2:=am6.out;rw[e,zag] at h1;omega);subst e;obtain⟨TT,hTT⟩:∃ T,P.length=T:=⟨_,rfl⟩;have hcap:Hid (P.length<=cap):=by
  rcases HM2.out.2 with⟨h1,_⟩ | ⟨g,cp,cur,h1,_,_,h2,_⟩
  ·cases h1
  ·cases h1;exact h2
 have HG2:Hid (uS w W2 w.heap.size g3 mb P (fC iv 0 P)):=⟨⟨_,HR2.out,rfl⟩,HS2.out,HM2.out.nN,HB2.out⟩;have hne:Hid (w.heap.size<g3/\g3<W1.heap.size/\W1.heap.size<=mb):=⟨by omega,FU.out.lt,ajZ⟩;have hTH:=zh hTT;rw[hTT] at hcap hT hTs ⊢;clear HR2 HS2 HM2 HB2 HR1 FU HB1 ajZ am7 hg3 hTT;go_wp2_with fail;go_loopw [5] (fun q wr=>∃ k u:Nat,q= .int .i64 u/\Hid (u=64*k/\k<=nb)/\Hid (uS w wr w.heap.size g3 mb P (fC iv k P))) (fun q _=>TT+64-(intOf q).toNat)
 case atStart=>exact⟨0,0,rfl,⟨rfl,iT _⟩,HG2⟩
 case round=>
  clear HG2;obtain⟨k,u,rfl,hu,hG⟩:=hrel;by_cases hkl:k<nb
  ·have d1:decide (u<TT)=true:=pW (by have:=hu.out.1;have:=hT.out;omega);have d1':decide ((u:Int)<(TT:Int))=true:=pW (by have:=hu.out.1;have:=hT.out;omega);obtain⟨u2,hu2⟩:∃ u2,u+64=u2:=⟨_,rfl⟩;have w2:wrap64 ((u:Int)+64)=(u2:Int):=by rw[show(u:Int)+64=(u2:Int) by omega];exact pR u2 (by have:=hu.out.1;have:=hT.out;have:=hTs.out;omega)
   have hsl:∀ wx,(Instr.slice 66 (.slice (some ⟨mb,0,none⟩) TT cap) (some (.int .i64 (u:Int))) (some (.int .i64 (u2:Int))) none).run Tryz.prog wx= .ok (.slice (some ⟨mb,u,none⟩) 64 (cap-u)) wx:=fun wx=>by
    have h:=agO mb 0 cap TT u u2 (by omega) (by have:=hu.out.1;have:=hT.out;omega) hcap.out wx;rw[AZ,show u2-u=64 by omega] at h;exact h
   obtain⟨B,hBk⟩:∃ B,(P.drop u).take 64=B:=⟨_,rfl⟩;have hBl:B.length=64:=by rw[<-hBk,hu.out.1];exact YF (by rw[hTH.out,hT.out];omega)
   have hnext:Hid (fC iv (k+1) P=rH (fC iv k P) B):=by unfold Hid;rw[ER,<-hu.out.1,hBk]
   have HWD:Hid (∀ wx,uS w wx w.heap.size g3 mb P (fC iv k P)->Calls Tryz.prog 113 #[.slice (some ⟨mb,u,none⟩) 64 (cap-u)] wx fun e w'=>e= .returned (.agg (fF B).toArray)/\Below wx.heap.size wx w'):=fun wx h=>Yy wx mb u (cap-u) B hBl (by rw[<-hBk];exact YG h.msg u)
   generalize fC iv k P=s at *;have hkH:=zh hkl;have yc:=zh (rG B);have LJ:Hid ((fF B).toArray.size=64):=by unfold Hid;rw[mG];exact yc.out
   have aj0:=zh hu2;have w2H:=zh w2;clear hkl hBk hBl hu2;go_upto_region 7 with(first
    | (refine wpList_store_mid rfl 166 _ _ rfl w3.heap.size 0 (fF B).toArray rfl rfl ?hA ?hB ?hC ?_;(case hA=>rw[LJ.out];exact aU (o:=0) (n:=64) (ak.new w3 166 z64) (by decide));(case hB=>rw[LJ.out];exact qC);(case hC=>exact su _ _ (fun a=>BO _));simp only[Act.put];refine aX (P:=fun W=>wpList _ _ _ _ _ W) (X:=(w3.alloc (.cells z64 166)).setCells w3.heap.size 0 (fF B)) (fun W4 Na=>?_))
    | (go_at_call 113;refine(HWD.out _ hG.out).mono ?_;rintro e w3 ⟨rfl,hB⟩;have hG3:=zh (hG.out.below hB);clear hB)
    | fail)
   have HW4:Hid (ak W4 w3.heap.size 166 (fF B).toArray):=by unfold Hid;rw[<-Na];exact aW (ak.new w3 166 z64) (fF B) (by rw[yc.out];rfl)
   have aj1:Below w3.heap.size w3 W4:=by rw[<-Na];exact below_setCells (aF _) _ _ _ ((bK _ w3).alloc (aF _) _)
   have hG4:=zh (hG3.out.below aj1);have hgw:Hid (w.heap.size<w3.heap.size/\g3<w3.heap.size/\mb<w3.heap.size):=⟨rY (by obtain⟨cs,h1,_⟩:=hG3.out.res;exact h1.lt) (aF _),hG3.out.st.lt,hG3.out.msg.1⟩;clear Na aj1 hG hG3 HWD hsl w2 d1 d1' LJ;obtain⟨gw,egw⟩:∃ g,w3.heap.size=g:=⟨_,rfl⟩;rw[egw] at HW4 hgw ⊢;clear egw;have s0:W4.cell? ⟨g3,0,none⟩=some (ah s.a):=hG4.out.st.cell 0;have s1:W4.cell? ⟨g3,1,none⟩=some (ah s.b):=hG4.out.st.cell 1;have s2:W4.cell? ⟨g3,2,none⟩=some (ah s.c):=hG4.out.st.cell 2;have s3:W4.cell? ⟨g3,3,none⟩=some (ah s.d):=hG4.out.st.cell 3;have s4:W4.cell? ⟨g3,4,none⟩=some (ah s.e):=hG4.out.st.cell 4;have s5:W4.cell? ⟨g3,5,none⟩=some (ah s.f):=hG4.out.st.cell 5;have s6:W4.cell? ⟨g3,6,none⟩=some (ah s.g):=hG4.out.st.cell 6;have s7:W4.cell? ⟨g3,7,none⟩=some (ah s.h):=hG4.out.st.cell 7
   go_upto_region 8 with fail;refine aX (P:=fun W=>Code.wp _ _ _ _ W) (fun W5 Dv=>?_);have HV5:Hid (ak W5 W4.heap.size 113 (wQ (iH s B 0))):=by unfold Hid;rw[<-Dv];exact ak.new W4 _ _
   have HW5:Hid (ak W5 gw 166 (fF B).toArray):=by unfold Hid;rw[<-Dv];exact HW4.out.alloc _
   have hG5:Hid (uS w W5 w.heap.size g3 mb P s):=by unfold Hid;rw[<-Dv];exact hG4.out.below ((bK _ W4).alloc (aF _) _)
   have hgv:Hid (w.heap.size<W4.heap.size/\g3<W4.heap.size/\mb<W4.heap.size/\gw<W4.heap.size/\gw≠W4.heap.size):=⟨by have:=hgw.out.1;have:=HW4.out.lt;omega,hG4.out.st.lt,hG4.out.msg.1,HW4.out.lt,Nat.ne_of_lt HW4.out.lt⟩;clear Dv s0 s1 s2 s3 s4 s5 s6 s7 HW4 hG4;obtain⟨gv,egv⟩:∃ g,W4.heap.size=g:=⟨_,rfl⟩;rw[egv] at HV5 hgv ⊢;clear egv;go_wp2_with fail;go_loopw [8] (fun q wx=>∃ t:Nat,t<=64/\q= .int .i64 t/\Hid (uS w wx w.heap.size g3 mb P s)/\Hid (ak wx gw 166 (fF B).toArray)/\Hid (ak wx gv 113 (wQ (iH s B t)))) (fun q _=>64-(intOf q).toNat)
   case atStart=>exact⟨0,iT _,rfl,hG5,HW5,HV5⟩
   case round=>
    clear hG5 HW5 HV5;obtain⟨t,ht,rfl,hG,hW,hV⟩:=hrel;by_cases h64:t<64
    ·have d64:decide (t<64)=true:=pW h64;have abk:decide ((t:Int)<64)=true:=pW (by omega);have t2:¬ 64<=(t:Int):=by omega
     have hstep:Hid (iH s B (t+1)=Ic (iH s B t) (kAt t) (sw B t)):=rfl;have hKx:=HK.out.below hG.out.bel;have ck:wr.cell? ⟨0,t,none⟩=some (ah (kAt t)):=by have h:=hKx.2 t _ (afC t h64);rw[AZ] at h;exact h
     have cw:wr.cell? ⟨gw,t,none⟩=some (ah (sw B t)):=by rw[hW.out.cell t,Ti];exact DY B t h64
     generalize iH s B t=v at *;obtain⟨v2,abo⟩:∃ v2,iH s B (t+1)=v2:=⟨_,rfl⟩;rw[abo] at hstep;have abo:=zh abo;generalize kAt t=kt at *;generalize sw B t=wt at *;have c0:wr.cell? ⟨gv,0,none⟩=some (ah v.a):=hV.out.cell 0;have c1:wr.cell? ⟨gv,1,none⟩=some (ah v.b):=hV.out.cell 1;have c2:wr.cell? ⟨gv,2,none⟩=some (ah v.c):=hV.out.cell 2;have c3:wr.cell? ⟨gv,3,none⟩=some (ah v.d):=hV.out.cell 3;have c4:wr.cell? ⟨gv,4,none⟩=some (ah v.e):=hV.out.cell 4;have c5:wr.cell? ⟨gv,5,none⟩=some (ah v.f):=hV.out.cell 5;have c6:wr.cell? ⟨gv,6,none⟩=some (ah v.g):=hV.out.cell 6;have c7:wr.cell? ⟨gv,7,none⟩=some (ah v.h):=hV.out.cell 7
     have agQ:=zh h64;clear hKx h64 ht;go_wp2_with fail;refine yD (S:=(fun w'=>w'.cell? ⟨gv,4,none⟩=some (ah v.e)/\w'.cell? ⟨gv,5,none⟩=some (ah v.f)/\w'.cell? ⟨gv,6,none⟩=some (ah v.g)/\w'.cell? ⟨gv,7,none⟩=some (ah v.h)/\w'.cell? ⟨0,t,none⟩=some (ah kt)/\w'.cell? ⟨gw,t,none⟩=some (ah wt))) (by kernel_rfl) ⟨c4,c5,c6,c7,ck,cw⟩ (fun zs=>?_);refine' tk 0 rfl zs ?_;refine' tk 1 rfl zs ?_;refine' tk 2 rfl zs ?_;refine' tk 3 rfl zs ?_;refine' tk 5 rfl zs ?_;refine' tk 6 rfl zs ?_;refine' tk 9 rfl zs ?_;refine' tk 10 rfl zs ?_;refine' tk 14 rfl zs ?_;refine' tk 15 rfl zs ?_;refine' tk 16 rfl zs ?_;refine' tk 17 rfl zs ?_;refine' tk 18 rfl zs ?_;refine' tk 19 rfl zs ?_;refine' tk 20 rfl zs ?_;refine' tk 21 rfl zs ?_;refine' tk 22 rfl zs ?_;refine' tk 23 rfl zs ?_;refine' tk 24 rfl zs ?_;refine' tk 25 rfl zs ?_;refine' tk 27 rfl zs ?_;refine' tk 28 rfl zs ?_;refine' tk 29 rfl zs ?_;refine' tk 31 rfl zs ?_;refine' tk 32 rfl zs ?_;refine' tk 33 rfl zs ?_;refine td 4 rfl (fun K hK=>?_);go_simp;go_at_call 114;refine(lZ _ v.e 6 26 (by decide) (by decide) rfl).mono ?_;rintro e wz1 ⟨rfl,q1,rfl⟩;go_wp2_with fail;refine hK.out _ _ (⟨c4,c5,c6,c7,ck,cw⟩) (fun zs=>?_);clear hK K;try simp only[sA,gA]
     refine td 7 rfl (fun K hK=>?_);go_simp;go_at_call 114;refine(lZ _ v.e 11 21 (by decide) (by decide) rfl).mono ?_;rintro e wz2 ⟨rfl,q2,rfl⟩;go_wp2_with fail;refine hK.out _ _ (⟨c4,c5,c6,c7,ck,cw⟩) (fun zs=>?_);clear hK K;try simp only[sA,gA]
     refine' tk 8 rfl zs ?_;refine td 11 rfl (fun K hK=>?_);go_simp;go_at_call 114;refine(lZ _ v.e 25 7 (by decide) (by decide) rfl).mono ?_;rintro e wz3 ⟨rfl,q3,rfl⟩;go_wp2_with fail;refine hK.out _ _ (⟨c4,c5,c6,c7,ck,cw⟩) (fun zs=>?_);clear hK K;try simp only[sA,gA]
     refine' tk 12 rfl zs ?_;refine' tk 13 rfl zs ?_;refine' tk 26 rfl zs ?_;refine' tk 30 rfl zs ?_;refine' tk 34 rfl zs ?_;refine' tk 35 rfl zs ?_;refine wZ (by kernel_rfl) ?_ _;clear zs;have qx:aT (aT (aT (aT v.h (dI (dI (rotl v.e 26) (rotl v.e 21)) (rotl v.e 7))) (dI (wand v.e v.f) (wand (Uu v.e) v.g))) kt) wt=rx v kt wt:=rfl;go_upto_region 12 with fail;rw[qx];clear qx ck cw c4 c5 c6 c7 c0 c1 c2 c3;refine aX (P:=fun W=>Code.wp _ _ _ _ W) (fun wq hq=>?_);have hGq:Hid (uS w wq w.heap.size g3 mb P s):=by unfold Hid;rw[<-hq];exact hG.out.drewN _
     have hWq:Hid (ak wq gw 166 (fF B).toArray):=by unfold Hid;rw[<-hq];exact hW.out
     have hVq:Hid (ak wq gv 113 (wQ v)):=by unfold Hid;rw[<-hq];exact hV.out
     clear hq hG hW hV;have c0:wq.cell? ⟨gv,0,none⟩=some (ah v.a):=hVq.out.cell 0;have c1:wq.cell? ⟨gv,1,none⟩=some (ah v.b):=hVq.out.cell 1;have c2:wq.cell? ⟨gv,2,none⟩=some (ah v.c):=hVq.out.cell 2
     generalize hX:rx v kt wt=X at *;refine yD (S:=(fun w'=>w'.cell? ⟨gv,0,none⟩=some (ah v.a)/\w'.cell? ⟨gv,1,none⟩=some (ah v.b)/\w'.cell? ⟨gv,2,none⟩=some (ah v.c))) (by kernel_rfl) ⟨c0,c1,c2⟩ (fun zs=>?_);refine' tk 0 rfl zs ?_;refine' tk 1 rfl zs ?_;refine' tk 3 rfl zs ?_;refine' tk 4 rfl zs ?_;refine' tk 7 rfl zs ?_;refine' tk 8 rfl zs ?_;refine' tk 11 rfl zs ?_;refine' tk 12 rfl zs ?_;refine' tk 13 rfl zs ?_;refine' tk 14 rfl zs ?_;refine' tk 15 rfl zs ?_;refine' tk 16 rfl zs ?_;refine' tk 17 rfl zs ?_;refine' tk 18 rfl zs ?_;refine' tk 19 rfl zs ?_;refine' tk 20 rfl zs ?_;refine' tk 21 rfl zs ?_;refine' tk 22 rfl zs ?_;refine' tk 23 rfl zs ?_;refine' tk 24 rfl zs ?_;refine' tk 25 rfl zs ?_;refine' tk 26 rfl zs ?_;refine' tk 27 rfl zs ?_;refine td 2 rfl (fun K hK=>?_);go_simp;go_at_call 114;refine(lZ _ v.a 2 30 (by decide) (by decide) rfl).mono ?_;rintro e wz1 ⟨rfl,q1,rfl⟩;go_wp2_with fail;refine hK.out _ _ (⟨c0,c1,c2⟩) (fun zs=>?_);clear hK K;try simp only[sA,gA]
     refine td 5 rfl (fun K hK=>?_);go_simp;go_at_call 114;refine(lZ _ v.a 13 19 (by decide) (by decide) rfl).mono ?_;rintro e wz2 ⟨rfl,q2,rfl⟩;go_wp2_with fail;refine hK.out _ _ (⟨c0,c1,c2⟩) (fun zs=>?_);clear hK K;try simp only[sA,gA]
     refine' tk 6 rfl zs ?_;refine td 9 rfl (fun K hK=>?_);go_simp;go_at_call 114;refine(lZ _ v.a 22 10 (by decide) (by decide) rfl).mono ?_;rintro e wz3 ⟨rfl,q3,rfl⟩;go_wp2_with fail;refine hK.out _ _ (⟨c0,c1,c2⟩) (fun zs=>?_);clear hK K;try simp only[sA,gA]
     refine' tk 10 rfl zs ?_;refine' tk 28 rfl zs ?_;refine' tk 29 rfl zs ?_;refine wZ (by kernel_rfl) ?_ _;clear zs;have qy:aT (dI (dI (rotl v.a 30) (rotl v.a 19)) (rotl v.a 10)) (dI (dI (wand v.a v.b) (wand v.a v.c)) (wand v.b v.c))=ry v:=rfl;go_upto_region 13 with fail;rw[qy];clear qy c0 c1 c2;refine aX (P:=fun W=>Code.wp _ _ _ _ W) (fun wk hk=>?_);have hGk:Hid (uS w wk w.heap.size g3 mb P s):=by unfold Hid;rw[<-hk];exact hGq.out.drewN _
     have hWk:Hid (ak wk gw 166 (fF B).toArray):=by unfold Hid;rw[<-hk];exact hWq.out
     have hVk:Hid (ak wk gv 113 (wQ v)):=by unfold Hid;rw[<-hk];exact hVq.out
     clear hk hGq hWq hVq;have c0:wk.cell? ⟨gv,0,none⟩=some (ah v.a):=hVk.out.cell 0;have c1:wk.cell? ⟨gv,1,none⟩=some (ah v.b):=hVk.out.cell 1;have c2:wk.cell? ⟨gv,2,none⟩=some (ah v.c):=hVk.out.cell 2;have c3:wk.cell? ⟨gv,3,none⟩=some (ah v.d):=hVk.out.cell 3;have c4:wk.cell? ⟨gv,4,none⟩=some (ah v.e):=hVk.out.cell 4;have c5:wk.cell? ⟨gv,5,none⟩=some (ah v.f):=hVk.out.cell 5;have c6:wk.cell? ⟨gv,6,none⟩=some (ah v.g):=hVk.out.cell 6
     generalize hY:ry v=Y at *;have a1:=mW X Y;have a2:=mW v.d X;have a1':=jC X Y;have a2':=jC v.d X;have hone:=zh (ad4 ⟨aT X Y,v.a,v.b,v.c,aT v.d X,v.e,v.f,v.g⟩);have hv2:Hid (v2=⟨aT X Y,v.a,v.b,v.c,aT v.d X,v.e,v.f,v.g⟩):=by unfold Hid;rw[hstep.out];unfold Ic;rw[hX,hY]
     clear hX hY hstep;go_wp2_with (first
      | (refine wpList_store_mid rfl 113 _ _ rfl gv 0 #[ah (aT X Y),ah v.a,ah v.b,ah v.c,ah (aT v.d X),ah v.e,ah v.f,ah v.g] rfl rfl (aU (o:=0) hVk.out (aF _)) abp hone.out ?_;simp only[Act.put];refine aX (P:=fun W=>wpList _ _ _ _ _ W) (X:=wk.setCells gv 0 [ah (aT X Y),ah v.a,ah v.b,ah v.c,ah (aT v.d X),ah v.e,ah v.f,ah v.g]) (fun wn hn=>?_);have hVn:Hid (ak wn gv 113 (wQ v2)):=(by unfold Hid;rw[<-hn,hv2.out];exact aW hVk.out [ah (aT X Y),ah v.a,ah v.b,ah v.c,ah (aT v.d X),ah v.e,ah v.f,ah v.g] rfl);have hgn:wk.grownBy wn (some gv):=(by rw[<-hn];exact kT gv _ 0 wk);have hWn:=zh (hWk.out.grown hgn (by simpa using hgv.out.2.2.2.2));have hGn:=zh (hGk.out.grown hgn (Nat.ne_of_lt hgv.out.1) (Nat.ne_of_lt hgv.out.2.1) (Nat.ne_of_lt hgv.out.2.2.1) (by rw[<-hn];exact below_setCells (Nat.le_of_lt hgv.out.1) _ 0 _ hGk.out.bel));clear hn hgn)
      | fail)
     have hwt:wrap64 ((t:Int)+1)=((t+1:Nat):Int):=pR (t+1) (by have:=agQ.out;omega);have aj3:Hid (ak wn gv 113 (wQ (iH s B (t+1)))):=by unfold Hid;rw[abo.out];exact hVn.out
     clear hVn hv2 abo;go_roundw
     case rel=>exact⟨t+1,agQ.out,by first | (rw[hwt];done) | go_num,hGn,hWn,aj3⟩
     case measure=>
      clear hGn hWn aj3 hone;have hm:64-(t+1)<64-t:=am3 t agQ.out;try rw[hwt]
      exact hm
    ·have d64:decide (t<64)=false:=dF h64;have abk:decide ((t:Int)<64)=false:=dF (by omega);have e64:t=64:=by omega
     have aj6:Hid (ak wr gv 113 (wQ (iH s B 64))):=by rw[<-e64];exact hV
     have hcomp:Hid (rH s B=Qy s (iH s B 64)):=rfl;rw[hcomp.out] at hnext;clear hV hW e64 hcomp;generalize iH s B 64=v at *;have hG0:Hid (uS w wr w.heap.size g3 mb P s):=hG;have hS0:Hid (YC wr g3 s v 0):=Uy v hG.out.st;have hR0:=zh hG.out.res;have hM0:=zh hG.out.msg;have hB0:=zh hG.out.bel;clear hG hG0;go_upto_region 15 with fail;go_loopw [11] (fun q wx=>∃ i:Nat,i<=8/\q= .int .i64 i/\Hid (YC wx g3 s v i)/\Hid (ak wx gv 113 (wQ v))/\Hid (∃ cs,ak wx w.heap.size 109 cs/\cs.size=32)/\Hid (BytesAt wx mb 0 P)/\Hid (Below w.heap.size w wx)) (fun q _=>8-(intOf q).toNat)
     case atStart=>exact⟨0,iT _,rfl,hS0,aj6,hR0,hM0,hB0⟩
     case round=>
      clear hS0 aj6 hR0 hM0 hB0;obtain⟨i,hi,rfl,hS,hV,hR,hM,hB⟩:=hrel;by_cases h8:i<8
      ·have d8:decide ((i:Int)<8)=true:=pW (by omega);have t2:¬ 8<=(i:Int):=by omega
       obtain⟨cs,q1,q2,q3⟩:=hS.out;have c1:wr.cell? ⟨g3,i,none⟩=some (ah (s.get i)):=by rw[q1.cell i,q3 i h8,if_neg (Nat.lt_irrefl i)]
       have f1:=q1.frozen i;have c2:wr.cell? ⟨gv,i,none⟩=some (ah (v.get i)):=by rw[hV.out.cell i];exact yg v i h8
       have h8H:=zh h8;have a1:=mW (s.get i) (v.get i);have a1':=jC (s.get i) (v.get i);have Yz:=zh (YD hS.out h8);clear q1 q2 q3 hi;generalize s.get i=x at *;generalize v.get i=y at *;go_wp2_with fail
       go_region
       have hgn:wr.grownBy (wr.setCell ⟨g3,i,none⟩ (ah (aT x y))).drew (some g3):=(let h:=bC wr g3 i (ah (aT x y));⟨h.os,h.tape,h.output,h.size,h.block⟩);have hVn:=zh (hV.out.grown hgn (by simpa using Nat.ne_of_gt hgv.out.2.1));have xZ:Hid (∃ cs,ak (wr.setCell ⟨g3,i,none⟩ (ah (aT x y))).drew w.heap.size 109 cs/\cs.size=32):=by obtain⟨cs,h1,h2⟩:=hR.out;exact⟨cs,h1.grown hgn (by simpa using Nat.ne_of_lt hne.out.1),h2⟩
       have hBn:Hid (Below w.heap.size w (wr.setCell ⟨g3,i,none⟩ (ah (aT x y))).drew):=(hB.out.setCell (p:=⟨g3,i,none⟩) (Nat.le_of_lt hne.out.1) _).drew;have hMn:Hid (BytesAt (wr.setCell ⟨g3,i,none⟩ (ah (aT x y))).drew mb 0 P):=QA hM.out hgn (by have:=hne.out;omega);clear hgn a1 a1' c1 c2 f1 hS hV hR hM hB;go_wp2_with fail;have hwi:wrap64 ((i:Int)+1)=((i+1:Nat):Int):=pR (i+1) (by have:=h8H.out;omega);go_roundw
       case rel=>exact⟨i+1,h8H.out,by first | (rw[hwi];done) | go_num,Yz,hVn,xZ,hMn,hBn⟩
       case measure=>
        have:=h8H.out;simp[intOf];omega
      ·have d8:decide ((i:Int)<8)=false:=dF (by omega);have e8:i=8:=by omega
       have hG2:Hid (uS w wr w.heap.size g3 mb P (Qy s v)):=⟨hR.out,YE (by have h:=hS.out;rw[e8] at h;exact h),hM.out,hB.out⟩;clear hS hV hR hM hB e8 h8 hi;go_wp2_with fail;have hG3:Hid (uS w wr w.heap.size g3 mb P (fC iv (k+1) P)):=by unfold Hid;rw[hnext.out];exact hG2.out
       have hu3:Hid (u2=64*(k+1)/\k+1<=nb):=⟨by have h1:=hu.out.1;have h2:=aj0.out;omega,hkH.out⟩;have hwu:=w2H.out;clear hG2 hnext;go_roundw
       case rel=>exact⟨k+1,u2,by rw[hwu],hu3,hG3⟩
       case measure=>
        clear hG3;have hm:TT+64-u2<TT+64-u:=by have h1:=hu.out.1;have h2:=hT.out;have h3:=hkH.out;have h4:=aj0.out;omega
        rw[hwu];exact hm
  ·have hk:k=nb:=by have:=hu.out.2;omega
   have d1:decide (u<TT)=false:=dF (by have:=hu.out.1;have:=hT.out;omega);have d1':decide ((u:Int)<(TT:Int))=false:=dF (by have:=hu.out.1;have:=hT.out;omega);have hG2:Hid (uS w wr w.heap.size g3 mb P (fC iv nb P)):=by rw[<-hk];exact hG
   clear hG hu hk hkl;generalize fC iv nb P=s at *;go_upto_region 19 with fail;refine aX (P:=fun W=>Code.wp _ _ _ _ W) (fun W5 Dv=>?_);have hO5:Hid (sF W5 wr.heap.size 109 (digest s) 32 0):=by unfold Hid;rw[<-Dv];exact ak.new wr _ _
   have hS5:Hid (ak W5 g3 113 (wQ s)):=by unfold Hid;rw[<-Dv];exact hG2.out.st.alloc _
   have hR5:Hid (∃ cs,ak W5 w.heap.size 109 cs/\cs.size=32):=by unfold Hid;rw[<-Dv];obtain⟨cs,h1,h2⟩:=hG2.out.res;exact⟨cs,h1.alloc _,h2⟩
   have oZ:Hid (Below w.heap.size w W5):=by unfold Hid;rw[<-Dv];exact hG2.out.bel.alloc hG2.out.bel.size _
   have ad7:Hid (w.heap.size<wr.heap.size/\g3<wr.heap.size):=⟨by obtain⟨cs,h1,_⟩:=hG2.out.res;exact h1.lt,hG2.out.st.lt⟩;have hdl:=zh (rC s);clear Dv hG2 d1 d1';obtain⟨ob,hob⟩:∃ ob,wr.heap.size=ob:=⟨_,rfl⟩;rw[hob] at hO5 ad7 ⊢;clear hob;go_wp2_with fail;go_loopw [13] (fun q wr=>∃ t:Nat,q= .int .i64 t/\Hid (t<=32)/\Hid (sF wr ob 109 (digest s) 32 t)/\Hid (ak wr g3 113 (wQ s))/\Hid (∃ cs,ak wr w.heap.size 109 cs/\cs.size=32)/\Hid (Below w.heap.size w wr)) (fun q _=>32-(intOf q).toNat)
   case atStart=>exact⟨0,rfl,iT _,hO5,hS5,hR5,oZ⟩
   case round=>
    clear hO5 hS5 hR5 oZ;obtain⟨t,rfl,ht,hO,hst,hr,hB⟩:=hrel;by_cases hlt:t<32
    ·have d1:decide (t<32)=true:=pW hlt;have d2:decide ((t:Int)<32)=true:=pW (by omega);obtain⟨a,ha⟩:∃ a,t/4=a:=⟨_,rfl⟩;obtain⟨b4,hb4⟩:∃ b,t % 4=b:=⟨_,rfl⟩;have z1:(t:Int)/4=(a:Int):=by omega
     have z2:(t:Int) % 4=(b4:Int):=by omega
     have z3:a<8:=by omega
     have z4:b4<4:=by omega
     have z5:(a:Int)<8:=by omega
     have z6:(b4:Int)<4:=by omega
     have cw:wr.cell? ⟨g3,a,none⟩=some (ah (s.get a)):=by rw[hst.out.cell a];exact yg s a z3
     have hfz:=ak.frozen hO.out t;obtain⟨oc,hoc⟩:∃ oc,wr.cell? ⟨ob,t,none⟩=some oc:=by
      have:=ak.cell hO.out t;rw[this];exact⟨_,ZO (by rw[Gi hdl.out ht];exact hlt)⟩
     have hx:=LK s t hlt;rw[ha,hb4] at hx;have hv:=Ia (s.get a).toNat (24-8*b4);have hxH:=zh hx;have hvH:=zh hv;have fG:=zh hlt;clear hx hv ha hb4;go_wp2_with fail;refine⟨⟨t+1,by go_num,fG.out,?_,?_,?_,?_⟩,?_⟩
     ·unfold Hid;rw[hvH.out];exact sF.aB hO.out hdl.out fG.out _ hxH.out
     ·exact ak.grown hst.out (bC _ _ _ _) (by simpa using Nat.ne_of_lt ad7.out.2)
     ·obtain⟨cs,h1,h2⟩:=hr.out;exact⟨cs,ak.grown h1 (bC _ _ _ _) (by simpa using Nat.ne_of_lt ad7.out.1),h2⟩
     ·exact Below.setCell (p:=⟨ob,t,none⟩) hB.out (Nat.le_of_lt ad7.out.1) _
     ·have:=fG.out;simp[intOf];omega
    ·have d1:decide (t<32)=false:=dF hlt;have d2:decide ((t:Int)<32)=false:=dF (by omega);have e32:t=32:=zap ht (Ep hlt);have hO2:Hid (ak wr ob 109 ((digest s).map aK).toArray):=by
      have h:=hO.out;rw[e32] at h;exact sF.done h hdl.out
     have hlD:Hid (((digest s).map aK).length=32):=by unfold Hid;rw[lq];exact hdl.out
     have hoD:Hid (∀ v ∈ (digest s).map aK,v.oneCell'=true):=kF _;have aj8:Hid ((gU b).map aK=(digest s).map aK):=by unfold Hid;rw[hfin.out]
     generalize (digest s).map aK=DG at *;have agS:=dZ hO2.out;obtain⟨cs,hr1,hr2⟩:=hr.out;have aj9:=zh hr1;have akb:=zh hr2;clear hO e32 hlt ht hst hr hr1 hr2;go_wp2_with (first | (refine wpList_load_mid rfl 109 _ rfl ob 0 rfl DG _ agS Tryz.underlying109 rfl ?hI1 ?_) | (refine wpList_store_mid rfl 109 _ _ rfl w.heap.size 0 DG.toArray rfl rfl ?hI2 ?Dx ?SN ?_) | fail)
     case hI1=>rw[hlD.out];exact zn
     case hI2=>rw[hlD.out];exact aU (o:=0) aj9.out (by rw[akb.out];exact aF _)
     case Dx=>rw[hlD.out];exact zn
     case SN=>exact hoD.out
     have hL:=aW aj9.out DG (by rw[hlD.out,akb.out]);have hBL:=below_setCells (g:=w.heap.size) (aF _) DG 0 _ hB.out;rw[aj8.out];exact bU (bF (P:=Tryz.prog) rfl _ _ w.heap.size 109 DG.toArray _ rfl hL Tryz.underlying109 rfl (by rw[mG,hlD.out];exact jM)) rfl ⟨rfl,hBL⟩
end
open Go.RowKit Go.Shelf
attribute [local go_sem] Oper.semAt_some lu
theorem wE (w:World) (D:List UInt8) (hD:D.length=32):
  Calls Tryz.prog 80 #[.agg (D.map aK).toArray] w fun e w'=>e= .returned (.string (txt D))/\Below w.heap.size w w':=by
 have hDl:Hid ((D.map aK).length=32):=by unfold Hid;rw[lq,hD]
 have VZ:=zh hD;clear hD;go_enter Tryz.func80,Tryz.ntmps80;go_upto_region 1 with fail;refine aX (P:=fun W=>Code.wp _ _ _ _ W) (fun W1 hW1=>?_);have HD1:Hid (ak W1 w.heap.size 109 (D.map aK).toArray):=by unfold Hid;rw[<-hW1];exact ak.new w _ _
 have HB1:Hid (Below w.heap.size w W1):=by unfold Hid;rw[<-hW1];exact(bK _ w).alloc (aF _) _
 have hbase:Hid (w.heap.size<W1.heap.size):=HD1.out.lt;have HR1:Hid (dD W1 W1.heap.size (.slice none 0 0) (D.take 0)):=um W1 _;clear hW1;go_wp2_with fail;go_loopw [3,4] (fun v q wr=>∃ i:Nat,q= .int .i64 i/\Hid (i<=32)/\Hid (dD wr W1.heap.size v (D.take i))/\Hid (ak wr w.heap.size 109 (D.map aK).toArray)/\Hid (Below w.heap.size w wr)/\Hid (W1.heap.size<=wr.heap.size)) (fun _ q _=>32-(intOf q).toNat)
 case atStart=>exact⟨0,rfl,iT _,HR1,HD1,HB1,aF _⟩
 case round=>
  rename_i v0 _ _;clear HR1 HD1 HB1;obtain⟨i,rfl,hi,hR,hd,hB,hz⟩:=hrel;by_cases hlt:i<32
  ·have d1:decide (i<32)=true:=pW hlt;have d2:decide ((i:Int)<32)=true:=pW (by omega);have t2:¬ 32<=(i:Int):=by omega
   obtain⟨x,hx⟩:∃ x,D[i]? =some x:=⟨_,jB (by rw[VZ.out];exact hlt)⟩;have cx:wr.cell? ⟨w.heap.size,i,none⟩=some (aK x):=by rw[hd.out.cell i,Ti,sD,hx];rfl
   have hsn:Hid (D.take (i+1)=D.take i++ [x]):=by unfold Hid;rw[FD,hx];rfl
   have fG:=zh hlt;have hln:Hid ((D.take i).length<99999999999):=by unfold Hid;rw[ou];omega
   clear hx hlt;unfold aK at cx;go_wp2_with (at_builtin;refine mF rfl _ _ rfl W1.heap.size _ (D.take i) rfl hR.out 1 x rfl rfl hln.out hz.out ?_;intro v' w' hP;rw[<-hsn.out] at hP);have hd2:=zh (hd.out.grown hP.grown (fun e=>by have h1:=hbase.out;have h2:=(hR.out.lt _ e.symm).1;omega));have hB2:=zh (hP.bel _ _ (Nat.le_of_lt hbase.out) hz.out hB.out);have hz2:=zh (fU hz.out hP.grown.size);have hR2:=zh hP.row;have hwi:wrap64 ((i:Int)+1)=((i+1:Nat):Int):=pR (i+1) (by have:=fG.out;omega);refine⟨⟨i+1,by first | (rw[hwi];done) | go_num,fG.out,hR2,hd2,hB2,hz2⟩,?_⟩;have hm:32-(i+1)<32-i:=by have:=fG.out;omega
   try rw[hwi]
   exact hm
  ·have d1:decide (i<32)=false:=dF hlt;have d2:decide ((i:Int)<32)=false:=dF (by omega);have hR2:Hid (dD wr W1.heap.size u3 D):=by
    have h:=hR.out;rw[uo (by rw[VZ.out];omega)] at h;exact h
   have hcv:=jk hR2.out;clear hR hlt;go_wp2_with fail;go_ret;exact⟨rfl,hB.out⟩
end Go.Proofs.YtpghocekofdpbaaGreatDoor
