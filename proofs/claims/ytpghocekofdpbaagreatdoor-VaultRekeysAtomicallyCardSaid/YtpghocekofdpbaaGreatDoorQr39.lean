import Derived.Test.YtpghocekofdpbaaGreatDoorQr37
import Derived.Test.YtpghocekofdpbaaGreatDoorQr38
set_option maxRecDepth 100000
set_option maxHeartbeats 8000000
namespace Go.Proofs.YtpghocekofdpbaaGreatDoor
open Go.RowKit Go.Shelf
attribute [local go_sem] Oper.semAt_some
theorem VI (w:World) (jb:Nat) (root:ByteArray):Calls Tryz.prog 71 #[.pointer (some ⟨jb,0,none⟩),.string root] w fun e w'=>e= .returned (.func (.func 110) #[] #[.pointer (some ⟨w.heap.size,0,none⟩),.pointer (some ⟨w.heap.size+1,0,none⟩)])/\w'=(w.alloc (.cells #[.pointer (some ⟨jb,0,none⟩)] 76)).alloc (.cells #[.string root] 9):=by
 go_enter Tryz.func71,Tryz.ntmps71;go_wp2_with fail;go_ret;exact⟨by simp,rfl⟩
def alg (jx rx jb h:Nat) (a:nP) (J:qm) (root:ByteArray) (_pre:List (Nat×Part)) (W:World):Prop:=
 ak W jx 76 #[.pointer (some ⟨jb,0,none⟩)]/\ak W rx 9 #[.string root]/\(∃ v,nU W jb a h J v)/\lV W 1
def acT (x:Nat×Part):Array Value:= #[.int .i64 (x.1:Int),Df x.2]
def alh (J:qm) (root:ByteArray) (pre:List (Nat×Part)) (x:Nat×Part) (_:World):Prop:=∃ e,J.l[pre.length]? =some e/\x=(pre.length,dH root e.1 e.2)
theorem row_of {w:World} {base sz n:Nat} {e:TypeId} {v:Value} {xs:List Value} (h:w.ownsRow base e sz v n xs) (hn:0<n):∃ g c cur,v= .slice (some ⟨g,0,none⟩) n c/\ak w g e cur/\base<=g/\n<=c:=by
 rcases h.2 with⟨_,h0⟩ | ⟨g,cap,cur,rfl,hb,hg,hc,_⟩
 ·omega
 ·exact⟨g,cap,cur,rfl,hg,hb,hc⟩
theorem Sl (Ws:World->Nat->Prop) (jx rx jb h:Nat) (a:nP) (J:qm) (root:ByteArray) (hl:J.l.length<=1048576) (hr:root.size=32) (hb:∀ e ∈ J.l,e.1<9223372036854775808/\e.2.size<=1000000):
  Xq Ws Fence.wide 3 Tryz.prog 110 #[.pointer (some ⟨jx,0,none⟩),.pointer (some ⟨rx,0,none⟩)] acT (alg jx rx jb h a J root) (alh J root) (fun xs=>xs.length=J.l.length):=by
 intro lv Jx Jy W hWb hWl hG hJ hJx hY h0;have HWb:=zh hWb;have HWl:=zh hWl;have HG:=zh hG;have HJ:=zh hJ;have HJx:=zh hJx;have HY:=zh hY;clear hG hJ hJx hY hWb hWl;obtain⟨g1,g2,⟨vj,g3⟩,g4⟩:=HG.out [] W h0;have cj:=g1.cell 0;obtain⟨L,hL⟩:∃ L,J.l.length=L:=⟨_,rfl⟩;have HN:Hid (CallsIn Fence.wide 2 Tryz.prog 67 #[.pointer (some ⟨jb,0,none⟩)] W fun e w'=>∃ An cn,e= .returned (.slice An L cn)/\w'.ownsRow W.heap.size 3 1 (.slice An L cn) L (intCells (J.l.map Prod.fst))/\Below W.heap.size W w'):=by
  refine(callsIn_wide (n:=2) |>.2 (vN g3 hl)).mono ?_;rintro e w' ⟨u,rfl,h1,_,h3⟩;rw[lq,hL] at h1;obtain⟨A,c,rfl⟩:=Sec.aJ h1;exact⟨A,c,rfl,h1,h3⟩
 have HRc:Hid (∀ wx,Below W.heap.size W wx->CallsIn Fence.wide 2 Tryz.prog 66 #[.pointer (some ⟨jb,0,none⟩)] wx fun e w'=>∃ Ar cr,e= .returned (.slice Ar L cr)/\w'.ownsRow wx.heap.size 9 1 (.slice Ar L cr) L (strCells (J.l.map Prod.snd))/\Below wx.heap.size wx w'):=fun wx hB=>by
  refine(callsIn_wide (n:=2) |>.2 (BA (g3.below hB) hl)).mono ?_;rintro e w' ⟨u,rfl,h1,_,h3⟩;rw[lq,hL] at h1;obtain⟨A,c,rfl⟩:=Sec.aJ h1;exact⟨A,c,rfl,h1,h3⟩
 have MZ:=zh g1;refine callsIn_of_wp Tryz.func110 rfl trivial ?_ rfl;simp only[Tryz.ntmps110,mG,AY,zag,Nat.reduceAdd,Nat.reduceSub,Array.replicate_succ,Array.replicate_zero,List.push_toArray,List.append_toArray,GI,List.cons_append];have h0H:=zh h0;clear g1 g2 g3 g4;gi_wp2_with (first
  | (refine⟨trivial,?_⟩;gi_at_call 67;refine HN.out.mono ?_;rintro e w1 ⟨An,cn,rfl,hN⟩;have Xm:=zh hN;have cj:=(MZ.out.below hN.2 MZ.out.lt).cell 0;clear hN)
  | (refine⟨trivial,?_⟩;gi_at_call 66;refine(HRc.out _ Xm.out.2).mono ?_;rintro e w2 ⟨Ar,cr,rfl,hR⟩;have HR1:=zh hR;clear hR))
 have hB2:Hid (Below W.heap.size W w2):=Xm.out.2.trans (HR1.out.2.mono Xm.out.2.size);have hJ2:=zh (HJ.out [] W w2 h0 hB2.out);have hrn:w2.ownsRow W.heap.size 3 1 (.slice An L cn) L (intCells (J.l.map Prod.fst)):=ownsRow_below Xm.out.1 HR1.out.2 (aF _);have hrr:w2.ownsRow w1.heap.size 9 1 (.slice Ar L cr) L (strCells (J.l.map Prod.snd)):=HR1.out.1;have HL:=zh hL;have hl':L<=1048576:=by rw[<-hL];exact hl
 have hcN:Hid (∀ k e,J.l[k]? =some e->w2.cell? ⟨(An.getD ⟨0,0,none⟩).block,k,none⟩=some (.int .i64 (e.1:Int))/\w2.cell? ⟨(Ar.getD ⟨0,0,none⟩).block,k,none⟩=some (.string e.2)/\An=some ⟨(An.getD ⟨0,0,none⟩).block,0,none⟩/\Ar=some ⟨(Ar.getD ⟨0,0,none⟩).block,0,none⟩):=by
  intro k e he;have hk:=(List.getElem?_eq_some_iff.1 he).1;obtain⟨g,c,cur,e1,_⟩:=row_of hrn (by omega);obtain⟨g',c',cur',e1',_⟩:=row_of hrr (by omega);cases e1;cases e1';refine⟨?_,?_,rfl,rfl⟩
  ·rw[show(Option.getD (some (⟨g,0,none⟩:Addr)) ⟨0,0,none⟩).block=g from rfl,World.ownsRow.cellAt hrn k (by omega)];simp[intCells,he]
  ·rw[show(Option.getD (some (⟨g',0,none⟩:Addr)) ⟨0,0,none⟩).block=g' from rfl,World.ownsRow.cellAt hrr k (by omega)];simp[strCells,he]
 obtain⟨gn,hgn⟩:∃ g,(An.getD ⟨0,0,none⟩).block=g:=⟨_,rfl⟩;obtain⟨gr,hgr⟩:∃ g,(Ar.getD ⟨0,0,none⟩).block=g:=⟨_,rfl⟩;have hbl:∃ CN CR:Array Value,0<L->(ak w2 gn 3 CN/\ak w2 gr 9 CR/\W.heap.size<=gn/\W.heap.size<=gr):=by
  by_cases h0L:0<L
  ·obtain⟨g,c,cur,e1,hb1,hb2,_⟩:=row_of hrn h0L;obtain⟨g',c',cur',e1',hb1',hb2',_⟩:=row_of hrr h0L;cases e1;cases e1';have e2:g=gn:=hgn;have e3:g'=gr:=hgr;subst e2 e3;exact⟨cur,cur',fun _=>⟨hb1,hb1',hb2,by have:=Xm.out.2.size;omega⟩⟩
  ·exact⟨#[],#[],fun h=>absurd h h0L⟩
 obtain⟨CN,CR,hbl⟩:=hbl;rw[hgn,hgr] at hcN;have hNe:∀ (k:Nat) (e:Nat×ByteArray),J.l[k]? =some e->An=some ⟨gn,0,none⟩/\Ar=some ⟨gr,0,none⟩/\CN[k]? =some (Value.int .i64 (e.1:Int))/\CR[k]? =some (Value.string e.2):=by
  intro k e he;have hk:=(List.getElem?_eq_some_iff.1 he).1;obtain⟨b1,b2,_⟩:=hbl (by omega);obtain⟨q1,q2,q3,q4⟩:=hcN.out k e he;exact⟨q3,q4,(b1.cell k).symm.trans q1,(b2.cell k).symm.trans q2⟩
 clear hrn hrr hgn hgr HN HRc cj h0;obtain⟨RW,hRW⟩:∃ RW:World->Prop,RW=fun wr=>0<L->ak wr gn 3 CN/\ak wr gr 9 CR/\¬ Ws wr gn/\¬ Ws wr gr:=⟨_,rfl⟩
 have alj:Hid (RW w2):=by
  unfold Hid;rw[hRW];intro h0L;obtain⟨b1,b2,b3,b4⟩:=hbl h0L;refine⟨b1,b2,fun k=>?_,fun k=>?_⟩
  ·have:=HWl.out [] W gn h0H.out (HWb.out [] W w2 gn h0H.out hB2.out k);omega
  ·have:=HWl.out [] W gr h0H.out (HWb.out [] W w2 gr h0H.out hB2.out k);omega
 have HRW:=zh hRW;have qw:=zh hb;have HNe:=zh hNe;clear hRW hcN hbl hb hl hNe;gi_wp2_with fail
 gi_loopw [12] (fun v12 wr=>∃ pre:List (Nat×Part),v12= .int .i64 (pre.length:Int)/\pre.length<=L/\Jx pre wr/\Hid (RW wr)) (fun v12 _=>L-(intOf v12).toNat)
 case atStart=>exact⟨[],rfl,iT _,hJ2.out,alj.out⟩
 case round=>
  obtain⟨pre,rfl,hk,Jw,hrw⟩:=hrel;clear hJ2 alj;by_cases hlt:pre.length<L
  ·obtain⟨e,he⟩:∃ e,J.l[pre.length]? =some e:=⟨_,jB (by rw[HL.out];exact hlt)⟩;obtain⟨rfl,rfl,n1,n2⟩:=HNe.out _ _ he;have hrw1:=hrw.out;rw[HRW.out] at hrw1;obtain⟨b1,b2,b3,b4⟩:=hrw1 (by omega);have HB4:=zh (And.intro b1 (And.intro b2 (And.intro b3 b4)));have y1:wr.cell? ⟨gn,pre.length,none⟩=some (.int .i64 (e.1:Int)):=(b1.cell _).trans n1;have y2:wr.cell? ⟨gr,pre.length,none⟩=some (.string e.2):=(b2.cell _).trans n2;clear hrw1 b1 b2 b3 b4 n1 n2;obtain⟨q1,q2,q3,q4⟩:=HG.out pre wr Jw;have y3:wr.cell? ⟨rx,0,none⟩=some (.string root):=q2.cell 0;have hbe:=qw.out e (zI he);have HO:Hid (∀ wx,Below wr.heap.size wr wx->CallsIn Fence.wide 2 Tryz.prog 70 #[.string root,.int .i64 (e.1:Int),.string e.2] wx fun e' w'=>e'= .returned (Df (dH root e.1 e.2))/\Below wx.heap.size wx w'):=fun wx hB=>callsIn_wide (n:=2) |>.2 (Jl wx root e.2 e.1 hbe.1 (by omega) hbe.2 (q4.below hB))
   have d1:decide (pre.length<L)=true:=pW hlt;have d2:decide ((pre.length:Int)<(L:Int))=true:=pW (by omega);have i1:(0:Int)<=(pre.length:Int):=by omega
   have i2:(pre.length:Int)<(L:Int):=by omega
   have hwk:wrap64 ((pre.length:Int)+1)=(pre.length:Int)+1:=by unfold wrap64;omega
   have Hlt:=zh hlt;have He:=zh he;have HJk:=zh Jw;obtain⟨kk,hkk⟩:∃ kk,pre.length=kk:=⟨_,rfl⟩;rw[hkk] at y1 y2 d1 d2 i1 i2 hwk ⊢;have Hkk:=zh hkk;clear hk hlt he Jw q1 q2 q3 q4 hbe hkk;gi_wp2_with fail
   gi_region_with (first
    | (refine⟨trivial,?_⟩;gi_at_call 70;refine(HO.out _ (bK wr.heap.size wr).drew).mono ?_;rintro e3 w3 ⟨rfl,hB3⟩;obtain⟨fn,tmps,assign,body,hy,hR⟩:=HY.out pre (pre.length,dH root e.1 e.2) w3 (HJ.out pre wr w3 HJk.out ((bK wr.heap.size wr).drew.trans (hB3.mono (bK wr.heap.size wr).drew.size))) ⟨e,He.out,rfl⟩;have HRd:=zh (hR.mono (R':=fun e' W'=>∃ bt,e'= .returned (.bool bt)/\((bt=true/\Jx (pre++ [(pre.length,dH root e.1 e.2)]) W'/\jw (Ws w3) w3 W'/\∀ k,Ws W' k->Ws w3 k\/w3.heap.size<=k)\/(bt=false/\Jy (pre++ [(pre.length,dH root e.1 e.2)]) W'))) (fun e' W' hp=>hp.elim (fun q=>⟨true,q.1,.inl ⟨rfl,q.2⟩⟩) (fun q=>⟨false,q.1,.inr ⟨rfl,q.2⟩⟩)));have HB3:=zh ((bK wr.heap.size wr).drew.trans (hB3.mono (bK wr.heap.size wr).drew.size));clear hR hB3;dsimp only[acT] at hy;rw[Hkk.out] at hy)
    | (refine HRd.out.mono ?_;rintro e4 W4 ⟨bt,rfl,hP4⟩;have Zt:=zh hP4;clear hP4 HRd))
   all_goals (
    rcases Zt.out with⟨rfl,hJ',hkc,hws⟩ | ⟨rfl,hJ'⟩
    ·have hfin:Hid (Jx (pre++ [(pre.length,dH root e.1 e.2)]) W4/\RW W4):=by
      refine⟨hJ',?_⟩;rw[HRW.out];intro _;obtain⟨b1,b2,b3,b4⟩:=HB4.out;have c1:=b1.below HB3.out b1.lt;have c2:=b2.below HB3.out b2.lt;have c3:¬ Ws w3 gn:=fun k=>b3 (HWb.out pre wr w3 gn HJk.out HB3.out k)
      have c4:¬ Ws w3 gr:=fun k=>b4 (HWb.out pre wr w3 gr HJk.out HB3.out k)
      refine⟨hkc.blk c1 c3,hkc.blk c2 c4,fun k=>?_,fun k=>?_⟩
      ·rcases hws gn k with k1 | k1
       ·exact c3 k1
       ·have:=c1.lt;omega
      ·rcases hws gr k with k1 | k1
       ·exact c4 k1
       ·have:=c2.lt;omega
     have hpl:Hid ((pre++ [(pre.length,dH root e.1 e.2)]).length=kk+1):=by unfold Hid;rw[kM,Hkk.out];rfl
     clear hJ' hkc hws Zt hy;gi_wp2_with fail;go_roundw
     case rel=>exact⟨_,by rw[hpl.out];go_num,by rw[hpl.out];have:=Hlt.out;have:=Hkk.out;omega,hfin.out.1,hfin.out.2⟩
     case measure=>have:=Hlt.out;have:=Hkk.out;simp[intOf];omega
    ·have hfin:=zh hJ';clear hJ' Zt hy;gi_wp2_with fail
     (try simp only[Exit.inBlock,Exit.then])
     refine bU (results_none rfl _ _ _) rfl ?_;exact⟨⟨_,rfl⟩,.inr ⟨_,hfin.out⟩⟩)
  ·have hkl:pre.length=L:=by omega
   have d1:decide (pre.length<L)=false:=dF hlt;have d2:decide ((pre.length:Int)<(L:Int))=false:=dF (by omega);have hfin:Hid (pre.length=J.l.length/\Jx pre wr):=⟨by rw[HL.out];exact hkl,Jw⟩;clear hkl Jw hk hlt;gi_wp2_with fail;go_end0;exact⟨⟨_,rfl⟩,.inl ⟨_,hfin.out.1,hfin.out.2⟩⟩
structure Jm (w:World) (bx nx:Nat) (l:List (Nat×ByteArray)):Prop where
 b:∃ A c,ak w bx 35 #[.slice A l.length c]/\∀ (k:Nat) (e:Nat×ByteArray),l[k]? =some e->∃ g,A=some ⟨g,0,none⟩/\g<w.heap.size/\w.cell? ⟨g,k,none⟩=some (.string e.2)
 n:∃ A c,ak w nx 30 #[.slice A l.length c]/\∀ (k:Nat) (e:Nat×ByteArray),l[k]? =some e->∃ g,A=some ⟨g,0,none⟩/\g<w.heap.size/\w.cell? ⟨g,k,none⟩=some (.int .i64 (e.1:Int))
theorem Jm.below {w w':World} {bx nx:Nat} {l:List (Nat×ByteArray)} (h:Jm w bx nx l) (hB:Below w.heap.size w w'):Jm w' bx nx l:=by
 obtain⟨A,c,h1,h2⟩:=h.b;obtain⟨A',c',h3,h4⟩:=h.n;refine⟨⟨A,c,h1.below hB h1.lt,fun k e he=>?_⟩,⟨A',c',h3.below hB h3.lt,fun k e he=>?_⟩⟩
 ·obtain⟨g,e1,e2,e3⟩:=h2 k e he;exact⟨g,e1,rY e2 hB.size,(hB.cell (p:=⟨g,k,none⟩) e2).trans e3⟩
 ·obtain⟨g,e1,e2,e3⟩:=h4 k e he;exact⟨g,e1,rY e2 hB.size,(hB.cell (p:=⟨g,k,none⟩) e2).trans e3⟩
theorem Jo (w:World) (bx nx:Nat) (l:List (Nat×ByteArray)) (s:ByteArray) (hs:s.size<10000000000) (hR:Jm w bx nx l) (hb:∀ e ∈ l,e.1<9223372036854775808/\e.2.size<=1000000) (hK:lV w 1):
  Calls Tryz.prog 69 #[.string s,.pointer (some ⟨bx,0,none⟩),.pointer (some ⟨nx,0,none⟩)] w fun e w'=>e= .returned (.bool (isRoot s l))/\Below w.heap.size w w':=by
 obtain⟨Z,hZ⟩:∃ Z,zero32=Z:=⟨_,rfl⟩;have HE:Hid (∀ wx,Calls Tryz.prog 61 #[] wx fun e w'=>e= .returned (.string Z)/\Below wx.heap.size wx w'):=by rw[<-hZ];exact zh mV
 obtain⟨Ab,cb,b1,b2⟩:=hR.b;obtain⟨An,cn,n1,n2⟩:=hR.n;have hI:Hid (isRoot s l=(!decide (s=Z) && (decide (l= []) || iC s l))):=by unfold Hid isRoot;rw[hZ]
 rw[hI.out];have y1:w.drew.cell? ⟨bx,0,none⟩=some (.slice Ab l.length cb):=b1.cell 0;have y2:w.drew.cell? ⟨nx,0,none⟩=some (.slice An l.length cn):=n1.cell 0;by_cases hz:s=Z
 ·have d1:(s.toList==Z.toList)=true:=by rw[hz];exact kG _
  have d2:(s.toList !=Z.toList)=false:=by show(!(s.toList==Z.toList))=false;rw[d1];rfl
  rw[pW hz];clear hz hs hb hK hR b1 b2 n1 n2 hI hZ;go_enter Tryz.func69,Tryz.ntmps69;go_wp2_with fail;refine yD (S:=(fun _=>True)) (by kernel_rfl) trivial (fun zs=>?_);refine' tk 0 rfl zs ?_;refine td 1 rfl (fun K hK=>?_);go_simp;go_at_call 61;refine(HE.out _).mono ?_;rintro e1 w1 ⟨rfl,hB1⟩;have HB1:=zh ((bK w.heap.size w).drew.trans (hB1.mono (bK w.heap.size w).drew.size));clear hB1;refine hK.out _ _ (trivial) (fun zs=>?_);clear hK K;try simp only[sA,gA]
  refine' tk 2 rfl zs ?_;refine' tk 3 rfl zs ?_;refine tu 4 rfl zs ?_;refine tu 5 rfl zs ?_;refine tu 6 rfl zs ?_;refine tu 7 rfl zs ?_;refine tu 8 rfl zs ?_;refine tu 9 rfl zs ?_;refine tu 10 rfl zs ?_;refine tu 11 rfl zs ?_;refine tu 12 rfl zs ?_;refine tu 13 rfl zs ?_;refine tu 14 rfl zs ?_;refine tu 15 rfl zs ?_;refine tu 16 rfl zs ?_;refine tu 17 rfl zs ?_;refine tu 18 rfl zs ?_;refine' tk 19 rfl zs ?_;refine' tk 20 rfl zs ?_;refine wZ (by kernel_rfl) ?_ _;clear zs;go_wp2_with fail;go_ret;exact⟨rfl,HB1.out⟩
 ·have d1:(s.toList==Z.toList)=false:=jh hz;have d2:(s.toList !=Z.toList)=true:=by show(!(s.toList==Z.toList))=true;rw[d1];rfl
  rw[dF hz];cases l with
  | nil=>
   have HLb:=zh b1.lt;clear hz hs hb hK hR b1 b2 n1 n2 hI hZ;have HS2:Hid (∀ wx,Below w.heap.size w wx->wx.cell? ⟨bx,0,none⟩=some (.slice Ab 0 cb)):=fun wx hB=>(hB.cell (p:=⟨bx,0,none⟩) HLb.out).trans y1
   go_enter Tryz.func69,Tryz.ntmps69;go_wp2_with fail;refine yD (S:=(fun W=>W.cell? ⟨bx,0,none⟩=some (.slice Ab 0 cb))) (by kernel_rfl) (HS2.out w.drew (bK w.heap.size w).drew) (fun zs=>?_);refine' tk 0 rfl zs ?_;refine td 1 rfl (fun K hK=>?_);go_simp;go_at_call 61;refine(HE.out _).mono ?_;rintro e1 w1 ⟨rfl,hB1⟩;have HB1:=zh ((bK w.heap.size w).drew.trans (hB1.mono (bK w.heap.size w).drew.size));clear hB1;refine hK.out _ _ (HS2.out w1 HB1.out) (fun zs=>?_);clear hK K;try simp only[sA,gA]
   refine' tk 2 rfl zs ?_;refine' tk 3 rfl zs ?_;refine' tk 4 rfl zs ?_;refine' tk 5 rfl zs ?_;refine' tk 6 rfl zs ?_;refine' tk 7 rfl zs ?_;refine tu 8 rfl zs ?_;refine tu 9 rfl zs ?_;refine tu 10 rfl zs ?_;refine tu 11 rfl zs ?_;refine tu 12 rfl zs ?_;refine tu 13 rfl zs ?_;refine tu 14 rfl zs ?_;refine tu 15 rfl zs ?_;refine tu 16 rfl zs ?_;refine tu 17 rfl zs ?_;refine' tk 18 rfl zs ?_;refine' tk 19 rfl zs ?_;refine' tk 20 rfl zs ?_;refine wZ (by kernel_rfl) ?_ _;clear zs;go_wp2_with fail;go_ret;exact⟨rfl,HB1.out⟩
  | cons e r=>
   obtain⟨g,rfl,gl,gc⟩:=b2 0 e rfl;obtain⟨g',rfl,gl',gc'⟩:=n2 0 e rfl;have HLb:=zh b1.lt;have HLn:=zh n1.lt;have hbe:=hb e (List.mem_cons_self ..);have hO:Hid (∀ wx,Below w.heap.size w wx->Calls Tryz.prog 70 #[.string s,.int .i64 (e.1:Int),.string e.2] wx fun e' w'=>e'= .returned (Df (dH s e.1 e.2))/\Below wx.heap.size wx w'):=fun wx hB=>Jl wx s e.2 e.1 hbe.1 hs hbe.2 (hK.below hB)
   obtain⟨P,hP⟩:∃ P,dH s e.1 e.2=P:=⟨_,rfl⟩;rw[hP] at hO;have hf:iC s (e::r)= !decide (P.kind=0):=by unfold iC;dsimp only;rw[hP]
   rw[hf,dF (show ¬ (e::r)= [] by simp),Bool.false_or];have hfld:∀ wx,(Instr.field 104 (Df P) 0).run Tryz.prog wx= .ok (.int .u8 (P.kind:Int)) wx:=fun wx=>by kernel_rfl
   have hk:((P.kind:Int) !=0)= !decide (P.kind=0):=by
    by_cases h0:P.kind=0
    ·rw[h0];rfl
    ·rw[dF h0];show(!((P.kind:Int)==0))=true
     rw[show((P.kind:Int)==0)=false from FI.2 (by omega)];rfl
   obtain⟨M,hM⟩:∃ M,(e::r).length=M:=⟨_,rfl⟩;have hM0:0<M:=by rw[<-hM];simp
   rw[hM] at y1 y2;have Du:Hid (∀ wx,Below w.heap.size w wx->wx.cell? ⟨bx,0,none⟩=some (.slice (some ⟨g,0,none⟩) M cb)/\wx.cell? ⟨nx,0,none⟩=some (.slice (some ⟨g',0,none⟩) M cn)/\wx.cell? ⟨g,0,none⟩=some (.string e.2)/\wx.cell? ⟨g',0,none⟩=some (.int .i64 (e.1:Int))):=fun wx hB=>
    ⟨(hB.cell (p:=⟨bx,0,none⟩) HLb.out).trans y1,(hB.cell (p:=⟨nx,0,none⟩) HLn.out).trans y2,(hB.cell (p:=⟨g,0,none⟩) gl).trans gc,(hB.cell (p:=⟨g',0,none⟩) gl').trans gc'⟩
   have m1:((M:Int)==0)=false:=FI.2 (by omega);have m2:(M==0)=false:=FI.2 (by omega);have m3:(0:Int)<(M:Int):=by omega
   obtain⟨kb,hkb⟩:∃ kb,(!decide (P.kind=0))=kb:=⟨_,rfl⟩;rw[hkb] at hk ⊢;obtain⟨v,hv⟩:∃ v,Df P=v:=⟨_,rfl⟩;rw[hv] at hO hfld;clear hz hs hb hK hR b1 b2 n1 n2 hI hZ gl gc gl' gc' hbe hP hf hkb hv hM;go_enter Tryz.func69,Tryz.ntmps69;go_wp2_with fail;refine yD (S:=(fun W=>W.cell? ⟨bx,0,none⟩=some (.slice (some ⟨g,0,none⟩) M cb)/\W.cell? ⟨nx,0,none⟩=some (.slice (some ⟨g',0,none⟩) M cn)/\W.cell? ⟨g,0,none⟩=some (.string e.2)/\W.cell? ⟨g',0,none⟩=some (.int .i64 (e.1:Int)))) (by kernel_rfl) (Du.out w.drew (bK w.heap.size w).drew) (fun zs=>?_);refine' tk 0 rfl zs ?_;refine td 1 rfl (fun K hK=>?_);go_simp;go_at_call 61;refine(HE.out _).mono ?_;rintro e1 w1 ⟨rfl,hB1⟩;have HB1:=zh ((bK w.heap.size w).drew.trans (hB1.mono (bK w.heap.size w).drew.size));clear hB1;refine hK.out _ _ (Du.out w1 HB1.out) (fun zs=>?_);clear hK K;try simp only[sA,gA]
   refine' tk 2 rfl zs ?_;refine' tk 3 rfl zs ?_;refine' tk 4 rfl zs ?_;refine' tk 5 rfl zs ?_;refine' tk 6 rfl zs ?_;refine' tk 7 rfl zs ?_;refine' tk 8 rfl zs ?_;refine' tk 9 rfl zs ?_;refine' tk 10 rfl zs ?_;refine' tk 11 rfl zs ?_;refine' tk 12 rfl zs ?_;refine' tk 13 rfl zs ?_;refine' tk 14 rfl zs ?_;refine td 15 rfl (fun K hK=>?_);go_simp;go_at_call 70;refine(hO.out w1 HB1.out).mono ?_;rintro e2 w2 ⟨rfl,hB2⟩;have HB2:=zh (HB1.out.trans (hB2.mono HB1.out.size));clear hB2;refine hK.out _ _ (Du.out w2 HB2.out) (fun zs=>?_);clear hK K;try simp only[sA,gA]
   refine' tk 16 rfl zs ?_;refine' tk 17 rfl zs ?_;refine' tk 18 rfl zs ?_;refine' tk 19 rfl zs ?_;refine' tk 20 rfl zs ?_;refine wZ (by kernel_rfl) ?_ _;clear zs;go_wp2_with fail;go_ret;exact⟨by simp,HB2.out⟩
theorem VJ (w:World) (rb bx nx:Nat) (s0 s2:ByteArray) (i0 i2:Bool) (hrb:ak w rb 9 #[.string s0,.string s2])
  (h0:∀ wx,Below w.heap.size w wx->Calls Tryz.prog 69 #[.string s0,.pointer (some ⟨bx,0,none⟩),.pointer (some ⟨nx,0,none⟩)] wx fun e w'=>e= .returned (.bool i0)/\Below wx.heap.size wx w')
  (h2:∀ wx,Below w.heap.size w wx->Calls Tryz.prog 69 #[.string s2,.pointer (some ⟨bx,0,none⟩),.pointer (some ⟨nx,0,none⟩)] wx fun e w'=>e= .returned (.bool i2)/\Below wx.heap.size wx w'):
  Calls Tryz.prog 68 #[.slice (some ⟨rb,0,none⟩) 2 2,.func (.func 69) #[] #[.pointer (some ⟨bx,0,none⟩),.pointer (some ⟨nx,0,none⟩)]] w fun e w'=>e= .returned (.int .i64 (if i0=true then 0 else if i2=true then 1 else -1))/\Below w.heap.size w w':=by
 have H0:=zh h0;have H2:=zh h2;have HB:=zh hrb;clear h0 h2 hrb;go_enter Tryz.func68,Tryz.ntmps68;go_wp2_with fail;go_loopw [8] (fun v8 wr=>∃ k:Nat,k<=2/\v8= .int .i64 (k:Int)/\Hid (Below w.heap.size w wr)/\Hid (0<k->i0=false)/\Hid (1<k->i2=false)) (fun v8 _=>2-(intOf v8).toNat)
 case atStart=>exact⟨0,by decide,rfl,bK _ _,fun h=>absurd h (by decide),fun h=>absurd h (by decide)⟩
 case round=>
  obtain⟨k,hk,rfl,hB,hk0,hk2⟩:=hrel;have hb:=HB.out.below hB.out HB.out.lt;obtain rfl | rfl | rfl:k=0\/k=1\/k=2:=by omega
  ·have y0:wr.cell? ⟨rb,0,none⟩=some (.string s0):=hb.cell 0;have hc:=zh (H0.out wr hB.out);clear hb;go_wp2_with fail;refine hc.out.mono ?_;rintro e w1 ⟨rfl,hB1⟩;have HB1:=zh (hB.out.trans (hB1.mono hB.out.size));clear hB1;cases i0 with
   | true=>
    go_wp2_with fail;go_ret;exact⟨rfl,HB1.out⟩
   | false=>
    go_wp2_with fail;go_roundw
    case rel=>exact⟨1,by decide,by go_num,HB1.out,fun _=>(by first | rfl | trivial),fun h=>absurd h (by decide)⟩
    case measure=>simp[intOf]
  ·have y0:wr.cell? ⟨rb,1,none⟩=some (.string s2):=hb.cell 1;have hc:=zh (H2.out wr hB.out);obtain rfl:=hk0.out (by decide);clear hb;go_wp2_with fail;refine hc.out.mono ?_;rintro e w1 ⟨rfl,hB1⟩;have HB1:=zh (hB.out.trans (hB1.mono hB.out.size));clear hB1;cases i2 with
   | true=>
    go_wp2_with fail;go_ret;exact⟨rfl,HB1.out⟩
   | false=>
    go_wp2_with fail;go_roundw
    case rel=>exact⟨2,by decide,by go_num,HB1.out,fun _=>(by first | rfl | trivial),fun _=>(by first | rfl | trivial)⟩
    case measure=>simp[intOf]
  ·obtain rfl:=hk0.out (by decide);obtain rfl:=hk2.out (by decide);clear hb;go_wp2_with fail;go_ret;exact⟨rfl,hB.out⟩
def ndO (s:List ByteArray) (i:Nat) (t:ByteArray):Bool:= !decide (s.getD i ⟨#[]⟩=t)
theorem VK (wx:World) (lx:Nat) (s0 s1 s2:ByteArray) (hb:ak wx lx 96 #[.string s0,.string s1,.string s2]) (i:Nat) (t:ByteArray) (hi:i<3):Calls Tryz.prog 72 #[.int .i64 (i:Int),.string t,.pointer (some ⟨lx,0,none⟩)] wx fun e w'=>e= .returned (.bool (ndO [s0,s1,s2] i t))/\wx=w':=by
 have key:∀ s:ByteArray,((s.toList==t.toList)= !(!decide (s=t))):=fun s=>by
  by_cases h:s=t
  ·rw[h,pW rfl];simp
  ·rw[jh h,dF h];rfl
 obtain rfl | rfl | rfl:i=0\/i=1\/i=2:=by omega
 ·have y:wx.cell? ⟨lx,0,none⟩=some (.string s0):=hb.cell 0;obtain⟨n,hn⟩:∃ n,ndO [s0,s1,s2] 0 t=n:=⟨_,rfl⟩;have hk:(s0.toList==t.toList)= !n:=by rw[<-hn];exact key s0
  rw[hn];clear key hb hn;cases n
  ·go_enter Tryz.func72,Tryz.ntmps72;go_wp2_with fail;go_ret;exact⟨rfl,rfl⟩
  ·go_enter Tryz.func72,Tryz.ntmps72;go_wp2_with fail;go_ret;exact⟨rfl,rfl⟩
 ·have y:wx.cell? ⟨lx,1,none⟩=some (.string s1):=hb.cell 1;obtain⟨n,hn⟩:∃ n,ndO [s0,s1,s2] 1 t=n:=⟨_,rfl⟩;have hk:(s1.toList==t.toList)= !n:=by rw[<-hn];exact key s1
  rw[hn];clear key hb hn;cases n
  ·go_enter Tryz.func72,Tryz.ntmps72;go_wp2_with fail;go_ret;exact⟨rfl,rfl⟩
  ·go_enter Tryz.func72,Tryz.ntmps72;go_wp2_with fail;go_ret;exact⟨rfl,rfl⟩
 ·have y:wx.cell? ⟨lx,2,none⟩=some (.string s2):=hb.cell 2;obtain⟨n,hn⟩:∃ n,ndO [s0,s1,s2] 2 t=n:=⟨_,rfl⟩;have hk:(s2.toList==t.toList)= !n:=by rw[<-hn];exact key s2
  rw[hn];clear key hb hn;cases n
  ·go_enter Tryz.func72,Tryz.ntmps72;go_wp2_with fail;go_ret;exact⟨rfl,rfl⟩
  ·go_enter Tryz.func72,Tryz.ntmps72;go_wp2_with fail;go_ret;exact⟨rfl,rfl⟩
section
variable {w w' w1 w2:World} {x:uX} {h b lo lx:Nat} {V V':mJ} {D E:Dev} {p u p1 u1:Value} {nd:Nat->ByteArray->Bool} {s0 s1 s2:ByteArray}
theorem Sm (k:kH w x h V D p u) (hu:nM D) (hs:D.slots.length=3) (hr:V.root.size=32) (hc:V.chain.size=32) (acS:nd=ndO [s0,s1,s2]) (hlx:∀ w2,bH w w2 x u->ak w2 lx 96 #[.string s0,.string s1,.string s2]):
  Calls Tryz.prog 59 #[.pointer (some ⟨x.vb,0,none⟩),.func (.func 72) #[] #[.pointer (some ⟨lx,0,none⟩)]] w (iO w x h V p u (aH ([(0,V.root),(1,V.chain),(2,zero32)].filter fun y=>nd y.1 y.2) D)):=by
 have HN:Hid (∀ wx,bH w wx x u->∀ (i:Nat) (t:ByteArray),i<3->Calls Tryz.prog 72 #[.int .i64 (i:Int),.string t,.pointer (some ⟨lx,0,none⟩)] wx fun e w'=>e= .returned (.bool (nd i t))/\wx=w'):=fun wx hF i t hi=>by subst acS;exact VK wx lx s0 s1 s2 (hlx wx hF) i t hi
 obtain⟨Z,hZ⟩:∃ Z,zero32=Z:=⟨_,rfl⟩;have hZs:Z.size=32:=by rw[<-hZ];rfl
 have HE:Hid (∀ wx,Calls Tryz.prog 61 #[] wx fun e w'=>e= .returned (.string Z)/\Below wx.heap.size wx w'):=by rw[<-hZ];exact zh mV
 obtain⟨A,hA⟩:∃ A,V.root=A:=⟨_,rfl⟩;obtain⟨B,hB⟩:∃ B,V.chain=B:=⟨_,rfl⟩;obtain⟨c0,c1,c2,c3,c4,c5,c6⟩:=k.cells;rw[hA] at hr c2;rw[hB] at hc c3;rw[hZ,hA,hB];obtain⟨R,hR⟩:∃ R,aH ([(0,A),(1,B),(2,Z)].filter fun y=>nd y.1 y.2) D=R:=⟨_,rfl⟩;rw[hR];have HR:=zh hR;have KK:=zh k;have Hu:=zh hu;have Hs:=zh hs;have Hz:=zh (And.intro hr (And.intro hc hZs));have x0:=XE A B Z;have HAe:=zh hA;have ZI:=zh hB;clear k hu hs hr hc hZ hZs hA hB hR acS hlx;go_enter Tryz.func59,Tryz.ntmps59;go_upto_region 1 with fail
 go_region_held3 (fun W=>W.cell? ⟨x.vb,2,none⟩=some (.string A)/\W.cell? ⟨x.vb,3,none⟩=some (.string B)) (go_keep)
  (first | (go_at_call 61;refine(HE.out _).mono ?_;rintro e w1 ⟨rfl,hB1⟩;have HB1:=zh ((bK w.heap.size w).drew.trans (hB1.mono (bK w.heap.size w).drew.size));have y2:w1.cell? ⟨x.vb,2,none⟩=some (.string A):=(by rw[<-HAe.out];exact((KK.out.below HB1.out).cells).2.2.1);have y3:w1.cell? ⟨x.vb,3,none⟩=some (.string B):=(by rw[<-ZI.out];exact((KK.out.below HB1.out).cells).2.2.2.1)))
 clear y2 y3 c0 c1 c2 c3 c4 c5 c6 hB1;have K1:=zh (KK.out.below HB1.out);have F1:Hid (bH w w1 x u):=bH.bD HB1.out;go_wp2_with fail;go_loopw [18] (fun v18 wr=>∃ (k:Nat) (Dk:Dev),k<=3/\v18= .int .i64 (k:Int)/\Hid (R=aH (([(0,A),(1,B),(2,Z)].drop k).filter fun y=>nd y.1 y.2) Dk)/\Hid (nM Dk/\Dk.slots.length=3)/\Hid (kH wr x h V Dk p u)/\Hid (bH w wr x u)) (fun v18 _=>3-(intOf v18).toNat)
 case atStart=>exact⟨0,D,by decide,rfl,HR.out.symm,⟨Hu.out,Hs.out⟩,K1.out,F1.out⟩
 case round=>
  obtain⟨k,Dk,hk,rfl,hRk,hon,hv,hF⟩:=hrel;obtain rfl | rfl | rfl | rfl:k=0\/k=1\/k=2\/k=3:=by omega
  ·have hcl:=zh (HN.out _ hF.out 0 A (by decide));have hpt:=zh (mD hv.out hon.out.1 0 (by rw[hon.out.2];decide) A Hz.out.1);cases hnd:nd 0 A with
   | false=>
    rw[hnd] at hcl;have xZ:Hid (R=aH (([(0,A),(1,B),(2,Z)].drop 1).filter fun y=>nd y.1 y.2) Dk):=by
     unfold Hid;exact hRk.out.trans (nG (f:=nd) (y:=(0,A)) (r:= [(0,A),(1,B),(2,Z)].drop 1) hnd)
    clear hnd hpt;go_wp2_with fail;refine hcl.out.mono ?_;rintro e w2 ⟨rfl,rfl⟩;go_wp2_with fail;go_roundw
    case rel=>exact⟨1,Dk,by decide,by go_num,xZ.out,hon.out,hv.out,hF.out⟩
    case measure=>simp[intOf]
   | true=>
    rw[hnd] at hcl;have hst:Hid (R=if (Dk.slot (0,A)).1=0 then aH (([(0,A),(1,B),(2,Z)].drop 1).filter fun y=>nd y.1 y.2) (Dk.slot (0,A)).2 else Dk.slot (0,A)):=by
     unfold Hid;exact hRk.out.trans (nH (f:=nd) (y:=(0,A)) (r:= [(0,A),(1,B),(2,Z)].drop 1) hnd)
    have hse:=mg hon.out.1 (0,A);have hnx:=qP hon.out.1 (0,A);obtain⟨S,hS⟩:∃ S,Dk.slot (0,A)=S:=⟨_,rfl⟩;rw[hS] at hst hse hnx hpt;obtain⟨se,sd⟩:=S;dsimp only at hse hnx;have zY:=zh hnx;have Hlen:=zh hon.out.2;clear hnd hS hon hnx;rcases hse with rfl | rfl
    ·have xZ:Hid (R=aH (([(0,A),(1,B),(2,Z)].drop 1).filter fun y=>nd y.1 y.2) sd):=by unfold Hid;exact hst.out.trans (if_pos rfl)
     have Jk:Hid (nM sd/\sd.slots.length=3):=⟨(zY.out rfl).1,(zY.out rfl).2.trans Hlen.out⟩;clear hst zY;go_wp2_with fail;refine hcl.out.mono ?_;rintro e w2 ⟨rfl,rfl⟩;go_wp2_with fail;refine hpt.out.mono ?_;rintro e w3 ⟨rfl,h1,h2,h3⟩;have Hf:=zh (And.intro h1 (h3 rfl));clear h1 h2 h3;go_wp2_with fail;go_roundw
     case rel=>exact⟨1,sd,by decide,by go_num,xZ.out,Jk.out,Hf.out.2,hF.out.trans Hf.out.1⟩
     case measure=>simp[intOf]
    ·have VH:Hid (R=(14,sd)):=by unfold Hid;exact hst.out.trans (if_neg (show ¬ (14:Int)=0 by decide))
     clear hst zY;go_wp2_with fail;refine hcl.out.mono ?_;rintro e w2 ⟨rfl,rfl⟩;go_wp2_with fail;refine hpt.out.mono ?_;rintro e w3 ⟨rfl,h1,h2,_⟩;have Hf:=zh (And.intro h1 h2);clear h1 h2;go_wp2_with fail;go_ret;rw[VH.out];exact iO.mk rfl (hF.out.trans Hf.out.1) Hf.out.2 (fun e=>by cases e)
  ·have hcl:=zh (HN.out _ hF.out 1 B (by decide));have hpt:=zh (mD hv.out hon.out.1 1 (by rw[hon.out.2];decide) B Hz.out.2.1);cases hnd:nd 1 B with
   | false=>
    rw[hnd] at hcl;have xZ:Hid (R=aH (([(0,A),(1,B),(2,Z)].drop 2).filter fun y=>nd y.1 y.2) Dk):=by
     unfold Hid;exact hRk.out.trans (nG (f:=nd) (y:=(1,B)) (r:= [(0,A),(1,B),(2,Z)].drop 2) hnd)
    clear hnd hpt;go_wp2_with fail;refine hcl.out.mono ?_;rintro e w2 ⟨rfl,rfl⟩;go_wp2_with fail;go_roundw
    case rel=>exact⟨2,Dk,by decide,by go_num,xZ.out,hon.out,hv.out,hF.out⟩
    case measure=>simp[intOf]
   | true=>
    rw[hnd] at hcl;have hst:Hid (R=if (Dk.slot (1,B)).1=0 then aH (([(0,A),(1,B),(2,Z)].drop 2).filter fun y=>nd y.1 y.2) (Dk.slot (1,B)).2 else Dk.slot (1,B)):=by
     unfold Hid;exact hRk.out.trans (nH (f:=nd) (y:=(1,B)) (r:= [(0,A),(1,B),(2,Z)].drop 2) hnd)
    have hse:=mg hon.out.1 (1,B);have hnx:=qP hon.out.1 (1,B);obtain⟨S,hS⟩:∃ S,Dk.slot (1,B)=S:=⟨_,rfl⟩;rw[hS] at hst hse hnx hpt;obtain⟨se,sd⟩:=S;dsimp only at hse hnx;have zY:=zh hnx;have Hlen:=zh hon.out.2;clear hnd hS hon hnx;rcases hse with rfl | rfl
    ·have xZ:Hid (R=aH (([(0,A),(1,B),(2,Z)].drop 2).filter fun y=>nd y.1 y.2) sd):=by unfold Hid;exact hst.out.trans (if_pos rfl)
     have Jk:Hid (nM sd/\sd.slots.length=3):=⟨(zY.out rfl).1,(zY.out rfl).2.trans Hlen.out⟩;clear hst zY;go_wp2_with fail;refine hcl.out.mono ?_;rintro e w2 ⟨rfl,rfl⟩;go_wp2_with fail;refine hpt.out.mono ?_;rintro e w3 ⟨rfl,h1,h2,h3⟩;have Hf:=zh (And.intro h1 (h3 rfl));clear h1 h2 h3;go_wp2_with fail;go_roundw
     case rel=>exact⟨2,sd,by decide,by go_num,xZ.out,Jk.out,Hf.out.2,hF.out.trans Hf.out.1⟩
     case measure=>simp[intOf]
    ·have VH:Hid (R=(14,sd)):=by unfold Hid;exact hst.out.trans (if_neg (show ¬ (14:Int)=0 by decide))
     clear hst zY;go_wp2_with fail;refine hcl.out.mono ?_;rintro e w2 ⟨rfl,rfl⟩;go_wp2_with fail;refine hpt.out.mono ?_;rintro e w3 ⟨rfl,h1,h2,_⟩;have Hf:=zh (And.intro h1 h2);clear h1 h2;go_wp2_with fail;go_ret;rw[VH.out];exact iO.mk rfl (hF.out.trans Hf.out.1) Hf.out.2 (fun e=>by cases e)
  ·have hcl:=zh (HN.out _ hF.out 2 Z (by decide));have hpt:=zh (mD hv.out hon.out.1 2 (by rw[hon.out.2];decide) Z Hz.out.2.2);cases hnd:nd 2 Z with
   | false=>
    rw[hnd] at hcl;have xZ:Hid (R=aH (([(0,A),(1,B),(2,Z)].drop 3).filter fun y=>nd y.1 y.2) Dk):=by
     unfold Hid;exact hRk.out.trans (nG (f:=nd) (y:=(2,Z)) (r:= [(0,A),(1,B),(2,Z)].drop 3) hnd)
    clear hnd hpt;go_wp2_with fail;refine hcl.out.mono ?_;rintro e w2 ⟨rfl,rfl⟩;go_wp2_with fail;go_roundw
    case rel=>exact⟨3,Dk,by decide,by go_num,xZ.out,hon.out,hv.out,hF.out⟩
    case measure=>simp[intOf]
   | true=>
    rw[hnd] at hcl;have hst:Hid (R=if (Dk.slot (2,Z)).1=0 then aH (([(0,A),(1,B),(2,Z)].drop 3).filter fun y=>nd y.1 y.2) (Dk.slot (2,Z)).2 else Dk.slot (2,Z)):=by
     unfold Hid;exact hRk.out.trans (nH (f:=nd) (y:=(2,Z)) (r:= [(0,A),(1,B),(2,Z)].drop 3) hnd)
    have hse:=mg hon.out.1 (2,Z);have hnx:=qP hon.out.1 (2,Z);obtain⟨S,hS⟩:∃ S,Dk.slot (2,Z)=S:=⟨_,rfl⟩;rw[hS] at hst hse hnx hpt;obtain⟨se,sd⟩:=S;dsimp only at hse hnx;have zY:=zh hnx;have Hlen:=zh hon.out.2;clear hnd hS hon hnx;rcases hse with rfl | rfl
    ·have xZ:Hid (R=aH (([(0,A),(1,B),(2,Z)].drop 3).filter fun y=>nd y.1 y.2) sd):=by unfold Hid;exact hst.out.trans (if_pos rfl)
     have Jk:Hid (nM sd/\sd.slots.length=3):=⟨(zY.out rfl).1,(zY.out rfl).2.trans Hlen.out⟩;clear hst zY;go_wp2_with fail;refine hcl.out.mono ?_;rintro e w2 ⟨rfl,rfl⟩;go_wp2_with fail;refine hpt.out.mono ?_;rintro e w3 ⟨rfl,h1,h2,h3⟩;have Hf:=zh (And.intro h1 (h3 rfl));clear h1 h2 h3;go_wp2_with fail;go_roundw
     case rel=>exact⟨3,sd,by decide,by go_num,xZ.out,Jk.out,Hf.out.2,hF.out.trans Hf.out.1⟩
     case measure=>simp[intOf]
    ·have VH:Hid (R=(14,sd)):=by unfold Hid;exact hst.out.trans (if_neg (show ¬ (14:Int)=0 by decide))
     clear hst zY;go_wp2_with fail;refine hcl.out.mono ?_;rintro e w2 ⟨rfl,rfl⟩;go_wp2_with fail;refine hpt.out.mono ?_;rintro e w3 ⟨rfl,h1,h2,_⟩;have Hf:=zh (And.intro h1 h2);clear h1 h2;go_wp2_with fail;go_ret;rw[VH.out];exact iO.mk rfl (hF.out.trans Hf.out.1) Hf.out.2 (fun e=>by cases e)
  ·have Qi:R=(0,Dk):=hRk.out;have VH:=zh Qi;clear Qi;go_wp2_with fail;go_ret;rw[VH.out];exact iO.mk rfl hF.out hv.out.dev (fun _=>hv.out)
end
end Go.Proofs.YtpghocekofdpbaaGreatDoor
