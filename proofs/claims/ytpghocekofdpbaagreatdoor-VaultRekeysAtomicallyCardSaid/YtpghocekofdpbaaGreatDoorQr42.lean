import Derived.Test.YtpghocekofdpbaaGreatDoorQr41
set_option maxRecDepth 100000
set_option maxHeartbeats 8000000
namespace Go.Proofs.YtpghocekofdpbaaGreatDoor
open Go.RowKit Go.Shelf
attribute [local go_sem] Oper.semAt_some
theorem Jp (root:ByteArray) (n:Nat) (b:ByteArray):(dH root n b).kind=0\/(dH root n b).kind=82\/((dH root n b).kind=73/\(dH root n b).start.size=32):=by
 unfold dH;split
 ·generalize (dw (kQ root) (fK n) (bl b)).1=l;cases l with
  | nil=>exact .inl rfl
  | cons c s=>
   rw[iL];split
   ·exact .inr (.inl rfl)
   ·split
    ·rename_i h;refine .inr (.inr ⟨rfl,?_⟩);show(txt (s.take 32)).size=32
     rw[fP,ou];omega
    ·exact .inl rfl
 ·exact .inl rfl
theorem oh {l n:Nat} {P:Program} {Q:Exit->Act->World->Prop} {ops:Array Oper} {S:World->Prop} {id:Nat} {a:Act} {w:World} (k:Nat) (hm:P.follows .mixedOrders=true) (hd:Cc ops=true) (hQ:¬ LetsOut Q) (hS:S w.drew)
  (h:S w.drew->kU P .any ops Q S k ops.size (Array.replicate ops.size false) a w.drew):(Code.region id ops true).wpIn (Fence.wide.inRound l) n P Q a w:=
 wpIn_region_any hm (yB hd hQ _ _ _ _ (AL _ _ _ _ (h hS)))
theorem acW {w1:World} {b1 n c:Nat} {A:Option Addr} {l:List (Nat×ByteArray)} (h:w1.ownsRow b1 9 1 (.slice A n c) n (strCells (l.map Prod.snd))) (hn:l.length=n):∀ (k:Nat) (e:Nat×ByteArray),l[k]? =some e->∃ g,A=some ⟨g,0,none⟩/\g<w1.heap.size/\w1.cell? ⟨g,k,none⟩=some (.string e.2):=by
 intro k e he;have hk:=(List.getElem?_eq_some_iff.1 he).1;obtain⟨g,c',cur,e1,hb,_⟩:=row_of h (by omega);cases e1;refine⟨g,rfl,hb.lt,?_⟩;rw[World.ownsRow.cellAt h k (by omega)];simp[strCells,he]
theorem ints_at {w1:World} {b1 n c:Nat} {A:Option Addr} {l:List (Nat×ByteArray)} (h:w1.ownsRow b1 3 1 (.slice A n c) n (intCells (l.map Prod.fst))) (hn:l.length=n):∀ (k:Nat) (e:Nat×ByteArray),l[k]? =some e->∃ g,A=some ⟨g,0,none⟩/\g<w1.heap.size/\w1.cell? ⟨g,k,none⟩=some (.int .i64 (e.1:Int)):=by
 intro k e he;have hk:=(List.getElem?_eq_some_iff.1 he).1;obtain⟨g,c',cur,e1,hb,_⟩:=row_of h (by omega);cases e1;refine⟨g,rfl,hb.lt,?_⟩;rw[World.ownsRow.cellAt h k (by omega)];simp[intCells,he]
structure zB (w:World) (a:nP) (h:Nat) (r:uZ) (e:Ending) (w':World):Prop where
 left:dJ w w' a
 dev:aO w' a r.2.2
 out:(r.2.1=none/\e= .returned (.tuple #[.pointer none,.int .i64 r.1]))\/∃ V x p u,r.2.1=some V/\x.a=a/\e= .returned (.tuple #[.pointer (some ⟨x.vb,0,none⟩),.int .i64 r.1])/\kH w' x h V r.2.2 p u/\w.heap.size<=x.jb/\w.heap.size<=x.vb/\w.heap.size<=x.lo
theorem oU {fn:Func} {p q:Tmp} (h:fn.results= #[.cell p 34,.cell q 39]) (tmps:Array Value) (w:World) (g g':Nat) (v v':Value) (hp:tmps.getD p undef= .pointer (some ⟨g,0,none⟩)) (hq:tmps.getD q undef= .pointer (some ⟨g',0,none⟩)) (hc:w.cell? ⟨g,0,none⟩=some v) (hc':w.cell? ⟨g',0,none⟩=some v'):
  (results fn tmps).run Tryz.prog w= .ok (.tuple #[v,v']) w:=by
 have hp':tmps[p]?.getD undef= .pointer (some ⟨g,0,none⟩):=by simpa using hp
 have hq':tmps[q]?.getD undef= .pointer (some ⟨g',0,none⟩):=by simpa using hq
 simp[results,h,hp',hq',loadVar,asAddr,go_sem,hc,hc']
theorem acX {C G:Nat->Nat->World->Prop} {R:Prop} (h:(∀ x y w,C x y w->G x y w)->R) (g:∀ x y w,C x y w->G x y w):R:=h g
theorem acY {F:Fence} {n:Nat} {P:Program} {C:Code} {Q:Exit->Act->World->Prop} {T:Array Value} {d:List Deferred} {w:World} (h:∀ T',T'=T->C.wpIn F n P Q ⟨T',d⟩ w):C.wpIn F n P Q ⟨T,d⟩ w:=h T rfl
section
variable {w:World} {a:nP} {D:Dev}
theorem Zb (hd:aO w a D) (hon:nM D) (hf:Fine D.M) (hcl:Clean D.M) (h:Nat) (hh:D.M.length/2=h) (h1:1<=h) (hD:D.M.length<=4096) {s0 s1 s2 root:ByteArray} {R:JA} (hs:D.slots= [s0,s1,s2]) (h32:s0.size=32/\s2.size=32) (hz:s0≠zero32)
  (hro:rootOf s0 s2 (bT h D.M).l=some root) (hrd:jR root (bT h D.M).l=some R) (hbl:∀ e ∈ (bT h D.M).l,e.1<9223372036854775808/\e.2.size<=1000000) (hll:(bT h D.M).l.length<=1048576) (hK:lV w 1):
  Calls Tryz.prog 29 #[.pointer (some ⟨a.d,0,none⟩)] w fun e w'=>zB w a h (iR h D) e w':=by
 have HD:=zh hd;have HK:=zh hK;have HV:Hid (∀ wx,Below w.heap.size w wx->Calls Tryz.prog 64 #[.pointer (some ⟨a.d,0,none⟩)] wx fun e w'=>e= .returned (.tuple #[.agg #[.string s0,.string s1,.string s2],.int .i64 0])/\Below wx.heap.size wx w'):=fun wx hB=>yE (hd.below hB) hon.down hs
 have HO:Hid (∀ wx,Below w.heap.size w wx->Calls Tryz.prog 65 #[.pointer (some ⟨a.d,0,none⟩)] wx fun e w'=>∃ jb v,wx.heap.size<=jb/\e= .returned (.tuple #[.pointer (some ⟨jb,0,none⟩),.int .i64 0])/\nU w' jb a h (bT h D.M) v/\Below wx.heap.size wx w'):=fun wx hB=>IW (hd.below hB) hon hf hcl h hh h1 hD
 obtain⟨Z,hZ⟩:∃ Z,zero32=Z:=⟨_,rfl⟩;have HE:Hid (∀ wx,Calls Tryz.prog 61 #[] wx fun e w'=>e= .returned (.string Z)/\Below wx.heap.size wx w'):=by rw[<-hZ];exact zh mV
 have hsz:(s0.toList==Z.toList)=false:=by rw[<-hZ];exact jh hz
 obtain⟨J,hJ⟩:∃ J,bT h D.M=J:=⟨_,rfl⟩;have HVo:Hid (∃ r,iR h D=r):=⟨_,rfl⟩;obtain⟨res,hres⟩:=HVo.out;rw[hJ] at hro hrd hbl hll HO;rw[hres];have aeX:=zh hres;have Hro:=zh hro;have Hrd:=zh hrd;have Hbl:=zh hbl;have Hll:=zh hll;have H32:=zh h32;have Hon:=zh hon;have HJe:=zh hJ;have HZe:=zh hZ;have Hs:=zh hs;have HZn:=zh hz;clear hd hK hon hf hcl hh h1 hD hs h32 hz hro hrd hbl hll hres HVo hZ hJ;refine(callsIn_wide (n:=4)).1 ?_;refine callsIn_of_wp_marks Tryz.func29 rfl trivial ?_ rfl;simp only[Tryz.ntmps29,mG,AY,zag,Nat.reduceAdd,Nat.reduceSub,Array.replicate_succ,Array.replicate_zero,List.push_toArray,List.append_toArray,GI,List.cons_append];obtain⟨wa,hwa⟩:∃ wa,(w.alloc (.cells #[.pointer none] 34)).alloc (.cells #[.int .i64 0] 39)=wa:=⟨_,rfl⟩;have HBa:Hid (Below w.heap.size w wa):=by
  rw[<-hwa];exact((bK _ w).alloc (aF _) _).alloc ((bK _ w).alloc (aF _) _).size _
 gi_wp2_with (first
  | (refine⟨trivial,?_⟩;gi_at_call 64;refine(callsIn_wide.2 (HV.out _ HBa.out)).mono ?_;rintro e w1 ⟨rfl,hB1⟩;have HB1:=zh hB1;clear hB1))
 have ZW:Hid (ak (w1.alloc (.cells #[.string s0,.string s1,.string s2] 96)) w1.heap.size 96 #[.string s0,.string s1,.string s2]):=ak.new _ _ _;have HR2:Hid (ak (w1.alloc (.cells #[.string s0,.string s1,.string s2] 96)) w.heap.size 34 #[.pointer none]/\ak (w1.alloc (.cells #[.string s0,.string s1,.string s2] 96)) (w.heap.size+1) 39 #[.int .i64 0]):=by
  have e1:ak wa w.heap.size 34 #[.pointer none]:=by rw[<-hwa];exact(ak.new w _ _).alloc _
  have e2:ak wa (w.heap.size+1) 39 #[.int .i64 0]:=by
   rw[<-hwa];have:=ak.new (w.alloc (.cells #[.pointer none] 34)) 39 #[.int .i64 0];rw[oz] at this;exact this
  exact⟨(e1.below HB1.out e1.lt).alloc _,(e2.below HB1.out e2.lt).alloc _⟩
 have Vl:Hid (Below w.heap.size w (w1.alloc (.cells #[.string s0,.string s1,.string s2] 96))):=(HBa.out.trans (HB1.out.mono HBa.out.size)).alloc (fU HBa.out.size HB1.out.size) _;clear HB1 HBa hwa;generalize w1.alloc (.cells #[.string s0,.string s1,.string s2] 96)=wA at *;generalize w1.heap.size=ab at *;have Nb:Hid (∀ wx,Below wA.heap.size wA wx->wx.cell? ⟨ab,0,none⟩=some (.string s0)):=fun wx hB=>(ZW.out.below hB ZW.out.lt).cell 0
 refine wpIn_wide.2 ?_;refine wp_region_noPanic ?_;refine yD (S:=(fun W=>W.cell? ⟨ab,0,none⟩=some (.string s0))) (by kernel_rfl) (Nb.out _ (bK _ wA).drew) (fun zs=>?_);refine' tk 0 rfl zs ?_;refine' tk 1 rfl zs ?_;refine td 2 rfl (fun K hK=>?_);go_simp;go_at_call 61;refine(HE.out _).mono ?_;rintro e2 w2 ⟨rfl,hB2⟩;have Nr:=zh ((bK wA.heap.size wA).drew.trans (hB2.mono (bK wA.heap.size wA).drew.size));have HS2:=zh (Nb.out w2 Nr.out);clear hB2;refine hK.out _ _ (HS2.out) (fun zs=>?_);clear hK K;try simp only[sA,gA]
 refine' tk 3 rfl zs ?_;refine' tk 4 rfl zs ?_;refine tu 5 rfl zs ?_;refine tu 6 rfl zs ?_;refine tu 7 rfl zs ?_;refine tu 8 rfl zs ?_;refine' tk 9 rfl zs ?_;refine' tk 10 rfl zs ?_;refine wZ (by kernel_rfl) ?_ _;clear zs;refine NoPanic.normal ?_;have HB2:Hid (Below w.heap.size w w2):=Vl.out.trans (Nr.out.mono Vl.out.size);have OG:Hid (ak w2 ab 96 #[.string s0,.string s1,.string s2]):=ZW.out.below Nr.out ZW.out.lt;have acZ:Hid (ak w2 w.heap.size 34 #[.pointer none]/\ak w2 (w.heap.size+1) 39 #[.int .i64 0]):=⟨HR2.out.1.below Nr.out HR2.out.1.lt,HR2.out.2.below Nr.out HR2.out.2.lt⟩;clear Nb HS2 hsz ZW HR2 Vl Nr;obtain⟨L,hL⟩:∃ L,J.l.length=L:=⟨_,rfl⟩;have HL:=zh hL;clear hL;gi_wp2_with (first
  | (refine⟨trivial,?_⟩;gi_at_call 65;refine(callsIn_wide.2 (HO.out w2 HB2.out)).mono ?_;rintro e w3 ⟨jb,vj,hjb,rfl,ac0,hB3⟩;have HJi:=zh ac0;have HB3:=zh hB3;have Hjb:=zh (fU HB2.out.size hjb);clear ac0 hB3 hjb)
  | (refine⟨trivial,?_⟩;gi_at_call 66;refine(callsIn_wide.2 (BA HJi.out Hll.out)).mono ?_;rintro e w4 ⟨u4,rfl,h4,_,hB4⟩;rw[lq,HL.out] at h4;obtain⟨A4,c4,rfl⟩:=Sec.aJ h4;have H4:=zh (And.intro h4 hB4);clear h4 hB4)
  | (refine⟨trivial,?_⟩;gi_at_call 67;refine(callsIn_wide.2 (vN (HJi.out.below H4.out.2) Hll.out)).mono ?_;rintro e w5 ⟨u5,rfl,h5,_,oZ⟩;rw[lq,HL.out] at h5;obtain⟨A5,c5,rfl⟩:=Sec.aJ h5;have H5:=zh (And.intro h5 oZ);have hA5:=((OG.out.below HB3.out OG.out.lt).below H4.out.2 (OG.out.below HB3.out OG.out.lt).lt).below oZ ((OG.out.below HB3.out OG.out.lt).below H4.out.2 (OG.out.below HB3.out OG.out.lt).lt).lt;obtain⟨w6,hw6⟩:∃ w6,(w5.alloc (.cells #[.slice A4 L c4] 35)).alloc (.cells #[.slice A5 L c5] 30)=w6:=⟨_,rfl⟩;have hA6:ak w6 ab 96 #[.string s0,.string s1,.string s2]:=(by rw[<-hw6];exact(hA5.alloc _).alloc _);have y0:w6.cell? ⟨ab,0,none⟩=some (.string s0):=hA6.cell 0;have y2:w6.cell? ⟨ab,2,none⟩=some (.string s2):=hA6.cell 2;have HA6:=zh hA6;clear hA5 hA6;clear h5 oZ))
 clear y0 y2;have Ze:w6.heap.size=w5.heap.size+1+1:=by rw[<-hw6];simp
 have aeY:Below w5.heap.size w5 w6:=by
  rw[<-hw6];exact((bK _ w5).alloc (aF _) _).alloc ((bK _ w5).alloc (aF _) _).size _
 have aeZ:Below w4.heap.size w4 w6:=H5.out.2.trans (aeY.mono H5.out.2.size);have ae0:Below w3.heap.size w3 w6:=H4.out.2.trans (aeZ.mono H4.out.2.size);have oq:Hid (Below w.heap.size w w6):=HB2.out.trans ((HB3.out.trans (ae0.mono HB3.out.size)).mono HB2.out.size);have HJ6:Hid (nU w6 jb a h J vj):=HJi.out.below ae0;have Xl:Hid (ak w6 w.heap.size 34 #[.pointer none]/\ak w6 (w.heap.size+1) 39 #[.int .i64 0]):=by
  have alm:Below w2.heap.size w2 w6:=HB3.out.trans (ae0.mono HB3.out.size);exact⟨acZ.out.1.below alm acZ.out.1.lt,acZ.out.2.below alm acZ.out.2.lt⟩
 have ac1:Hid (Jm w6 w5.heap.size (w5.heap.size+1) J.l):=by
  have e1:ak w6 w5.heap.size 35 #[.slice A4 L c4]:=by rw[<-hw6];exact(ak.new w5 _ _).alloc _
  have e2:ak w6 (w5.heap.size+1) 30 #[.slice A5 L c5]:=by
   rw[<-hw6];have:=ak.new (w5.alloc (.cells #[.slice A4 L c4] 35)) 30 #[.slice A5 L c5];rw[oz] at this;exact this
  refine⟨⟨A4,c4,by rw[HL.out];exact e1,fun k e he=>?_⟩,⟨A5,c5,by rw[HL.out];exact e2,fun k e he=>?_⟩⟩
  ·obtain⟨g,q1,q2,q3⟩:=acW H4.out.1 HL.out k e he;exact⟨g,q1,rY q2 aeZ.size,(aeZ.cell (p:=⟨g,k,none⟩) q2).trans q3⟩
  ·obtain⟨g,q1,q2,q3⟩:=ints_at H5.out.1 HL.out k e he;exact⟨g,q1,rY q2 aeY.size,(aeY.cell (p:=⟨g,k,none⟩) q2).trans q3⟩
 clear hw6 Ze aeY aeZ ae0 H4 H5 HB2 acZ OG HJi HB3;generalize w5.heap.size=bx at *;obtain⟨nx,hnx⟩:∃ nx,bx+1=nx:=⟨_,rfl⟩;rw[hnx] at ac1 ⊢;clear hnx;have qQ:Below w6.heap.size w6 (w6.alloc (.cells #[.string s0,.string s2] 9)):=(bK _ w6).alloc (aF _) _;have HRb:Hid (ak (w6.alloc (.cells #[.string s0,.string s2] 9)) w6.heap.size 9 #[.string s0,.string s2]):=ak.new _ _ _;have wP:Hid (Below w.heap.size w (w6.alloc (.cells #[.string s0,.string s2] 9))):=oq.out.trans (qQ.mono oq.out.size);have HJ7:Hid (nU (w6.alloc (.cells #[.string s0,.string s2] 9)) jb a h J vj):=HJ6.out.below qQ;have HA7:Hid (ak (w6.alloc (.cells #[.string s0,.string s2] 9)) ab 96 #[.string s0,.string s1,.string s2]):=HA6.out.below qQ HA6.out.lt;have HR7:Hid (ak (w6.alloc (.cells #[.string s0,.string s2] 9)) w.heap.size 34 #[.pointer none]/\ak (w6.alloc (.cells #[.string s0,.string s2] 9)) (w.heap.size+1) 39 #[.int .i64 0]):=⟨Xl.out.1.below qQ Xl.out.1.lt,Xl.out.2.below qQ Xl.out.2.lt⟩;have ae1:Hid (Jm (w6.alloc (.cells #[.string s0,.string s2] 9)) bx nx J.l):=ac1.out.below qQ;clear qQ oq HJ6 HA6 Xl ac1;generalize w6.alloc (.cells #[.string s0,.string s2] 9)=w7 at *;generalize w6.heap.size=rb at *;obtain⟨q,hq,hqi,hqr⟩:∃ q:Nat,q<2/\(if isRoot s0 J.l=true then (0:Int) else if isRoot s2 J.l=true then 1 else -1)=(q:Int)/\(#[Value.string s0,Value.string s2]:Array Value)[q]? =some (.string root):=by
  have hr:=Hro.out;unfold rootOf at hr;by_cases h0:isRoot s0 J.l=true
  ·rw[if_pos h0] at hr ⊢;cases hr;exact⟨0,by decide,rfl,rfl⟩
  ·rw[if_neg h0] at hr ⊢;by_cases h2:isRoot s2 J.l=true
   ·rw[if_pos h2] at hr ⊢;cases hr;exact⟨1,by decide,rfl,rfl⟩
   ·rw[if_neg h2] at hr;cases hr
 refine⟨trivial,?_⟩;gi_at_call 68;refine(callsIn_wide.2 (VJ w7 rb bx nx s0 s2 _ _ HRb.out (fun wx hB=>Jo wx bx nx J.l s0 (by rw[H32.out.1];decide) (ae1.out.below hB) Hbl.out ((HK.out.below wP.out).below hB)) (fun wx hB=>Jo wx bx nx J.l s2 (by rw[H32.out.2];decide) (ae1.out.below hB) Hbl.out ((HK.out.below wP.out).below hB)))).mono ?_;rintro e w8 ⟨rfl,Dw⟩;rw[hqi];have Hqi:=zh hqi;have XO:Hid (Below w.heap.size w w8):=wP.out.trans (Dw.mono wP.out.size);have HJ8:Hid (nU w8 jb a h J vj):=HJ7.out.below Dw;have HA8:Hid (ak w8 ab 96 #[.string s0,.string s1,.string s2]):=HA7.out.below Dw HA7.out.lt;have HR8:Hid (ak w8 w.heap.size 34 #[.pointer none]/\ak w8 (w.heap.size+1) 39 #[.int .i64 0]):=⟨HR7.out.1.below Dw HR7.out.1.lt,HR7.out.2.below Dw HR7.out.2.lt⟩;have ahJ:Hid (Jm w8 bx nx J.l):=ae1.out.below Dw;have aln:Hid (rb<w8.heap.size/\w8.cell? ⟨rb,q,none⟩=some (.string root)):=⟨(HRb.out.below Dw HRb.out.lt).lt,((HRb.out.below Dw HRb.out.lt).cell q).trans hqr⟩;clear wP HJ7 HA7 HR7 ae1 HRb Dw hqi hqr;have q0:(q:Int)<0 ↔ False:=by constructor<;>intro hh<;>first | omega | exact hh.elim
 have d0:decide ((q:Int)<0)=false:=dF (by omega);have q1:(0:Int)<=(q:Int):=by omega
 have q2:(q:Int)<2:=by omega
 gi_wp2_with fail;refine wpIn_wide.2 ?_;refine wp_region_noPanic ?_;have OU:Hid (∀ wx,Below w8.heap.size w8 wx->wx.cell? ⟨rb,q,none⟩=some (.string root)):=fun wx hB=>(hB.cell (p:=⟨rb,q,none⟩) aln.out.1).trans aln.out.2
 refine' acX (C:=fun vb tv W=>Below w8.heap.size w8 W/\ak W vb 79 #[.pointer (some ⟨a.d,0,none⟩),.pointer (some ⟨jb,0,none⟩),.string root,.string Z,.pointer none,.slice none 0 0,.bool false]/\ak W tv 34 #[.pointer (some ⟨vb,0,none⟩)]/\w8.heap.size<=vb) (fun hgo=> ?body) ?rest
 case body=>
  have HB0:Hid (Below w8.heap.size w8 w8.drew):=(bK _ w8).drew;refine yD (S:=(fun W=>W.cell? ⟨rb,q,none⟩=some (.string root))) (by kernel_rfl) (OU.out _ HB0.out) (fun zs=>?_);generalize w8.drew=w8d at *;refine' tk 0 rfl zs ?_;refine' tk 1 rfl zs ?_;refine' tk 2 rfl zs ?_;refine' tk 3 rfl zs ?_;refine' tk 4 rfl zs ?_;refine' tk 5 rfl zs ?_;refine wpAnyH_ready (rs:= [6,9]) (by kernel_rfl) (by simp) ?_;refine AllReadyH.cons rfl (fun K hK=>?_) (AllReadyH.cons rfl (fun K hK=>?_) AllReadyH.nil)
  ·go_simp;go_at_call 61;refine(HE.out _).mono ?_;rintro e9 VN ⟨rfl,oC⟩;have Jq:=zh (HB0.out.trans (oC.mono HB0.out.size));clear oC;refine hK.out _ _ (OU.out _ Jq.out) (fun zs=>?_);clear hK K;try simp only[sA,gA]
   refine' tk 7 rfl zs ?_;refine wpAnyH_ready (rs:= [8,9]) (by kernel_rfl) (by simp) ?_;refine AllReadyH.cons rfl (fun K hK=>?_) (AllReadyH.cons rfl (fun K hK=>?_) AllReadyH.nil)
   ·go_simp;have aou:=zh (ak.new VN 79 #[.pointer (some ⟨a.d,0,none⟩),.pointer (some ⟨jb,0,none⟩),.string root,.string Z,.pointer none,.slice none 0 0,.bool false]);have Sr:=zh (Jq.out.alloc Jq.out.size (.cells #[.pointer (some ⟨a.d,0,none⟩),.pointer (some ⟨jb,0,none⟩),.string root,.string Z,.pointer none,.slice none 0 0,.bool false] 79));have aov:=zh Jq.out.size;refine hK.out _ _ (OU.out _ Sr.out) (fun zs=>?_);clear hK K;try simp only[sA,gA]
    generalize World.alloc VN (.cells #[.pointer (some ⟨a.d,0,none⟩),.pointer (some ⟨jb,0,none⟩),.string root,.string Z,.pointer none,.slice none 0 0,.bool false] 79)=ae2 at *;generalize VN.heap.size=vb at *;refine td 9 rfl (fun K hK=>?_)
    ·go_simp;have ae3:=zh (ak.new ae2 34 #[.pointer none]);have VO:=zh (Sr.out.alloc Sr.out.size (.cells #[.pointer none] 34));have aow:=zh Sr.out.size;have afW:=zh (aou.out.alloc (.cells #[.pointer none] 34));refine hK.out _ _ (OU.out _ VO.out) (fun zs=>?_);clear hK K;try simp only[sA,gA]
     generalize World.alloc ae2 (.cells #[.pointer none] 34)=ae4 at *;generalize ae2.heap.size=tv at *;refine td 10 rfl (fun K hK=>?_);have ht0:=ae3.out.frozen 0;have hc0:ae4.cell? ⟨tv,0,none⟩=some (.pointer none):=ae3.out.cell 0
     ·go_simp;have HBs:=zh (VO.out.setCell (p:=⟨tv,0,none⟩) aow.out (.pointer (some ⟨vb,0,none⟩)));have HVs:=zh (afW.out.grown (au ae4 tv 0 (.pointer (some ⟨vb,0,none⟩))) (fun e=>afW.out.gY ae3.out (by decide) (Option.some.inj e)));have HTs:=zh (ae3.out.aB 0 (.pointer (some ⟨vb,0,none⟩)));refine hK.out _ _ ?_ (fun fM=>?_)
      ·exact OU.out _ HBs.out
      clear hK K zs fM;try simp only[sA,gA]
      refine wZ (by kernel_rfl) ?_ _;generalize World.setCell ae4 ⟨tv,0,none⟩ (.pointer (some ⟨vb,0,none⟩))=W9 at *;exact hgo vb tv W9 ⟨HBs.out,HVs.out,HTs.out,aov.out⟩
   ·go_simp;have aox:=zh (ak.new VN 34 #[.pointer none]);have ae5:=zh (Jq.out.alloc Jq.out.size (.cells #[.pointer none] 34));have aoy:=zh Jq.out.size;refine hK.out _ _ (OU.out _ ae5.out) (fun zs=>?_);clear hK K;try simp only[sA,gA]
    generalize World.alloc VN (.cells #[.pointer none] 34)=ahK at *;generalize VN.heap.size=tv at *;refine td 8 rfl (fun K hK=>?_)
    ·go_simp;have alp:=zh (ak.new ahK 79 #[.pointer (some ⟨a.d,0,none⟩),.pointer (some ⟨jb,0,none⟩),.string root,.string Z,.pointer none,.slice none 0 0,.bool false]);have alq:=zh (ae5.out.alloc ae5.out.size (.cells #[.pointer (some ⟨a.d,0,none⟩),.pointer (some ⟨jb,0,none⟩),.string root,.string Z,.pointer none,.slice none 0 0,.bool false] 79));have aoz:=zh ae5.out.size;have XG:=zh (aox.out.alloc (.cells #[.pointer (some ⟨a.d,0,none⟩),.pointer (some ⟨jb,0,none⟩),.string root,.string Z,.pointer none,.slice none 0 0,.bool false] 79));refine hK.out _ _ (OU.out _ alq.out) (fun zs=>?_);clear hK K;try simp only[sA,gA]
     generalize World.alloc ahK (.cells #[.pointer (some ⟨a.d,0,none⟩),.pointer (some ⟨jb,0,none⟩),.string root,.string Z,.pointer none,.slice none 0 0,.bool false] 79)=ahL at *;generalize ahK.heap.size=vb at *;refine td 10 rfl (fun K hK=>?_);have ht0:=XG.out.frozen 0;have hc0:ahL.cell? ⟨tv,0,none⟩=some (.pointer none):=XG.out.cell 0
     ·go_simp;have HBs:=zh (alq.out.setCell (p:=⟨tv,0,none⟩) aoy.out (.pointer (some ⟨vb,0,none⟩)));have HVs:=zh (alp.out.grown (au ahL tv 0 (.pointer (some ⟨vb,0,none⟩))) (fun e=>alp.out.gY XG.out (by decide) (Option.some.inj e)));have HTs:=zh (XG.out.aB 0 (.pointer (some ⟨vb,0,none⟩)));refine hK.out _ _ ?_ (fun fM=>?_)
      ·exact OU.out _ HBs.out
      clear hK K zs fM;try simp only[sA,gA]
      refine wZ (by kernel_rfl) ?_ _;generalize World.setCell ahL ⟨tv,0,none⟩ (.pointer (some ⟨vb,0,none⟩))=W9 at *;exact hgo vb tv W9 ⟨HBs.out,HVs.out,HTs.out,aoz.out⟩
  ·go_simp;have alr:=zh (ak.new w8d 34 #[.pointer none]);have ahM:=zh (HB0.out.alloc HB0.out.size (.cells #[.pointer none] 34));have aoA:=zh HB0.out.size;refine hK.out _ _ (OU.out _ ahM.out) (fun zs=>?_);clear hK K;try simp only[sA,gA]
   generalize World.alloc w8d (.cells #[.pointer none] 34)=ar5 at *;generalize w8d.heap.size=tv at *;refine td 6 rfl (fun K hK=>?_)
   ·go_simp;go_at_call 61;refine(HE.out _).mono ?_;rintro e9 ahN ⟨rfl,oC⟩;have ae6:=zh (ahM.out.trans (oC.mono ahM.out.size));have aoB:=zh (alr.out.below oC alr.out.lt);clear oC;refine hK.out _ _ (OU.out _ ae6.out) (fun zs=>?_);clear hK K;try simp only[sA,gA]
    refine' tk 7 rfl zs ?_;refine td 8 rfl (fun K hK=>?_)
    ·go_simp;have afY:=zh (ak.new ahN 79 #[.pointer (some ⟨a.d,0,none⟩),.pointer (some ⟨jb,0,none⟩),.string root,.string Z,.pointer none,.slice none 0 0,.bool false]);have afZ:=zh (ae6.out.alloc ae6.out.size (.cells #[.pointer (some ⟨a.d,0,none⟩),.pointer (some ⟨jb,0,none⟩),.string root,.string Z,.pointer none,.slice none 0 0,.bool false] 79));have als:=zh ae6.out.size;have OH:=zh (aoB.out.alloc (.cells #[.pointer (some ⟨a.d,0,none⟩),.pointer (some ⟨jb,0,none⟩),.string root,.string Z,.pointer none,.slice none 0 0,.bool false] 79));refine hK.out _ _ (OU.out _ afZ.out) (fun zs=>?_);clear hK K;try simp only[sA,gA]
     generalize World.alloc ahN (.cells #[.pointer (some ⟨a.d,0,none⟩),.pointer (some ⟨jb,0,none⟩),.string root,.string Z,.pointer none,.slice none 0 0,.bool false] 79)=ac2 at *;generalize ahN.heap.size=vb at *;refine td 10 rfl (fun K hK=>?_);have ht0:=OH.out.frozen 0;have hc0:ac2.cell? ⟨tv,0,none⟩=some (.pointer none):=OH.out.cell 0
     ·go_simp;have HBs:=zh (afZ.out.setCell (p:=⟨tv,0,none⟩) aoA.out (.pointer (some ⟨vb,0,none⟩)));have HVs:=zh (afY.out.grown (au ac2 tv 0 (.pointer (some ⟨vb,0,none⟩))) (fun e=>afY.out.gY OH.out (by decide) (Option.some.inj e)));have HTs:=zh (OH.out.aB 0 (.pointer (some ⟨vb,0,none⟩)));refine hK.out _ _ ?_ (fun fM=>?_)
      ·exact OU.out _ HBs.out
      clear hK K zs fM;try simp only[sA,gA]
      refine wZ (by kernel_rfl) ?_ _;generalize World.setCell ac2 ⟨tv,0,none⟩ (.pointer (some ⟨vb,0,none⟩))=W9 at *;exact hgo vb tv W9 ⟨HBs.out,HVs.out,HTs.out,als.out⟩
 rintro vb tv w9 ⟨oC,hV9,hT9,hvz⟩;refine NoPanic.normal ?_;clear OU;obtain⟨w10,VP⟩:∃ w10,w9.alloc (.cells #[.string ⟨#[]⟩] 9)=w10:=⟨_,rfl⟩;have Jj:Below w9.heap.size w9 w10:=by rw[<-VP];exact(bK _ w9).alloc (aF _) _
 have hbf:ak w10 w9.heap.size 9 #[.string ⟨#[]⟩]:=by rw[<-VP];exact ak.new _ _ _
 have VQ:=hV9.below Jj hV9.lt;have VR:=hT9.below Jj hT9.lt;have hs10:w10.heap.size=w9.heap.size+1:=by rw[<-VP];simp
 have y1:(w9.alloc (.cells #[.string ⟨#[]⟩] 9)).cell? ⟨tv,0,none⟩=some (.pointer (some ⟨vb,0,none⟩)):=by rw[VP];exact VR.cell 0
 have y2:(w9.alloc (.cells #[.string ⟨#[]⟩] 9)).cell? ⟨vb,2,none⟩=some (.string root):=by rw[VP];exact VQ.cell 2
 have alv:=zh VP;clear VP;have HX:=zh (And.intro oC (And.intro hV9 (And.intro hT9 (And.intro hvz (And.intro Jj (And.intro hbf (And.intro VQ (And.intro VR hs10))))))));clear oC hV9 hT9 hvz Jj hbf VQ VR hs10;gi_wp2_with (refine⟨trivial,?_⟩;gi_at_call 71;rw[alv.out];refine(callsIn_wide.2 (VI w10 jb root)).mono ?_;rintro e ZU ⟨rfl,VT⟩;have alx:=zh VT;clear VT);obtain⟨oC,hV9,hT9,hvz,Jj,hbf,VQ,VR,hs10⟩:=HX.out;have hI0:zO w8 a.d jb vb tv w9.heap.size w10.heap.size (w10.heap.size+1) root rd0 ZU.heap.size (.pointer none) (.slice none 0 0) ZU:=by
  have VT:=alx.out;have Ec:Below w10.heap.size w10 ZU:=by
   rw[VT];exact((bK _ w10).alloc (aF _) _).alloc ((bK _ w10).alloc (aF _) _).size _
  have hs11:ZU.heap.size=w10.heap.size+1+1:=by rw[VT];simp
  have hj:ak ZU w10.heap.size 76 #[.pointer (some ⟨jb,0,none⟩)]:=by rw[VT];exact(ak.new w10 _ _).alloc _
  have hr:ak ZU (w10.heap.size+1) 9 #[.string root]:=by
   rw[VT];have:=ak.new (w10.alloc (.cells #[.pointer (some ⟨jb,0,none⟩)] 76)) 9 #[.string root];rw[oz] at this;exact this
  have hz9:=oC.size;have e0:rd0.chain=Z:=HZe.out;refine⟨oC.trans ((Jj.trans (Ec.mono Jj.size)).mono hz9),⟨hvz,hz9⟩,VR.below Ec VR.lt,hj,hr,hbf.below Ec hbf.lt,by rw[e0];exact VQ.below Ec VQ.lt,.inl ⟨rfl,rfl⟩,Ju _ _ _ _,fun _=>rfl,⟨by omega,by omega,by omega,aF _,by omega⟩⟩
 clear alv y1 y2 HX alx oC hV9 hT9 hvz Jj hbf VQ VR hs10;have HI0:=zh hI0;clear hI0;generalize w9.heap.size=bf at *;generalize w10.heap.size+1=rx at *;generalize w10.heap.size=jx at *;have hrz:root.size=32:=by
  have hr:=Hro.out;unfold rootOf at hr;split at hr
  ·cases hr;exact H32.out.1
  ·split at hr
   ·cases hr;exact H32.out.2
   ·cases hr
 have Hrz:=zh hrz;have hIw:w8.heap.size<=ZU.heap.size:=HI0.out.b.size;refine acY (fun T hT=>?_);have HT:=zh hT;refine zM (Ws:=VL vb bf) rfl (by decide) (gf:=110) (lb:= #[.pointer (some ⟨jx,0,none⟩),.pointer (some ⟨rx,0,none⟩)]) (by rw[hT];rfl) trivial (enters_of Tryz.func110 (by kernel_rfl) rfl)
  (Sl (VL vb bf) jx rx jb h a J root Hll.out hrz Hbl.out) (fun _=>rfl)
  (fun pre W=>∃ R0 lo p u,l9 root J.l pre.length=some R0/\zO w8 a.d jb vb tv bf jx rx root R0 lo p u W) (fun _ _ _=>False) ?own (fun _ _ _ _ _ h _ _=>h) ?hws ?hwl ?hg (fun pre x _ W W' row h hg hr=>h) ⟨rd0,_,_,_,rfl,HI0.out⟩
  (fun pre x a₁ W=>∃ k,a₁= { tmps:=(((T.setIfInBounds 73 (.int .i64 (x.1:Int))).setIfInBounds 74 (Df x.2)).setIfInBounds 13 (.int .i64 (x.1:Int))).setIfInBounds 14 (.pointer (some ⟨k,0,none⟩)),defers:= [] }/\ak W k 104 (pY x.2)/\w8.heap.size<=k) ?has ?assign ?body ?done ?stop
 case own=>
  rintro pre W W' row ⟨R0,lo,p,u,h1,h2⟩ hg hr;exact⟨R0,lo,p,u,h1,h2.grown hg (fun r e=>⟨fU hIw (hr r e).1,(hr r e).2⟩)⟩
 case hws=>
  rintro pre A B row ⟨R0,lo,p,u,h1,h2⟩ hg hr k hk;refine VL.of_cell ?_ hk;exact((h2.rZ.grown hg (fJ h2.rZ (fun r e=>(hr r e).2))).cell 5).trans (h2.rZ.cell 5).symm
 case hwl=>
  rintro pre A k ⟨R0,lo,p,u,h1,h2⟩ (rfl | rfl | ⟨u',e1,e2⟩)
  ·exact h2.rZ.lt
  ·exact h2.Tf.lt
  ·rw[h2.rZ.cell 5] at e1;cases e1;exact(h2.row.lt _ e2).2
 case hg=>
  rintro pre W1 ⟨R0,lo,p,u,h1,h2⟩;exact⟨h2.jxB,h2.rxB,⟨vj,HJ8.out.below h2.b⟩,(HK.out.below XO.out).below h2.b⟩
 case has=>
  rintro pre x a₁ _ W W' row ⟨k,e,hk,hz⟩ hg hr;exact⟨k,e,hk.grown hg (fJ hk (fun r e=>(hr r e).2)),hz⟩
 case assign=>
  rintro lv pre ⟨z,P⟩ W K hW ⟨R0,lo,p,u,h1,h2⟩ hK;have HK2:=zh hK;have hz2:=h2.b.size;have Hz2:=zh hz2;clear hK h1 h2 hz2;subst hT;dsimp only[acT,Df,pY]
  gi_wp2
  exact HK2.out _ _ ⟨W.heap.size,rfl,ak.new _ _ _,Hz2.out⟩ ((bK _ _).alloc (aF _) _)
 case body=>
  obtain⟨i0,hi,hz0,hz1,hz2⟩:=info_parts iw;rintro lv pre x _ W hW ⟨R0,lo,p,u,hR0,hI⟩ ⟨e,he,rfl⟩ ⟨k,rfl,hk,hkz⟩;have hlen:pre.length<J.l.length:=(List.getElem?_eq_some_iff.1 he).1;obtain⟨R1,hR1⟩:∃ R1,l9 root J.l (pre.length+1)=some R1:=by
   cases hq:l9 root J.l (pre.length+1) with
   | some R1=>exact⟨R1,rfl⟩
   | none=>
    have h1:=Hrd.out;have h2:=AV hq J.l.length (by omega);unfold jR at h1;rw[h2] at h1;cases h1
  have hstep:=Ja hR0 he;rw[hR1] at hstep;have hbe:=Hbl.out e (zI he);have ae7:R0.chain.size=32:=rV hR0;have aly:(dH root e.1 e.2).kind=73->(dH root e.1 e.2).start.size=32:=fun h=>by rcases Jp root e.1 e.2 with h1 | h1 | ⟨h1,h2⟩<;>first | exact h2 | (rw[h1] at h;cases h)
  have hmx:Hid (R0.texts.length+1<=maxLen/\R0.texts.length<=1048576):=by
   have h1:=sU hR0;have h2:=Hll.out;unfold Hid maxLen;omega
  obtain⟨Ab,cb,b1,b2⟩:=ahJ.out.b;obtain⟨An,cn,n1,n2⟩:=ahJ.out.n;obtain⟨gb,rfl,gbl,gbc⟩:=b2 _ e he;obtain⟨gn,rfl,gnl,gnc⟩:=n2 _ e he;rw[HL.out] at b1 n1;obtain⟨pl,hpl⟩:∃ pl,pre.length=pl:=⟨_,rfl⟩;rw[HL.out,hpl] at hlen;rw[hpl] at gbc gnc hR1 hstep;have ZK:Hid (∀ (R':JA) (lo':Nat) (p' u':Value) (W':World),zO w8 a.d jb vb tv bf jx rx root R' lo' p' u' W'->∀ {c0:ByteArray},R'.chain=c0->W'.cell? ⟨tv,0,none⟩=some (.pointer (some ⟨vb,0,none⟩))/\W'.cell? ⟨vb,3,none⟩=some (.string c0)/\W'.cell? ⟨nx,0,none⟩=some (.slice (some ⟨gn,0,none⟩) L cn)/\W'.cell? ⟨gn,pl,none⟩=some (.int .i64 (e.1:Int))/\W'.cell? ⟨bx,0,none⟩=some (.slice (some ⟨gb,0,none⟩) L cb)/\W'.cell? ⟨gb,pl,none⟩=some (.string e.2)):=
   fun R' lo' p' u' W' q c0 hc=>⟨q.Td.cell 0,by rw[<-hc];exact q.rZ.cell 3,(n1.below q.b n1.lt).cell 0,(q.b.cell (p:=⟨gn,pl,none⟩) gnl).trans gnc,(b1.below q.b b1.lt).cell 0,(q.b.cell (p:=⟨gb,pl,none⟩) gbl).trans gbc⟩
  have HLk:Hid (∀ (R':JA) (lo':Nat) (p' u':Value) (W':World),zO w8 a.d jb vb tv bf jx rx root R' lo' p' u' W'->∀ c0:ByteArray,c0.size=32->Calls Tryz.prog 11 #[.string c0,.int .i64 (e.1:Int),.string e.2] W' fun e' w'=>e'= .returned (.string (dG c0 e.1 e.2))/\Below W'.heap.size W' w'):=
   fun R' lo' p' u' W' q c0 hc=>zG W' c0 e.2 e.1 hbe.1 (by rw[hc];decide) hbe.2 ((HK.out.below XO.out).below q.b)
  subst hT;simp only[List.setIfInBounds_toArray,List.set_cons_zero,List.set_cons_succ];have hi1:(0:Int)<=(pl:Int):=by omega
  have hi2:(pl:Int)<(L:Int):=by omega
  rw[hpl];unfold rdStep at hstep;obtain⟨P,hP⟩:∃ P,dH root e.1 e.2=P:=⟨_,rfl⟩;rw[hP] at hstep aly hk ⊢;obtain⟨kd,ps,pt⟩:=P;have x0:W.cell? ⟨k,0,none⟩=some (.int .u8 (kd:Int)):=hk.cell 0;by_cases hbad:kd=0\/(kd=73/\decide (pl=0)=false)
  ·rw[if_pos hbad] at hstep;cases hstep
  rw[if_neg hbad] at hstep;by_cases Iu:kd=73
  ·rw[if_pos Iu] at hstep;have hRe:R1=⟨dG ps e.1 e.2,ps,some pt,R0.texts⟩:=Option.some.inj hstep;have hp0:pl=0:=by
    by_cases h:pl=0
    ·exact h
    ·exact absurd (.inr ⟨Iu,dF h⟩) hbad
   have hps:=aly Iu;have hpe:pre= []:=ZX (hpl.trans hp0);have htx:R0.texts= []:=by
    have:=hR0;rw[hpe] at this;cases this;rfl
   subst Iu;have hpn:¬ (0:Int)<(pl:Int):=by omega
   have hpd:decide ((0:Int)<(pl:Int))=false:=dF hpn;clear hp0 hpe;have x0:W.cell? ⟨k,0,none⟩=some (.int .u8 73):=x0;clear hstep hbad;gi_wp2_with fail;refine BD (S:=(fun W=>W.cell? ⟨tv,0,none⟩=some (.pointer (some ⟨vb,0,none⟩))/\W.cell? ⟨k,1,none⟩=some (.string ps))) (by kernel_rfl) (by kernel_rfl) (by rintro⟨a,w,h⟩;exact h) ⟨hI.drew.Td.cell 0,hk.drew.cell 1⟩ (fun zs=>?_);refine' tk 0 rfl zs ?_;refine' tk 1 rfl zs ?_;refine' tk 2 rfl zs ?_;refine' tk 3 rfl zs ?_;refine' tk 4 rfl zs ?_;refine' tk 5 rfl zs ?_;refine' tk 6 rfl zs ?_;have hId:=hI.drew;have ac3:=Rnd.drew (vb:=vb) (bf:=bf) W;have hkd:=hk.drew;clear hI hk;generalize W.drew=Wd at *;have g0:Wd.cell? ⟨vb,3,none⟩=some (.string R0.chain):=hId.rZ.cell 3;have g1:=hId.rZ.frozen 3;have hI2:=hId.ahE ps;have rd1:=ac3.trans (Rnd.set (bf:=bf) hId.rZ (i:=3) (by decide) (.string ps));have hk2:=hkd.grown (au Wd vb 3 (.string ps)) (fun e=>hkd.gY hId.rZ (by decide) (Option.some.inj e));refine td 7 rfl (fun K hK=>?_);go_simp;refine hK.out _ _ ⟨hI2.Td.cell 0,hk2.cell 1⟩ (fun fM=>?_);clear hK K zs g0 g1;have zs:=fM;clear fM;try simp only[sA,gA]
   generalize Wd.setCell ⟨vb,3,none⟩ (.string ps)=We at *;refine' tk 8 rfl zs ?_;refine' tk 9 rfl zs ?_;have g0:We.cell? ⟨vb,4,none⟩=some p:=hI2.rZ.cell 4;have g1:=hI2.rZ.frozen 4;have Dx:=hI2.aoo htx hk2 hkz;have rd2:=rd1.trans (Rnd.set (bf:=bf) hI2.rZ (i:=4) (by decide) (.pointer (some ⟨k,2,none⟩)));have hk3:=hk2.grown (au We vb 4 (.pointer (some ⟨k,2,none⟩))) (fun e=>hk2.gY hI2.rZ (by decide) (Option.some.inj e));refine td 10 rfl (fun K hK=>?_);go_simp;refine hK.out _ _ ⟨Dx.Td.cell 0,hk3.cell 1⟩ (fun fM=>?_);clear hK K zs g0 g1 fM;try simp only[sA,gA]
   refine wZ (by kernel_rfl) ?_ _;obtain⟨c0,hc0⟩:∃ c0,ps=c0:=⟨_,rfl⟩;obtain⟨b0,hb0⟩:∃ b0,R0.before=b0:=⟨_,rfl⟩;have hJ:=Dx;have hrd:=rd2;clear Dx rd2 hI2 rd1 hId ac3 hk3 hk2 hkd x0;have hcz:c0.size=32:=by rw[<-hc0];exact hps
   rw[hc0] at hRe;generalize World.setCell We _ _=Wf at *;gi_wp2_with fail;refine oh (S:=(fun W=>W.cell? ⟨tv,0,none⟩=some (.pointer (some ⟨vb,0,none⟩))/\W.cell? ⟨vb,3,none⟩=some (.string c0)/\W.cell? ⟨nx,0,none⟩=some (.slice (some ⟨gn,0,none⟩) L cn)/\W.cell? ⟨gn,pl,none⟩=some (.int .i64 (e.1:Int))/\W.cell? ⟨bx,0,none⟩=some (.slice (some ⟨gb,0,none⟩) L cb)/\W.cell? ⟨gb,pl,none⟩=some (.string e.2))) 21 (by kernel_rfl) (by kernel_rfl) (by rintro⟨a,w,h⟩;exact h) (ZK.out _ _ _ _ _ hJ.drew hc0) (fun zs=>?_);refine' tl 0 rfl zs ?_;refine' tl 1 rfl zs ?_;refine' tl 2 rfl zs ?_;refine' tl 3 rfl zs ?_;refine' tl 4 rfl zs ?_;refine' tl 5 rfl zs ?_;refine' tl 6 rfl zs ?_;refine' tl 7 rfl zs ?_;refine' tl 8 rfl zs ?_;refine' tl 9 rfl zs ?_;refine' tl 10 rfl zs ?_;refine' tl 11 rfl zs ?_;refine' tl 12 rfl zs ?_;refine' tl 13 rfl zs ?_;refine' tl 14 rfl zs ?_;refine' tl 15 rfl zs ?_;refine' tl 16 rfl zs ?_;have hJd:=hJ.drew;have rdd:=hrd.trans (Rnd.drew _);clear hJ hrd;generalize World.drew _=Wd at *;refine aN (rs:= [17]) (by kernel_rfl) (by simp) ?_;refine aI.cons rfl (fun K hK=>?_) aI.nil
   ·go_simp;go_at_call 11;refine(HLk.out _ _ _ _ _ hJd c0 hcz).mono ?_;rintro e9 w5 ⟨rfl,oC⟩;have ZL:=hJd.below oC;have rd5:=rdd.trans (Rnd.below hJd.rZ.lt oC);refine hK.out _ _ (ZK.out _ _ _ _ _ ZL hc0) (fun fM=>?_);clear hK K zs;have zs:=fM;clear fM;try simp only[sA,gA]
    have k0:w5.cell? ⟨bf,0,none⟩=some (.string b0):=by rw[<-hb0];exact ZL.Tf.cell 0
    have k1:=ZL.Tf.frozen 0;have Ue:=ZL.setB c0;have rd6:=rd5.trans (Rnd.setB ZL.ne ZL.rZ.lt 0 (.string c0));refine aN (rs:= [18]) (by kernel_rfl) (by simp) ?_;refine aI.cons rfl (fun K hK=>?_) aI.nil;go_simp;refine hK.out _ _ (ZK.out _ _ _ _ _ Ue hc0) (fun fM=>?_);clear hK K zs k0 k1;have zs:=fM;clear fM;try simp only[sA,gA]
    generalize w5.setCell ⟨bf,0,none⟩ (.string c0)=w6 at *;refine' tl 19 rfl zs ?_;refine' tl 20 rfl zs ?_;have g0:w6.cell? ⟨vb,3,none⟩=some (.string c0):=by rw[<-hc0];exact Ue.rZ.cell 3
    have g1:=Ue.rZ.frozen 3;refine aN (rs:= [21]) (by kernel_rfl) (by simp) ?_;refine aI.last rfl (fun K hK=>?_);go_simp;refine hK.out _ _ ?_;clear hK K zs g0 g1;try simp only[sA,gA]
    refine bZ (by kernel_rfl) ?_ _;have hfin:=Ue.ahE (dG c0 e.1 e.2);have VU:=rd6.trans (Rnd.set (bf:=bf) Ue.rZ (i:=3) (by decide) (.string (dG c0 e.1 e.2)));exact⟨VU.o,VU.c,VU.s,_,_,_,_,by rw[kM,hpl];exact hR1,by rw[hRe];exact hfin⟩
  ·rw[if_neg Iu] at hstep;have hRe:R1=⟨dG R0.chain e.1 e.2,R0.chain,R0.image,R0.texts++ [pt]⟩:=Option.some.inj hstep;obtain rfl:kd=82:=by
    have:=Jp root e.1 e.2;rw[hP] at this;rcases this with h | h | ⟨h,_⟩
    ·exact absurd (.inl h) hbad
    ·exact h
    ·exact absurd h Iu
   have x0:W.cell? ⟨k,0,none⟩=some (.int .u8 82):=x0;clear hstep hbad Iu;gi_wp2_with fail;refine oh (S:=(fun W=>W.cell? ⟨tv,0,none⟩=some (.pointer (some ⟨vb,0,none⟩))/\W.cell? ⟨vb,5,none⟩=some u/\W.cell? ⟨k,2,none⟩=some (.string pt))) 11 (by kernel_rfl) (by kernel_rfl) (by rintro⟨a,w,h⟩;exact h) ⟨hI.drew.Td.cell 0,hI.drew.rZ.cell 5,hk.drew.cell 2⟩ (fun zs=>?_);refine' tl 0 rfl zs ?_;refine' tl 1 rfl zs ?_;refine' tl 2 rfl zs ?_;refine' tl 3 rfl zs ?_;refine' tl 4 rfl zs ?_;refine' tl 5 rfl zs ?_;refine' tl 6 rfl zs ?_;have hId:=hI.drew;have ac3:=Rnd.drew (vb:=vb) (bf:=bf) W;have hkd:=hk.drew;clear hI hk;generalize W.drew=Wd at *;have hBe:Below Wd.heap.size Wd (Wd.alloc (.cells #[.string pt] 9)):=(bK _ Wd).alloc (aF _) _;have hn0:=ak.new Wd 9 #[.string pt];have hIe:=hId.below hBe;have hke:=hkd.below hBe hkd.lt;have hse:(Wd.alloc (.cells #[.string pt] 9)).heap.size=Wd.heap.size+1:=by simp
   refine aN (rs:= [7]) (by kernel_rfl) (by simp) ?_;refine aI.cons rfl (fun K hK=>?_) aI.nil;go_simp;refine hK.out _ _ ⟨hIe.Td.cell 0,hIe.rZ.cell 5,hke.cell 2⟩ (fun fM=>?_);clear hK K zs;have zs:=fM;clear fM;try simp only[sA,gA]
   generalize hWe:Wd.alloc (.cells #[.string pt] 9)=We at *;refine aN (rs:= [8]) (by kernel_rfl) (by simp) ?_;refine aI.cons rfl (fun K hK=>?_) aI.nil;refine step_append_lies _ (by rfl) _ _ _ (by rfl) lo 9 i0 _ 1 16 Tryz.underlying35 hi hz0 hz1 hz2 rfl (by decide) u R0.texts.length (strCells R0.texts) (by rfl) hIe.row ⟨Wd.heap.size,0,none⟩ 1 1 [.string pt] (by rfl) (by rfl) (fun j v hv=>World.news_of_block hn0 j v hv) (by simp[Value.oneCell']) (by omega) hmx.out.1 (by have:=hmx.out.2;omega) hIe.AX.2.2.2.1 (Wd.heap.size+1) hse ?_;intro g2 cap w4 hown4 hgrow4 alA _;obtain⟨q0,q1,q2,q3⟩:=hId.app hBe hown4 hgrow4;have rd1:=ac3.trans (hId.ahF (n:=R0.texts.length+1) (c:=cap) hBe hgrow4 (alA.imp id (fun e=>by omega)));have hk4:=hke.grown hgrow4 (fun e=>aA q0.row hke (by decide) e.symm);refine hK.out _ _ ⟨q2.cell 0,q1.cell 5,hk4.cell 2⟩ (fun fM=>?_);clear hK K zs hown4 hgrow4 alA;have zs:=fM;clear fM;try simp only[sA,gA]
   refine' tl 9 rfl zs ?_;refine' tl 10 rfl zs ?_;have g0:w4.cell? ⟨vb,5,none⟩=some u:=q1.cell 5;have g1:=q1.frozen 5;have hk5:=hk4.grown (au w4 vb 5 (.slice (some ⟨g2,0,none⟩) (R0.texts.length+1) cap)) (fun e=>hk4.gY q1 (by decide) (Option.some.inj e));refine aN (rs:= [11]) (by kernel_rfl) (by simp) ?_;refine aI.last rfl (fun K hK=>?_);go_simp;refine hK.out _ _ ?_;clear hK K zs g0 g1;try simp only[sA,gA]
   refine bZ (by kernel_rfl) ?_ _;obtain⟨c0,hc0⟩:∃ c0,R0.chain=c0:=⟨_,rfl⟩;obtain⟨b0,hb0⟩:∃ b0,R0.before=b0:=⟨_,rfl⟩;rw[hc0] at hRe ae7;have hcz:=ae7;have hJ:=q3;have hrd:=rd1;clear q0 q1 q2 q3 rd1 hId ac3 hk5 hk4 hke hkd x0 hIe hn0 hBe hWe;generalize World.setCell w4 _ _=Wf at *;gi_wp2_with fail;refine oh (S:=(fun W=>W.cell? ⟨tv,0,none⟩=some (.pointer (some ⟨vb,0,none⟩))/\W.cell? ⟨vb,3,none⟩=some (.string c0)/\W.cell? ⟨nx,0,none⟩=some (.slice (some ⟨gn,0,none⟩) L cn)/\W.cell? ⟨gn,pl,none⟩=some (.int .i64 (e.1:Int))/\W.cell? ⟨bx,0,none⟩=some (.slice (some ⟨gb,0,none⟩) L cb)/\W.cell? ⟨gb,pl,none⟩=some (.string e.2))) 21 (by kernel_rfl) (by kernel_rfl) (by rintro⟨a,w,h⟩;exact h) (ZK.out _ _ _ _ _ hJ.drew hc0) (fun zs=>?_);refine' tl 0 rfl zs ?_;refine' tl 1 rfl zs ?_;refine' tl 2 rfl zs ?_;refine' tl 3 rfl zs ?_;refine' tl 4 rfl zs ?_;refine' tl 5 rfl zs ?_;refine' tl 6 rfl zs ?_;refine' tl 7 rfl zs ?_;refine' tl 8 rfl zs ?_;refine' tl 9 rfl zs ?_;refine' tl 10 rfl zs ?_;refine' tl 11 rfl zs ?_;refine' tl 12 rfl zs ?_;refine' tl 13 rfl zs ?_;refine' tl 14 rfl zs ?_;refine' tl 15 rfl zs ?_;refine' tl 16 rfl zs ?_;have hJd:=hJ.drew;have rdd:=hrd.trans (Rnd.drew _);clear hJ hrd;generalize World.drew _=Wd at *;refine aN (rs:= [17]) (by kernel_rfl) (by simp) ?_;refine aI.cons rfl (fun K hK=>?_) aI.nil
   ·go_simp;go_at_call 11;refine(HLk.out _ _ _ _ _ hJd c0 hcz).mono ?_;rintro e9 w5 ⟨rfl,oC⟩;have ZL:=hJd.below oC;have rd5:=rdd.trans (Rnd.below hJd.rZ.lt oC);refine hK.out _ _ (ZK.out _ _ _ _ _ ZL hc0) (fun fM=>?_);clear hK K zs;have zs:=fM;clear fM;try simp only[sA,gA]
    have k0:w5.cell? ⟨bf,0,none⟩=some (.string b0):=by rw[<-hb0];exact ZL.Tf.cell 0
    have k1:=ZL.Tf.frozen 0;have Ue:=ZL.setB c0;have rd6:=rd5.trans (Rnd.setB ZL.ne ZL.rZ.lt 0 (.string c0));refine aN (rs:= [18]) (by kernel_rfl) (by simp) ?_;refine aI.cons rfl (fun K hK=>?_) aI.nil;go_simp;refine hK.out _ _ (ZK.out _ _ _ _ _ Ue hc0) (fun fM=>?_);clear hK K zs k0 k1;have zs:=fM;clear fM;try simp only[sA,gA]
    generalize w5.setCell ⟨bf,0,none⟩ (.string c0)=w6 at *;refine' tl 19 rfl zs ?_;refine' tl 20 rfl zs ?_;have g0:w6.cell? ⟨vb,3,none⟩=some (.string c0):=by rw[<-hc0];exact Ue.rZ.cell 3
    have g1:=Ue.rZ.frozen 3;refine aN (rs:= [21]) (by kernel_rfl) (by simp) ?_;refine aI.last rfl (fun K hK=>?_);go_simp;refine hK.out _ _ ?_;clear hK K zs g0 g1;try simp only[sA,gA]
    refine bZ (by kernel_rfl) ?_ _;have hfin:=Ue.ahE (dG c0 e.1 e.2);have VU:=rd6.trans (Rnd.set (bf:=bf) Ue.rZ (i:=3) (by decide) (.string (dG c0 e.1 e.2)));exact⟨VU.o,VU.c,VU.s,_,_,_,_,by rw[kM,hpl];exact hR1,by rw[hRe];exact hfin⟩
 case done=>
  rintro E xs W hE hxs ⟨R0,lo,p,u,hR0,hI⟩ hKd;obtain rfl:R0=R:=by
   have h1:=Hrd.out;unfold jR at h1;rw[hxs] at hR0;rw[hR0] at h1;exact Option.some.inj h1
  subst hT;obtain⟨Ab,cb,b1,_⟩:=ahJ.out.b;have ae7:R0.chain.size=32:=rV hR0;rw[HL.out] at b1;have hab:=HA8.out.below hI.b HA8.out.lt;have hbx:=b1.below hI.b b1.lt;obtain⟨NL,hNL⟩:∃ NL,needed D.slots [(0,root),(1,R0.chain),(2,zero32)]=NL:=⟨_,rfl⟩;have Hvo:Hid (iR h D=if s1≠R0.chain/\(J.l= []\/s1≠R0.before) then (9,none,D) else if (aH NL D).1=0 then (0,some ⟨J,root,R0.chain,R0.image,R0.texts⟩,(aH NL D).2) else (14,none,(aH NL D).2)):=by
   have aoF:needed [s0,s1,s2] [(0,root),(1,R0.chain),(2,zero32)]=NL:=by rw[<-Hs.out];exact hNL
   unfold Hid iR;rw[Hs.out,HJe.out];have g0:([s0,s1,s2]:List ByteArray).getD 0 ⟨#[]⟩=s0:=rfl;have g1:([s0,s1,s2]:List ByteArray).getD 1 ⟨#[]⟩=s1:=rfl;have g2:([s0,s1,s2]:List ByteArray).getD 2 ⟨#[]⟩=s2:=rfl;rw[g0,g1,g2,if_neg (fun e=>HZn.out e.1),Hro.out];dsimp only;rw[Hrd.out];dsimp only;rw[aoF]
  have hrE:w.heap.size<=E:=fU XO.out.size (fU hIw hE);obtain⟨c0,hc0⟩:∃ c0,R0.chain=c0:=⟨_,rfl⟩;obtain⟨b0,hb0⟩:∃ b0,R0.before=b0:=⟨_,rfl⟩;have Sv:Hid (W.drew.cell? ⟨ab,1,none⟩=some (.string s1)/\W.drew.cell? ⟨tv,0,none⟩=some (.pointer (some ⟨vb,0,none⟩))/\W.drew.cell? ⟨vb,3,none⟩=some (.string c0)/\W.drew.cell? ⟨bx,0,none⟩=some (.slice Ab L cb)/\W.drew.cell? ⟨bf,0,none⟩=some (.string b0)):=
   ⟨hab.drew.cell 1,hI.drew.Td.cell 0,by rw[<-hc0];exact hI.drew.rZ.cell 3,hbx.drew.cell 0,by rw[<-hb0];exact hI.drew.Tf.cell 0⟩
  have hBW:Below w.heap.size w W:=XO.out.trans (hI.b.mono XO.out.size);have hlw:w.heap.size<=w8.heap.size:=XO.out.size;have hlo:=hI.AX;have hsb:a.sb<w.heap.size:=by
   obtain⟨_,q⟩:=HD.out.Bl;exact q.lt
  have wJ:kH W.drew ⟨a,jb,vb,lo⟩ h ⟨J,root,R0.chain,R0.image,R0.texts⟩ D p u:=by
   refine⟨(HD.out.below hBW).below (bK _ _).drew,⟨vj,(HJ8.out.below hI.b).below (bK _ _).drew⟩,hI.drew.rZ,?_,hI.drew.row,by show a.sb<lo;omega,fun g i e=>?_,hI.drew.AX.2.2.2.1⟩
   ·rcases hI.drew.img with e | ⟨g,P,e1,e2,e3,e4,e5⟩
    ·exact .inl e
    ·exact .inr ⟨g,2,P.text,104,pY P,e2,e1,e3,rfl,.inr rfl,by show g≠a.sb;omega⟩
   ·rcases hI.img with e1 | ⟨g',P,e1,e2,e3,e4,e5⟩
    ·rw[e1.2] at e;cases e
    ·rw[e1] at e;cases e;exact e4
  have Dh:=zh wJ;have HTv:=zh hI.drew.Td;have HRr:Hid (ak W.drew w.heap.size 34 #[.pointer none]/\ak W.drew (w.heap.size+1) 39 #[.int .i64 0]):=⟨(HR8.out.1.below hI.b HR8.out.1.lt).drew,(HR8.out.2.below hI.b HR8.out.2.lt).drew⟩;have ZM:=zh (Sm (nd:=ndO [s0,s1,s2]) (lx:=ab) wJ Hon.out (by rw[Hs.out];rfl) hrz ae7 rfl (fun w2 hF=>wJ.box hF hab.drew (by decide)));have hnl:([(0,root),(1,R0.chain),(2,zero32)].filter fun y=>ndO [s0,s1,s2] y.1 y.2)=NL:=by rw[<-hNL,Hs.out];rfl
  dsimp only at ZM;rw[hnl] at ZM;have Hlo:Hid (w.heap.size<=jb/\w.heap.size<=vb/\w.heap.size<=lo):=⟨Hjb.out,fU hlw hI.z.1,fU hlw hI.AX.2.2.1⟩;have HKd:Hid (W.drew.heap[E]? =some (.deferred (some []))):=hKd;have qw:Hid (Below w.heap.size w W.drew):=hBW.drew;clear wJ hab hbx b1 hnl hBW hlo;have hLJ:L=0 ↔ J.l= []:=by rw[<-HL.out];exact List.length_eq_zero_iff
  by_cases h1:s1=c0
  ·have d1:(s1.toList==c0.toList)=true:=by rw[h1];exact kG _
   have d2:(s1.toList !=c0.toList)=false:=by show(!(s1.toList==c0.toList))=false;rw[d1];rfl
   have Qg:Hid (¬ (s1≠R0.chain/\(J.l= []\/s1≠R0.before))):=fun e=>e.1 (by rw[hc0];exact h1)
   clear hLJ h1;gi_wp2_with fail;refine wpIn_wide.2 ?_;refine wp_region_noPanic ?_;refine yD (S:=(fun Wx=>Wx.cell? ⟨ab,1,none⟩=some (.string s1)/\Wx.cell? ⟨tv,0,none⟩=some (.pointer (some ⟨vb,0,none⟩))/\Wx.cell? ⟨vb,3,none⟩=some (.string c0)/\Wx.cell? ⟨bx,0,none⟩=some (.slice Ab L cb)/\Wx.cell? ⟨bf,0,none⟩=some (.string b0))) (by kernel_rfl) Sv.out (fun zs=>?_);refine' tk 0 rfl zs ?_;refine' tk 1 rfl zs ?_;refine' tk 2 rfl zs ?_;refine' tk 3 rfl zs ?_;refine' tk 4 rfl zs ?_;refine' tk 5 rfl zs ?_;refine' tk 6 rfl zs ?_;refine' tk 7 rfl zs ?_;refine tu 8 rfl zs ?_;refine tu 9 rfl zs ?_;refine tu 10 rfl zs ?_;refine tu 11 rfl zs ?_;refine tu 12 rfl zs ?_;refine tu 13 rfl zs ?_;refine tu 14 rfl zs ?_;refine tu 15 rfl zs ?_;refine tu 16 rfl zs ?_;refine' tk 17 rfl zs ?_;refine wZ (by kernel_rfl) ?_ _;clear zs hI hKd Sv;generalize W.drew=Wd at *;refine NoPanic.normal ?_;have hcl:res=(if (aH NL D).1=0 then (0,some ⟨J,root,R0.chain,R0.image,R0.texts⟩,(aH NL D).2) else (14,none,(aH NL D).2)):=by rw[<-aeX.out,Hvo.out];exact if_neg Qg.out
   have Hcl:=zh hcl;have y1:Wd.cell? ⟨tv,0,none⟩=some (.pointer (some ⟨vb,0,none⟩)):=HTv.out.cell 0;clear hcl;gi_wp2_with fail;refine⟨trivial,?_⟩;gi_at_call 59;refine(callsIn_wide.2 ZM.out).mono ?_;rintro e w12 ⟨rfl,ac5,ac6,ac7⟩;have HP:=zh (And.intro ac5 (And.intro ac6 ac7));clear ac5 ac6 ac7;have y1:w12.cell? ⟨tv,0,none⟩=some (.pointer (some ⟨vb,0,none⟩)):=(Dh.out.box HP.out.1 HTv.out (by decide)).cell 0;have h2:=Dh.out.box HP.out.1 HRr.out.1 (by decide);have h3:=Dh.out.box HP.out.1 HRr.out.2 (by decide);have y2:w12.cell? ⟨w.heap.size,0,none⟩=some (.pointer none):=h2.cell 0;have y3:w12.cell? ⟨w.heap.size+1,0,none⟩=some (.int .i64 0):=h3.cell 0;have z2:=h2.frozen 0;have z3:=h3.frozen 0;have k0:w12.heap[E]? =some (.deferred (some [])):=Dh.out.other HP.out.1 HKd.out rfl;have ac8:dJ w w12 a:=by
    have hF:=HP.out.1;have hB:=qw.out;obtain⟨l1,l2,l3⟩:=Hlo.out;exact⟨hF.os.trans hB.os,hF.tape.trans hB.tape,hF.output.trans hB.output,fU hB.size hF.size,fun j hj e1 e2 e3 e4=>(hF.rest j (rY hj hB.size) e1 e2 e3 e4 (by show j≠jb;omega) (by show j≠vb;omega) (fun e=>by have:=(Dh.out.row.lt j e).1;have:lo<=j:=this;omega)).trans (hB.block j hj)⟩
   have hsc:(aH NL D).1=0\/(aH NL D).1=14:=(lI NL D Hon.out).imp (fun q=>q.1) (fun q=>q.1);have HH:=zh (And.intro h2 (And.intro h3 (And.intro k0 ac8)));clear h2 h3 k0 ac8 ZM;generalize aH NL D=rD at *;obtain⟨rc,D1⟩:=rD;dsimp only at hsc HP Hcl ⊢;rcases hsc with rfl | rfl
   ·have hcl:Hid (res=(0,some ⟨J,root,R0.chain,R0.image,R0.texts⟩,D1)):=Hcl.out.trans (if_pos rfl);obtain⟨k1,k2,k3,k4,k5,k6⟩:=vw (w:=w) (n2:= .pointer (some ⟨vb,0,none⟩)) (n3:= .int .i64 0) HH.out.2.2.2 HP.out.2.1 HH.out.1 HH.out.2.1 (aF _) (wW _) hrE HH.out.2.2.1;have k7:=k6 (HP.out.2.2 rfl);have wY:=zh (And.intro k1 (And.intro k2 (And.intro k3 (And.intro k4 (And.intro k5 k7)))));clear k1 k2 k3 k4 k5 k6 k7 Hcl HP Dh
    gi_wp2
    refine⟨by simp,.inl ⟨_,_,rfl,run_takeDeferred wY.out.1,?_⟩⟩;refine⟨_,oU rfl _ _ _ _ _ _ rfl rfl wY.out.2.1 wY.out.2.2.1,?_⟩;rw[hcl.out];exact⟨wY.out.2.2.2.1,wY.out.2.2.2.2.1,.inr ⟨_,_,_,_,rfl,rfl,rfl,wY.out.2.2.2.2.2,Hlo.out.1,Hlo.out.2.1,Hlo.out.2.2⟩⟩
   ·have hcl:Hid (res=(14,none,D1)):=Hcl.out.trans (if_neg (by decide));obtain⟨k1,k2,k3,k4,k5,k6⟩:=vw (w:=w) (n2:= .pointer none) (n3:= .int .i64 14) HH.out.2.2.2 HP.out.2.1 HH.out.1 HH.out.2.1 (aF _) (wW _) hrE HH.out.2.2.1;have wY:=zh (And.intro k1 (And.intro k2 (And.intro k3 (And.intro k4 k5))));clear k1 k2 k3 k4 k5 k6 Hcl HP Dh
    gi_wp2
    refine⟨by simp,.inl ⟨_,_,rfl,run_takeDeferred wY.out.1,?_⟩⟩;refine⟨_,oU rfl _ _ _ _ _ _ rfl rfl wY.out.2.1 wY.out.2.2.1,?_⟩;rw[hcl.out];exact⟨wY.out.2.2.2.1,wY.out.2.2.2.2,.inl ⟨rfl,rfl⟩⟩
  ·have d1:(s1.toList==c0.toList)=false:=jh h1;have d2:(s1.toList !=c0.toList)=true:=by show(!(s1.toList==c0.toList))=true;rw[d1];rfl
   by_cases hL0:L=0
   ·have Qg:Hid (s1≠R0.chain/\(J.l= []\/s1≠R0.before)):=⟨by rw[hc0];exact h1,.inl (hLJ.1 hL0)⟩;clear hLJ h1;have l1:(L:Int)=0:=by omega
    have l2:decide ((L:Int)=0)=true:=pW l1;gi_wp2_with fail;refine wpIn_wide.2 ?_;refine wp_region_noPanic ?_;refine yD (S:=(fun Wx=>Wx.cell? ⟨ab,1,none⟩=some (.string s1)/\Wx.cell? ⟨tv,0,none⟩=some (.pointer (some ⟨vb,0,none⟩))/\Wx.cell? ⟨vb,3,none⟩=some (.string c0)/\Wx.cell? ⟨bx,0,none⟩=some (.slice Ab L cb)/\Wx.cell? ⟨bf,0,none⟩=some (.string b0))) (by kernel_rfl) Sv.out (fun zs=>?_);refine' tk 0 rfl zs ?_;refine' tk 1 rfl zs ?_;refine' tk 2 rfl zs ?_;refine' tk 3 rfl zs ?_;refine' tk 4 rfl zs ?_;refine' tk 5 rfl zs ?_;refine' tk 6 rfl zs ?_;refine' tk 7 rfl zs ?_;refine' tk 8 rfl zs ?_;refine' tk 9 rfl zs ?_;refine' tk 10 rfl zs ?_;refine' tk 11 rfl zs ?_;refine tu 12 rfl zs ?_;refine tu 13 rfl zs ?_;refine tu 14 rfl zs ?_;refine tu 15 rfl zs ?_;refine' tk 16 rfl zs ?_;refine' tk 17 rfl zs ?_;refine wZ (by kernel_rfl) ?_ _;clear zs hI hKd Sv;generalize W.drew=Wd at *;refine NoPanic.normal ?_;have hcl:res=(9,none,D):=by rw[<-aeX.out,Hvo.out];exact if_pos Qg.out
    have h2:=HRr.out.1;have h3:=HRr.out.2;have y2:Wd.cell? ⟨w.heap.size,0,none⟩=some (.pointer none):=h2.cell 0;have y3:Wd.cell? ⟨w.heap.size+1,0,none⟩=some (.int .i64 0):=h3.cell 0;have z2:=h2.frozen 0;have z3:=h3.frozen 0;obtain⟨k1,k2,k3,k4,k5,_⟩:=vw (w:=w) (n2:= .pointer none) (n3:= .int .i64 9) (dJ.bD qw.out) (HD.out.below qw.out) h2 h3 (aF _) (wW _) hrE HKd.out;have wY:=zh (And.intro k1 (And.intro k2 (And.intro k3 (And.intro k4 k5))));clear k1 k2 k3 k4 k5 h2 h3
    gi_wp2
    refine⟨by simp,.inl ⟨_,_,rfl,run_takeDeferred wY.out.1,?_⟩⟩;refine⟨_,oU rfl _ _ _ _ _ _ rfl rfl wY.out.2.1 wY.out.2.2.1,?_⟩;rw[hcl];exact⟨wY.out.2.2.2.1,wY.out.2.2.2.2,.inl ⟨rfl,rfl⟩⟩
   ·have l1:¬ (L:Int)=0:=by omega
    have l2:decide ((L:Int)=0)=false:=dF l1;by_cases h2:s1=b0
    ·have d3:(s1.toList==b0.toList)=true:=by rw[h2];exact kG _
     have d4:(s1.toList !=b0.toList)=false:=by show(!(s1.toList==b0.toList))=false;rw[d3];rfl
     have Qg:Hid (¬ (s1≠R0.chain/\(J.l= []\/s1≠R0.before))):=fun e=>e.2.elim (fun q=>hL0 (hLJ.2 q)) (fun q=>q (by rw[hb0];exact h2))
     clear hLJ h1 h2;gi_wp2_with fail;refine wpIn_wide.2 ?_;refine wp_region_noPanic ?_;refine yD (S:=(fun Wx=>Wx.cell? ⟨ab,1,none⟩=some (.string s1)/\Wx.cell? ⟨tv,0,none⟩=some (.pointer (some ⟨vb,0,none⟩))/\Wx.cell? ⟨vb,3,none⟩=some (.string c0)/\Wx.cell? ⟨bx,0,none⟩=some (.slice Ab L cb)/\Wx.cell? ⟨bf,0,none⟩=some (.string b0))) (by kernel_rfl) Sv.out (fun zs=>?_);refine' tk 0 rfl zs ?_;refine' tk 1 rfl zs ?_;refine' tk 2 rfl zs ?_;refine' tk 3 rfl zs ?_;refine' tk 4 rfl zs ?_;refine' tk 5 rfl zs ?_;refine' tk 6 rfl zs ?_;refine' tk 7 rfl zs ?_;refine' tk 8 rfl zs ?_;refine' tk 9 rfl zs ?_;refine' tk 10 rfl zs ?_;refine' tk 11 rfl zs ?_;refine' tk 12 rfl zs ?_;refine' tk 13 rfl zs ?_;refine' tk 14 rfl zs ?_;refine' tk 15 rfl zs ?_;refine' tk 16 rfl zs ?_;refine' tk 17 rfl zs ?_;refine wZ (by kernel_rfl) ?_ _;clear zs hI hKd Sv;generalize W.drew=Wd at *;refine NoPanic.normal ?_;have hcl:res=(if (aH NL D).1=0 then (0,some ⟨J,root,R0.chain,R0.image,R0.texts⟩,(aH NL D).2) else (14,none,(aH NL D).2)):=by rw[<-aeX.out,Hvo.out];exact if_neg Qg.out
     have Hcl:=zh hcl;have y1:Wd.cell? ⟨tv,0,none⟩=some (.pointer (some ⟨vb,0,none⟩)):=HTv.out.cell 0;clear hcl;gi_wp2_with fail;refine⟨trivial,?_⟩;gi_at_call 59;refine(callsIn_wide.2 ZM.out).mono ?_;rintro e w12 ⟨rfl,ac5,ac6,ac7⟩;have HP:=zh (And.intro ac5 (And.intro ac6 ac7));clear ac5 ac6 ac7;have y1:w12.cell? ⟨tv,0,none⟩=some (.pointer (some ⟨vb,0,none⟩)):=(Dh.out.box HP.out.1 HTv.out (by decide)).cell 0;have h2:=Dh.out.box HP.out.1 HRr.out.1 (by decide);have h3:=Dh.out.box HP.out.1 HRr.out.2 (by decide);have y2:w12.cell? ⟨w.heap.size,0,none⟩=some (.pointer none):=h2.cell 0;have y3:w12.cell? ⟨w.heap.size+1,0,none⟩=some (.int .i64 0):=h3.cell 0;have z2:=h2.frozen 0;have z3:=h3.frozen 0;have k0:w12.heap[E]? =some (.deferred (some [])):=Dh.out.other HP.out.1 HKd.out rfl;have ac8:dJ w w12 a:=by
      have hF:=HP.out.1;have hB:=qw.out;obtain⟨l1,l2,l3⟩:=Hlo.out;exact⟨hF.os.trans hB.os,hF.tape.trans hB.tape,hF.output.trans hB.output,fU hB.size hF.size,fun j hj e1 e2 e3 e4=>(hF.rest j (rY hj hB.size) e1 e2 e3 e4 (by show j≠jb;omega) (by show j≠vb;omega) (fun e=>by have:=(Dh.out.row.lt j e).1;have:lo<=j:=this;omega)).trans (hB.block j hj)⟩
     have hsc:(aH NL D).1=0\/(aH NL D).1=14:=(lI NL D Hon.out).imp (fun q=>q.1) (fun q=>q.1);have HH:=zh (And.intro h2 (And.intro h3 (And.intro k0 ac8)));clear h2 h3 k0 ac8 ZM;generalize aH NL D=rD at *;obtain⟨rc,D1⟩:=rD;dsimp only at hsc HP Hcl ⊢;rcases hsc with rfl | rfl
     ·have hcl:Hid (res=(0,some ⟨J,root,R0.chain,R0.image,R0.texts⟩,D1)):=Hcl.out.trans (if_pos rfl);obtain⟨k1,k2,k3,k4,k5,k6⟩:=vw (w:=w) (n2:= .pointer (some ⟨vb,0,none⟩)) (n3:= .int .i64 0) HH.out.2.2.2 HP.out.2.1 HH.out.1 HH.out.2.1 (aF _) (wW _) hrE HH.out.2.2.1;have k7:=k6 (HP.out.2.2 rfl);have wY:=zh (And.intro k1 (And.intro k2 (And.intro k3 (And.intro k4 (And.intro k5 k7)))));clear k1 k2 k3 k4 k5 k6 k7 Hcl HP Dh
      gi_wp2
      refine⟨by simp,.inl ⟨_,_,rfl,run_takeDeferred wY.out.1,?_⟩⟩;refine⟨_,oU rfl _ _ _ _ _ _ rfl rfl wY.out.2.1 wY.out.2.2.1,?_⟩;rw[hcl.out];exact⟨wY.out.2.2.2.1,wY.out.2.2.2.2.1,.inr ⟨_,_,_,_,rfl,rfl,rfl,wY.out.2.2.2.2.2,Hlo.out.1,Hlo.out.2.1,Hlo.out.2.2⟩⟩
     ·have hcl:Hid (res=(14,none,D1)):=Hcl.out.trans (if_neg (by decide));obtain⟨k1,k2,k3,k4,k5,k6⟩:=vw (w:=w) (n2:= .pointer none) (n3:= .int .i64 14) HH.out.2.2.2 HP.out.2.1 HH.out.1 HH.out.2.1 (aF _) (wW _) hrE HH.out.2.2.1;have wY:=zh (And.intro k1 (And.intro k2 (And.intro k3 (And.intro k4 k5))));clear k1 k2 k3 k4 k5 k6 Hcl HP Dh
      gi_wp2
      refine⟨by simp,.inl ⟨_,_,rfl,run_takeDeferred wY.out.1,?_⟩⟩;refine⟨_,oU rfl _ _ _ _ _ _ rfl rfl wY.out.2.1 wY.out.2.2.1,?_⟩;rw[hcl.out];exact⟨wY.out.2.2.2.1,wY.out.2.2.2.2,.inl ⟨rfl,rfl⟩⟩
    ·have d3:(s1.toList==b0.toList)=false:=jh h2;have d4:(s1.toList !=b0.toList)=true:=by show(!(s1.toList==b0.toList))=true;rw[d3];rfl
     have Qg:Hid (s1≠R0.chain/\(J.l= []\/s1≠R0.before)):=⟨by rw[hc0];exact h1,.inr (by rw[hb0];exact h2)⟩;clear hLJ h1 h2;gi_wp2_with fail;refine wpIn_wide.2 ?_;refine wp_region_noPanic ?_;refine yD (S:=(fun Wx=>Wx.cell? ⟨ab,1,none⟩=some (.string s1)/\Wx.cell? ⟨tv,0,none⟩=some (.pointer (some ⟨vb,0,none⟩))/\Wx.cell? ⟨vb,3,none⟩=some (.string c0)/\Wx.cell? ⟨bx,0,none⟩=some (.slice Ab L cb)/\Wx.cell? ⟨bf,0,none⟩=some (.string b0))) (by kernel_rfl) Sv.out (fun zs=>?_);refine' tk 0 rfl zs ?_;refine' tk 1 rfl zs ?_;refine' tk 2 rfl zs ?_;refine' tk 3 rfl zs ?_;refine' tk 4 rfl zs ?_;refine' tk 5 rfl zs ?_;refine' tk 6 rfl zs ?_;refine' tk 7 rfl zs ?_;refine' tk 8 rfl zs ?_;refine' tk 9 rfl zs ?_;refine' tk 10 rfl zs ?_;refine' tk 11 rfl zs ?_;refine' tk 12 rfl zs ?_;refine' tk 13 rfl zs ?_;refine' tk 14 rfl zs ?_;refine' tk 15 rfl zs ?_;refine' tk 16 rfl zs ?_;refine' tk 17 rfl zs ?_;refine wZ (by kernel_rfl) ?_ _;clear zs hI hKd Sv;generalize W.drew=Wd at *;refine NoPanic.normal ?_;have hcl:res=(9,none,D):=by rw[<-aeX.out,Hvo.out];exact if_pos Qg.out
     have h2:=HRr.out.1;have h3:=HRr.out.2;have y2:Wd.cell? ⟨w.heap.size,0,none⟩=some (.pointer none):=h2.cell 0;have y3:Wd.cell? ⟨w.heap.size+1,0,none⟩=some (.int .i64 0):=h3.cell 0;have z2:=h2.frozen 0;have z3:=h3.frozen 0;obtain⟨k1,k2,k3,k4,k5,_⟩:=vw (w:=w) (n2:= .pointer none) (n3:= .int .i64 9) (dJ.bD qw.out) (HD.out.below qw.out) h2 h3 (aF _) (wW _) hrE HKd.out;have wY:=zh (And.intro k1 (And.intro k2 (And.intro k3 (And.intro k4 k5))));clear k1 k2 k3 k4 k5 h2 h3
     gi_wp2
     refine⟨by simp,.inl ⟨_,_,rfl,run_takeDeferred wY.out.1,?_⟩⟩;refine⟨_,oU rfl _ _ _ _ _ _ rfl rfl wY.out.2.1 wY.out.2.2.1,?_⟩;rw[hcl];exact⟨wY.out.2.2.2.1,wY.out.2.2.2.2,.inl ⟨rfl,rfl⟩⟩
 case stop=>
  rintro E c pre W hE hx;exact hx.elim
end
end Go.Proofs.YtpghocekofdpbaaGreatDoor
