import Derived.Test.YtpghocekofdpbaaGreatDoorQs51
set_option maxRecDepth 100000
set_option maxHeartbeats 8000000
namespace Go.Proofs.YtpghocekofdpbaaGreatDoor
section
open Go.RowKit Go.Shelf
attribute [local go_sem] Oper.semAt_some
section
variable {W w w':World} {a:nP} {h pb:Nat} {D:Dev}
theorem YQ {M:List Sec} {n:Nat} (hn:M.length=n) (hf:Fine M):∃ M',kP (M.map Sec.now) (dN n 3 2).M=M'/\dS (M.map Sec.now) (dN n 3 2).M=false/\Fine M'/\Clean M'/\aP M'=aP M:=by
 have hlen:(M.map Sec.now).length=(dN n 3 2).M.length:=by simp[dN,hn]
 have hw:kR (M.map Sec.now)=false:=by
  unfold kR;rw[List.any_eq_false];intro t ht;obtain⟨y,hy,rfl⟩:=List.mem_map.1 ht;have:=(hf y hy).1;simp[this]
 have he:dS (M.map Sec.now) (dN n 3 2).M=false:=by
  unfold dS;rw[hw,hlen];simp
 refine⟨_,rfl,he,fun y hy=>?_,fun y hy=>?_,QN (IC _ _ hlen)⟩
 ·obtain⟨h1,h2,h3⟩:=BZ hy;obtain⟨z,hz,e⟩:=List.mem_map.1 h1;have h64:=(hf z hz).1;rw[e] at h64;exact⟨h64,by rw[h2];exact h64,fun q=>by rw[h3] at q;cases q⟩
 ·exact(BZ hy).2.2
theorem NY (k:D7 W w a pb h D) (hf:Fine D.M) (h1:1<=h) (hd:D.down=false) {s0 s1 s2:ByteArray} (hs:D.slots= [s0,s1,s2]) (hz:s0.size=32/\s2.size=32) (hl:∀ e ∈ (bT h D.M).l,e.1<9223372036854775808/\e.2.size<=1000000) (hK:lV W 0):
  Calls Tryz.prog 28 #[.pointer (some ⟨pb,0,none⟩)] w fun e w'=>e= .returned (.bool (l7 (bT h D.M).l s0 s2))/\Below w.heap.size w w':=by
 obtain⟨n,hn⟩:∃ n,D.M.length=n:=⟨_,rfl⟩;have hlen:=k.len;have abI:=k.half;rw[hn] at hlen abI;obtain⟨M',hM,he,hf',hc',YR⟩:=YQ hn hf;have hj:bT (n/2) M'=bT h D.M:=by rw[abI];exact AB YR
 have HL0:Hid (Calls Tryz.prog 31 #[.pointer (some ⟨a.d,0,none⟩),.int .i64 0] w fun e w'=>e= .returned (.tuple #[.string s0,.int .i64 0])/\w=w'):=by
  have q:=DF k.dev 0;simp only[hd,hs,Bool.false_eq_true,if_false] at q;rw[if_pos (show FK [s0,s1,s2] 0 from ⟨by decide,by simp⟩),if_pos (show FK [s0,s1,s2] 0 from ⟨by decide,by simp⟩)] at q;exact q
 have HL2:Hid (Calls Tryz.prog 31 #[.pointer (some ⟨a.d,0,none⟩),.int .i64 2] w fun e w'=>e= .returned (.tuple #[.string s2,.int .i64 0])/\w=w'):=by
  have q:=DF k.dev 2;simp only[hd,hs,Bool.false_eq_true,if_false] at q;rw[if_pos (show FK [s0,s1,s2] 2 from ⟨by decide,by simp⟩),if_pos (show FK [s0,s1,s2] 2 from ⟨by decide,by simp⟩)] at q;exact q
 have HI:=zh (Gs k.dev (by omega));have HT:Hid (∀ wx v,Below w.heap.size w wx->Texts wx v (D.M.map Sec.now)->Calls Tryz.prog 63 #[v,.string s0,.string s2] wx fun e w'=>e= .returned (.bool (l7 (bT h D.M).l s0 s2))/\Below wx.heap.size wx w'):=fun wx v hB hv=>by
  have hq:=abE wx v _ s0 s2 hv n (by rw[lq];exact hn) ⟨by omega,by omega⟩ M' hM he hf' hc' (by rw[hj];exact hl) (by omega) (by omega) (hK.below (k.bel.trans (hB.mono k.bel.size)));rw[hj] at hq;exact hq
 obtain⟨v0,hp⟩:=k.pl;have y0:=hp.cell 0;obtain⟨T,hT⟩:∃ T,l7 (bT h D.M).l s0 s2=T:=⟨_,rfl⟩;rw[hT] at HT ⊢;clear hT hp k hlen abI hM he hf' hc' YR hj hl hf hK hs hz hd;go_enter Tryz.func28,Tryz.ntmps28;go_wp2_with fail;refine HL0.out.mono ?_;rintro e w1 ⟨rfl,rfl⟩;go_wp2_with fail;refine HL2.out.mono ?_;rintro e w1 ⟨rfl,rfl⟩;go_wp2_with fail;refine HI.out.mono ?_;rintro e w2 ⟨v2,rfl,hN,_,hB⟩;have HN:=zh (jT hN);have HB:=zh hB;clear hN hB;go_wp2_with fail;refine(HT.out _ _ HB.out HN.out).mono ?_;rintro e w3 ⟨rfl,hB⟩;have HB3:=zh (HB.out.trans (hB.mono HB.out.size));clear hB;go_wp2_with fail;go_ret;exact⟨rfl,HB3.out⟩
end
end
section
open Go.RowKit Go.Shelf
attribute [local go_sem] Oper.semAt_some
def Oh (w:World) (v:Value) (F:List Nat):Prop:=
 ∃ A c,v= .slice A F.length c/\F.length<=maxLen/\(0<F.length->∃ b o,A=some ⟨b,o,none⟩/\b<w.heap.size/\∀ (i x:Nat),F[i]? =some x->w.cell? ⟨b,o+i,none⟩=some (.int .u8 (x:Int))/\x<256)
structure eF (w:World) (j:Nat) (i:Option ByteArray) (v:Value) (I:List ByteArray) (sb:Nat):Prop where
 box:ak w j 52 #[.string (i.getD ⟨#[]⟩),.bool i.isSome,v]
 row:Texts w v I
 sep:∀ k,v.ownBlock=some k->k≠sb
def Dev.trip (D:Dev) (n:Int):Dev:= { D with left:=max n (-1) }
section
variable {W w w':World} {x:uX} {a:nP} {h b pb j:Nat} {V:mJ} {D:Dev} {p u v:Value} {i:Option ByteArray} {I:List ByteArray} {sb:Nat}
theorem eF.below (H:eF w j i v I sb) (hB:Below w.heap.size w w'):eF w' j i v I sb:=⟨H.box.below hB H.box.lt,ownsRow_below H.row hB (aF _),H.sep⟩
theorem eF.play (k:kH w x h V D p u) (H:eF w j i v I x.a.sb) (hF:bH w w' x u) (hu:∀ k,v.ownBlock=some k->u.ownBlock≠some k):eF w' j i v I x.a.sb:=
 ⟨k.box hF H.box (by decide),gI H.row (fun j cs e hj=>bH.keeps k hF hj (fun e=>by cases e) (fun e=>by cases e) (fun _=>⟨H.sep j e,hu j e⟩) (fun e=>by cases e) (fun e=>by cases e) (fun e=>by cases e)),H.sep⟩
theorem eF.sV (hd:aO w a D) (H:eF w j i v I a.sb) (hF:dJ w w' a):eF w' j i v I a.sb:=
 ⟨hF.box hd H.box (by decide),gI H.row (fun j cs e hj=>hF.blk hd hj (fun e=>by cases e) (fun e=>by cases e) (fun _=>H.sep j e) (fun e=>by cases e)),H.sep⟩
theorem kW.keeps (hd:aO w a D) {cs0:Array Value} (hp:ak w pb 37 cs0) (hF:kW w w' a pb) {g:Nat} {t:TypeId} {cs:Array Value} (hb:ak w g t cs) (h0:t≠89/\t≠139/\t≠4/\t≠37) (h3:t=9->g≠a.sb):w'.heap[g]? =w.heap[g]? :=by
 obtain⟨_,q2⟩:=hd.JJ;obtain⟨_,q3⟩:=hd.Bl;obtain⟨_,q4⟩:=hd.JK;refine hF.rest g hb.lt (hb.gY hd.blk h0.1) (hb.gY q2 h0.2.1) ?_ (hb.gY q4 h0.2.2.1) (hb.gY hp h0.2.2.2);by_cases e:t=9
 ·exact h3 e
 ·exact hb.gY q3 e
theorem eF.afR (hd:aO w a D) {cs0:Array Value} (hp:ak w pb 37 cs0) (H:eF w j i v I a.sb) (hF:kW w w' a pb):eF w' j i v I a.sb:=
 ⟨(kW.keeps hd hp hF H.box (by decide) (fun e=>by cases e)).trans H.box,gI H.row (fun j cs e hj=>kW.keeps hd hp hF hj (by decide) (fun _=>H.sep j e)),H.sep⟩
theorem jy.trip (I:jy h V D b) (n:Int) (hn:n<=9223372036854775807):jy h V (D.trip n) b:=
 ⟨⟨I.on.down,by show -1<=max n (-1)/\max n (-1)<=9223372036854775807;omega⟩,I.CJ,I.dL,I.slots,I.root,I.read⟩
theorem uY.trip (k:uY W w x pb h V D b p u) (n:Int) (hn:n<=9223372036854775807):Calls Tryz.prog 24 #[.pointer (some ⟨x.a.d,0,none⟩),.int .i64 n] w fun e w'=>e= .returned (.tuple #[])/\uY W w' x pb h V (D.trip n) b p u/\dJ w w' x.a:=by
 refine(KA k.vis.dev n).mono ?_;rintro e w' ⟨rfl,hd,hF⟩;exact⟨rfl,⟨k.vis.sV hF hd,k.inv.trip n hn,dJ.box hF k.vis.dev k.pl (by decide),iP.below hF k.bel k.bel.size k.back.d k.back.g k.back.sb k.back.fb,k.back,k.len,k.half,k.at_⟩,hF⟩
theorem D7.trip (k:D7 W w a pb h D) (n:Int):Calls Tryz.prog 24 #[.pointer (some ⟨a.d,0,none⟩),.int .i64 n] w fun e w'=>e= .returned (.tuple #[])/\D7 W w' a pb h (D.trip n)/\dJ w w' a:=by
 refine(KA k.dev n).mono ?_;rintro e w' ⟨rfl,hd,hF⟩;exact⟨rfl,k.sV hF hd rfl,hF⟩
theorem D7.up (k:D7 W w a pb h D):Calls Tryz.prog 35 #[.pointer (some ⟨a.d,0,none⟩)] w fun e w'=>e= .returned (.bool (!D.down))/\w=w':=agf k.dev
theorem Far.hist {j:Nat} {cs:Array Value} (h:ak w j 52 cs):Far w (some j):=by
 intro k t' cs' hk hT e;have ne:t'≠52:=by rcases hT with rfl | rfl | rfl | rfl | rfl | rfl | rfl | rfl | rfl<;>decide
 exact hk.gY h ne (Option.some.inj e)
theorem uY.hset (k:uY W w x pb h V D b p u) {j:Nat} {cs:Array Value} (hb:ak w j 52 cs) (hW:W.heap.size<=j) (i:Nat) (v:Value):uY W (w.setCell ⟨j,i,none⟩ v) x pb h V D b p u:=
 ⟨k.vis.far (au w j i v) (Far.hist hb),k.inv,(Below.heap_setCell w ⟨j,i,none⟩ v pb (k.pl.gY hb (by decide))).trans k.pl,k.bel.setCell (p:=⟨j,i,none⟩) hW v,k.back,k.len,k.half,k.at_⟩
theorem eF.put {cs:Array Value} (hb:ak w j 52 cs) (hcs:cs.size=3) (hr:Texts w v I) (hs:∀ k,v.ownBlock=some k->k≠sb):
  eF (((w.setCell ⟨j,0,none⟩ (.string (i.getD ⟨#[]⟩))).setCell ⟨j,1,none⟩ (.bool i.isSome)).setCell ⟨j,2,none⟩ v) j i v I sb:=by
 obtain⟨l⟩:=cs
 match l,hcs,hb with
 | [c0,c1,c2],_,hb=>
  have q1:=hb.aB 0 (.string (i.getD ⟨#[]⟩));have q2:=q1.aB 1 (.bool i.isSome);have q3:=q2.aB 2 v;have k1:=hr.kept (au w j 0 (.string (i.getD ⟨#[]⟩))) (.inr (aA hr hb (by decide)));have k2:=k1.kept (au _ j 1 (.bool i.isSome)) (.inr (aA k1 q1 (by decide)));have k3:=k2.kept (au _ j 2 v) (.inr (aA k2 q2 (by decide)));exact⟨q3,k3,hs⟩
theorem Vr (k:D7 W w a pb h D) {root:ByteArray} {i:Option ByteArray} {l:List ByteArray} (L:Lies h D b root i l) (hd:D.down=false) (hb:b<=255) (hK:lV W 0):
  Calls Tryz.prog 28 #[.pointer (some ⟨pb,0,none⟩)] w fun e w'=>∃ T,e= .returned (.bool T)/\(T=false->Og h D root)/\Below w.heap.size w w':=by
 obtain⟨J,R,s0,s1,s2,hJ,hR,hI,hT,hs,h1,h2⟩:=L.ok;have hg:=L.good;rw[hs] at hg;obtain⟨g1,g2,g3⟩:=hg;have hJo:=hJ.open_ hb;have hk1:=k.half;have hk2:=k.len;refine(NY k hJ.inv.fine hJ.inv.pos hd hs ⟨g1,g3⟩ (JInv.hbl hJo.inv (by have:=hJo.next;omega) (by omega)).1 hK).mono ?_;rintro e w' ⟨rfl,hB⟩;refine⟨_,rfl,fun e=> .inr ?_,hB⟩;rw[hs];exact e
theorem Zf (k:D7 W w a pb h D) {root:ByteArray} {i:Option ByteArray} {l:List ByteArray} (L:Lies h D b root i l) (hu:D.down=false/\D.left= -1) (hb:b<=255) (hs:Og h D root) (hK:lV W 1):
  Calls Tryz.prog 22 #[.pointer (some ⟨pb,0,none⟩),.slice none 0 0] w fun e w'=>e= .returned (.int .i64 0)/\kW w w' a pb/\
   ∃ x V D' p u,x.a=a/\uY W w' x pb h V D' b p u/\D'.left= -1/\V.root=root/\V.image=i/\V.texts=l:=by
 obtain⟨J,R,s0,s1,s2,hJ,hR,hI,hT,hS,h1,h2⟩:=L.ok;have hm:=I5 hJ.inv.clean ⟨hu.1,by rw[hu.2];decide⟩ hu.2 [];have hO:Opens h (D.mount []):=by rw[hm];exact IY L hs hb k.len k.half
 refine(Eb k hJ.inv.fine _ [] (Ea W) hO hK).mono ?_;intro e w' hp;obtain⟨V0,D',hv,e1,e2,e3,hi,hl,hM⟩:=Zg L hu hb hs;rw[hm] at hp;obtain⟨he,hleft,hq,hout⟩:=hp;rw[hv] at he hq hout;rcases hout with⟨h0,_⟩ | ⟨V1,x',p',u',_,hV1,hxa,wJ,hpl,hj,hvb,hu'⟩
 ·exact absurd rfl h0
 ·cases hV1;have hs:=k.bel.size;have ahh:x'.a=a:=hxa;refine⟨he,hleft,x',V0,D',p',u',ahh,⟨wJ,hi,by rw[hxa];exact hpl,hq.bel,?_,hq.len,hq.half,k.at_⟩,hl,e1,e2,e3⟩;exact⟨by rw[hxa];exact hq.d,by rw[hxa];exact hq.g,by rw[hxa];exact hq.sb,by rw[hxa];exact hq.fb,fU hs hj,fU hs hvb,fun k e=>fU hs (hu' k e)⟩
theorem Me (k:uY W w x pb h V D b p u):
  Calls Tryz.prog 23 #[.pointer (some ⟨pb,0,none⟩)] w fun e w'=>∃ v,e= .returned (rP V.image v)/\(Texts w' v V.texts/\∀ k,v.ownBlock=some k->k≠x.a.sb/\u.ownBlock≠some k)/\Below w.heap.size w w':=by
 refine(Zc k).mono ?_;rintro e w' ⟨v,rfl,hr,hB⟩;obtain⟨_,_,s3,_,_,_,s7,_⟩:=k.vis.sizes;refine⟨v,rfl,⟨jT hr,fun j e=>?_⟩,hB⟩;have hj:=(hr.lt j e).1;exact⟨by omega,fun q=>by have:=s7 j q;omega⟩
end
end
section
open Go.RowKit Go.Shelf
attribute [local go_sem] Oper.semAt_some
structure yF (W w:World) (hb pb h:Nat) (V:mJ) (D:Dev) (b:Nat) (x:uX) (p u v:Value):Prop where
 st:uY W w x pb h V D b p u
 left:D.left= -1
 hist:eF w hb V.image v V.texts x.a.sb
 sep:∀ k,v.ownBlock=some k->u.ownBlock≠some k
section
variable {W w w':World} {hb pb h b:Nat} {V:mJ} {D:Dev} {x:uX} {p u v:Value}
theorem yF.on (k:yF W w hb pb h V D b x p u v) (hB:Below w.heap.size w w'):yF W w' hb pb h V D b x p u v:=⟨k.st.on hB,k.left,k.hist.below hB,k.sep⟩
theorem yF.up {c:Nat} (k:yF W w hb pb h V D b x p u v) (hbc:b<=c):yF W w hb pb h V D c x p u v:=⟨k.st.up hbc,k.left,k.hist,k.sep⟩
theorem uY.play (k:uY W w x pb h V D b p u) (hb:b<255) (hK:lV W 1) (o:lQ) (hf:o.fill<256) (hk:o.kind=1\/o.kind=2\/o.kind=3) (A:Option Addr) (m c:Nat) {R:uZ} (hR:jO h V D o.v=R):
  Calls Tryz.prog 20 #[.pointer (some ⟨pb,0,none⟩),.agg #[.int .i64 o.kind,.int .i64 o.n,.int .i64 o.size,.int .u8 o.fill,.slice A m c]] w (eU w x h p u R):=by
 rw[<-hR];exact ab5 k hb hK o.kind o.n o.size o.fill hf hk A m c
end
section
variable {W:World}
theorem Zh (Yo:Calls Tryz.prog 8 #[] W fun e w'=>e= .returned (.bool true)/\Below W.heap.size W w') (hK:lV W 1) (hK2:lV W 0) (n:Nat) (hn:2<=n/\n<=24) (v:Value) (ops:List lQ) (hv:I7 W v ops) (ho:∀ (i:Nat) (o:lQ),ops[i]? =some o->o.ok) (hN:ops.length<=16)
  (fv:Value) (F:List Nat) (hF:Oh W fv F) (pv:Value) (P:List Int) (hP:mO W pv P) (FN:P.length<=30):
  Calls Tryz.prog 7 #[.int .i64 n,v,fv,pv] W fun e w'=>e= .returned (.bool true)/\Below W.heap.size W w':=by
 obtain⟨A,c,rfl,hA⟩:=hv;obtain⟨A2,c2,rfl,hF1,hF2⟩:=hF;have HP:=zh hP;obtain⟨A3,c3,rfl,hP'⟩:=hP;have HS:=zh Yo;have HA:=zh hA;have HF:=zh hF2;have HF1:=zh hF1;have HO:=zh ho;have HN:=zh hN;have HK:=zh hK;have HK2:=zh hK2;have HBg:Hid (∀ wx,Below W.heap.size W wx->Calls Tryz.prog 13 #[.int .i64 n,.int .u8 1] wx fun e w'=>∃ x pb p u,e= .returned (.tuple #[.pointer (some ⟨pb,0,none⟩),.bool true])/\ab9 W wx w' (n/2) (J9 n 1) (Oe n 1) x pb p u):=fun wx hB=>Rt hB n 1 hn (by decide)
 have d2:decide (24<n)=false:=bU (by omega);have d2':decide (24<(n:Int))=false:=bU (by omega);have d3:decide (16<ops.length)=false:=bU (by omega);have d3':decide (16<(ops.length:Int))=false:=bU (by omega);have d4:decide (30<P.length)=false:=bU (by omega);have d4':decide (30<(P.length:Int))=false:=bU (by omega);have HL0:Hid ((Oe n 1).left= -1):=rfl;generalize J9 n 1=V0 at HBg;generalize Oe n 1=D0 at HBg HL0;obtain⟨h,hh⟩:∃ h,n/2=h:=⟨_,rfl⟩;rw[hh] at HBg;clear hA ho hn hN hh hK hK2 Yo hF1 hF2 hP' FN;go_enter Tryz.func7,Tryz.ntmps7;go_wp2_with (first
  | (go_at_call 8;refine HS.out.mono ?_;rintro e w1 ⟨rfl,hB⟩;have HB1:=zh hB;clear hB)
  | (go_at_call 13;refine(HBg.out _ HB1.out).mono ?_;rintro e w2 ⟨x,pb,p,u,rfl,hG⟩;have MZ:=zh hG;clear hG))
 refine(Me MZ.out.st).mono ?_;rintro e w3 ⟨hv,rfl,⟨hT,hsep⟩,hB3⟩;have HT:=zh hT;have HSp:=zh hsep;have HB3:=zh hB3;obtain⟨Ah,ch,rfl,_⟩:=hT.parts;obtain⟨z0,hz0⟩:∃ z,V0.image.getD ⟨#[]⟩=z:=⟨_,rfl⟩;obtain⟨b0,hb0⟩:∃ z,V0.image.isSome=z:=⟨_,rfl⟩;unfold rP;rw[hz0,hb0];have hA:Hid (Below w3.heap.size w3 (w3.alloc (.cells #[.string z0,.bool b0,.slice Ah V0.texts.length ch] 52))):=(bK _ _).alloc (aF _) _;have hS1:Hid (yF W (w3.alloc (.cells #[.string z0,.bool b0,.slice Ah V0.texts.length ch] 52)) w3.heap.size pb h V0 D0 1 x p u (.slice Ah V0.texts.length ch)):=
  ⟨(MZ.out.st.on HB3.out).on hA.out,HL0.out,⟨by rw[hz0,hb0];exact ak.new _ _ _,ownsRow_below HT.out hA.out (aF _),fun k e=>(HSp.out k e).1⟩,fun k e=>(HSp.out k e).2⟩
 have hWb:Hid (W.heap.size<=w3.heap.size):=fU MZ.out.st.bel.size HB3.out.size;clear hT hsep hB3 hz0 hb0 HT HSp HB3 MZ HBg HS HB1 HL0;go_wp2_with fail;generalize w3.alloc (.cells #[.string z0,.bool b0,.slice Ah V0.texts.length ch] 52)=w4 at *;generalize w3.heap.size=hb at *;go_loopw [13] (fun i wr=>∃ (k:Nat) (V:mJ) (D:Dev) (x:uX) (p u v:Value),k<=ops.length/\i= .int .i64 k/\Hid (yF W wr hb pb h V D (k+1) x p u v)) (fun i _=>ops.length-(intOf i).toNat)
 case atStart=>exact⟨0,V0,D0,x,p,u,_,iT _,rfl,hS1⟩
 case round=>
  clear hS1 hA;obtain⟨k,V,D,x,p,u,v,hk,rfl,H⟩:=hrel;have hwk:wrap64 ((k:Int)+1)=(k:Int)+1:=by have:=HN.out;unfold wrap64;omega
  by_cases hkl:k<ops.length
  ·have QK:=zh hkl;obtain⟨o,hk0⟩:∃ o,ops[k]? =some o:=⟨_,jB hkl⟩;obtain⟨B,off,rfl,hbl,hat⟩:=HA.out (by omega);obtain⟨A1,n1,cc,g0,g1,g2,g3,g4,hok⟩:=(hat k o hk0).below hbl H.out.st.bel;have HAt:=zh (And.intro hbl (hat k o hk0));have hoo:=zh (HO.out k o hk0);have hd1:decide (k<ops.length)=true:=dF hkl;have aev:Hid (k+1<200):=by have:=HN.out;unfold Hid;omega
   have HW:=zh (fun wx=>Vo wx o A1 n1 cc);clear hat hok hkl hk0;cases hw:o.v.write with
   | false=>
    rw[hw] at HW;clear hw;go_wp2_with fail;refine(HW.out _).mono ?_;rintro e w1 ⟨rfl,hB1⟩;have H1:=zh (H.out.on hB1);clear g0 g1 g2 g3 g4 hB1 H;go_wp2_with fail;go_roundw
    case rel=>exact⟨k+1,V,D,x,p,u,v,QK.out,by go_num,H1.out.up (wW _)⟩
    case measure=>rw[hwk];exact vM QK.out
   | true=>
    rw[hw] at HW;have hkd:=zh (Vp hw);clear hw;go_upto_if 60 with fail;refine(HW.out _).mono ?_;rintro e w1 ⟨rfl,hB1⟩;have H1:=zh (H.out.on hB1);clear g0 g1 g2 g3 g4 hB1 H;go_upto_if 64 with fail
    go_cut [] from 49 to 155 (fun wx=>∃ D',Hid (uY W wx x pb h V D' (k+1) p u)/\Hid (eF wx hb V.image v V.texts x.a.sb))
    case first=>
     by_cases hkf:k<F.length
     ·have e1:decide (k<F.length)=true:=dF hkf;have e1':decide ((k:Int)<(F.length:Int))=true:=dF (by omega);obtain⟨f,hf0⟩:∃ f,F[k]? =some f:=⟨_,jB hkf⟩;obtain⟨bf,of,rfl,hbf,hcf⟩:=HF.out (by omega);obtain⟨hc1,apK⟩:=hcf k f hf0;have HFc:Hid (∀ wx,Below W.heap.size W wx->wx.cell? ⟨bf,of+k,none⟩=some (.int .u8 (f:Int))):=fun wx hB=>(hB.cell (p:=⟨bf,of+k,none⟩) hbf).trans hc1
      have y1:=HFc.out _ H1.out.st.bel;have y0:=H1.out.st.pl.cell 0;have HTr:Hid (∀ wx (n:Int),Below w1.heap.size w1 wx->n<=9223372036854775807->Calls Tryz.prog 24 #[.pointer (some ⟨x.a.d,0,none⟩),.int .i64 n] wx fun e w'=>e= .returned (.tuple #[])/\uY W w' x pb h V (D.trip n) (k+1) p u/\dJ wx w' x.a):=fun wx n hB hn=>(H1.out.st.on hB).trip n hn
      have qw:Hid (Below w1.heap.size w1 w1.drew):=(bK _ _).drew;have Hfm:Hid ((IntKind.i64.wrap (f:Int)).tmod 24<=9223372036854775807):=Int.le_of_lt (Int.lt_trans (Int.tmod_lt_of_pos _ (by decide)) (by decide));have Hkf:=zh hkf;clear hcf hc1 hf0 hbf hkf;go_wp2_with fail;all_goals (first | (exact absurd Hkf.out (by assumption)) | skip)
      refine wZ (S:=(fun wx=>wx.cell? ⟨pb,0,none⟩=some (.pointer (some ⟨x.a.d,0,none⟩))/\wx.cell? ⟨bf,of+k,none⟩=some (.int .u8 (f:Int)))) (by kernel_rfl) ⟨(H1.out.st.on qw.out).pl.cell 0,HFc.out _ (H1.out.st.on qw.out).bel⟩ (fun zs=>?_);refine' tk 0 rfl zs ?_;refine' tk 1 rfl zs ?_;refine' tk 2 rfl zs ?_;refine' tk 3 rfl zs ?_;refine' tk 4 rfl zs ?_;refine' tk 5 rfl zs ?_;refine' tk 6 rfl zs ?_;refine' tk 7 rfl zs ?_;refine' tk 8 rfl zs ?_;refine' tk 9 rfl zs ?_;refine td 10 rfl (fun K hK=>?_);go_simp;go_at_call 24;refine(HTr.out _ _ qw.out Hfm.out).mono ?_;rintro e w2 ⟨rfl,hp2,hl2⟩;have HP2:=zh hp2;have HH2:Hid (eF w2 hb V.image v V.texts x.a.sb):=eF.sV (H1.out.st.vis.dev.below qw.out) (H1.out.hist.below qw.out) hl2;clear hp2 hl2;go_wp2_with fail;refine hK.out _ _ ⟨HP2.out.pl.cell 0,HFc.out _ HP2.out.bel⟩ (fun zs=>?_);refine pW (by kernel_rfl) ?_ _;clear hK K;go_wp2_with fail;go_meet
      case rel=>exact⟨_,HP2,HH2⟩
     ·have Hkf:=zh hkf;clear hkf;go_wp2_with fail;all_goals (first | (exact absurd (by assumption) Hkf.out) | skip)
      go_meet
      case rel=>exact⟨D,H1.out.st,H1.out.hist⟩
    case rest=>
    obtain⟨D',HP2,HH2⟩:=hcut;obtain⟨A4,n4,c4,g0,g1,g2,g3,g4,hok⟩:=HAt.out.2.below HAt.out.1 HP2.out.bel;clear hok;obtain⟨R,hR⟩:∃ R,jO h V D' o.v=R:=⟨_,rfl⟩;have HPl:=zh (HP2.out.play (show k+1<255 by have:=aev.out;omega) HK.out o hoo.out.1 hkd.out A4 n4 c4 hR);have HRe:=zh hR;have ak3:=zh H1.out.sep;clear hR H1 HW;go_wp2_with fail;refine HPl.out.mono ?_;intro e w3 hP;have he:=hP.1;have HQ3:Hid (D7 W w3 x.a pb h R.2.2):=HP2.out.fell hP (by rw[<-HRe.out];exact ach _);have HH3:Hid (eF w3 hb V.image v V.texts x.a.sb):=HH2.out.play HP2.out.vis hP.2.1 ak3.out;have HFi:Hid (Fine R.2.2.M):=by unfold Hid;rw[<-HRe.out];exact Zi HP2.out.inv _
    have aew:Hid (V.texts.length<=12):=fU HP2.out.inv.RD HP2.out.hh;have OY:=Zj HP2.out.inv (show k+1<254 by have:=aev.out;omega) o.v P;rw[HRe.out] at OY;obtain⟨root,i1,l1,hL1,hC1⟩:=OY;have HL1:=zh hL1;have HC1:=zh hC1;subst he;clear g0 g1 g2 g3 g4 HPl hP HP2 HH2 hL1 hC1 HRe ak3;obtain⟨A5,n5,c5,g0,g1,g2,g3,g4,hok⟩:=HAt.out.2.below HAt.out.1 HQ3.out.bel;clear hok;obtain⟨Av,cv,rfl,_⟩:=HH3.out.row.parts;obtain⟨z,hz⟩:∃ z,V.image.getD ⟨#[]⟩=z:=⟨_,rfl⟩;obtain⟨bz,hbz⟩:∃ z,V.image.isSome=z:=⟨_,rfl⟩;have HBx:Hid (ak w3 hb 52 #[.string z,.bool bz,.slice Av V.texts.length cv]):=by have:=HH3.out.box;rw[hz,hbz] at this;exact this
    have HZ:=zh (And.intro hz hbz);clear hz hbz;have x0:=HBx.out.cell 0;have x1:=HBx.out.cell 1;have x2:=HBx.out.cell 2;obtain⟨Z2,hZ2⟩:∃ z,(kX V.image o.v).getD ⟨#[]⟩=z:=⟨_,rfl⟩;obtain⟨B2,hB2⟩:∃ z,(kX V.image o.v).isSome=z:=⟨_,rfl⟩;have HAf:Hid (∀ wx,Below w3.heap.size w3 wx->Calls Tryz.prog 34 #[.agg #[.string z,.bool bz,.slice Av V.texts.length cv],.agg #[.int .i64 o.kind,.int .i64 o.n,.int .i64 o.size,.int .u8 o.fill,.slice A5 n5 c5]] wx fun e w'=>∃ v',e= .returned (.agg #[.string Z2,.bool B2,v'])/\w'.ownsRow wx.heap.size 9 1 v' (iM V.texts o.v).length (strCells (iM V.texts o.v))/\Below wx.heap.size wx w'):=fun wx hB=>by
     have q:=Zd wx V.image _ V.texts (kL.row (ownsRow_below HH3.out.row hB (aF _))) (by have:=aew.out;omega) o.kind o.n o.size o.fill hoo.out.1 hkd.out A5 n5 c5;unfold rP at q;rw[HZ.out.1,HZ.out.2] at q;rw[<-hZ2,<-hB2];exact q
    have HZ2:=zh (And.intro hZ2 hB2);clear hZ2 hB2;have ZV:Hid (∀ wx,Below w3.heap.size w3 wx->wx.cell? ⟨hb,0,none⟩=some (.string z)/\wx.cell? ⟨hb,1,none⟩=some (.bool bz)/\wx.cell? ⟨hb,2,none⟩=some (.slice Av V.texts.length cv)/\wx.cell? ⟨B,off+k*5,none⟩=some (.int .i64 o.kind)/\wx.cell? ⟨B,off+k*5+1,none⟩=some (.int .i64 o.n)/\wx.cell? ⟨B,off+k*5+2,none⟩=some (.int .i64 o.size)/\wx.cell? ⟨B,off+k*5+3,none⟩=some (.int .u8 o.fill)/\wx.cell? ⟨B,off+k*5+4,none⟩=some (.slice A5 n5 c5)):=fun wx hB=>by
     have q:=HBx.out.below hB HBx.out.lt;have hl:B<w3.heap.size:=rY HAt.out.1 HQ3.out.bel.size;exact⟨q.cell 0,q.cell 1,q.cell 2,(hB.cell (p:=⟨B,off+k*5,none⟩) hl).trans g0,(hB.cell (p:=⟨B,off+k*5+1,none⟩) hl).trans g1,(hB.cell (p:=⟨B,off+k*5+2,none⟩) hl).trans g2,(hB.cell (p:=⟨B,off+k*5+3,none⟩) hl).trans g3,(hB.cell (p:=⟨B,off+k*5+4,none⟩) hl).trans g4⟩
    have aex:Hid (Below w3.heap.size w3 w3.drew):=(bK _ _).drew;have HSb:Hid (∀ j,w3.heap.size<=j->j≠x.a.sb):=fun j hj e=>by
     obtain⟨_,q3⟩:=HQ3.out.dev.Bl;have:=q3.lt;omega
    go_upto_region 15 with fail
    go_cut [15] from 49 to 155 (fun t wx=>∃ nb v2,t= .pointer (some ⟨nb,0,none⟩)/\Hid (eF wx nb (kX V.image o.v) v2 (iM V.texts o.v) x.a.sb)/\Hid (Below w3.heap.size w3 wx))
    case first=>
     refine wZ (S:=(fun wx=>wx.cell? ⟨hb,0,none⟩=some (.string z)/\wx.cell? ⟨hb,1,none⟩=some (.bool bz)/\wx.cell? ⟨hb,2,none⟩=some (.slice Av V.texts.length cv)/\wx.cell? ⟨B,off+k*5,none⟩=some (.int .i64 o.kind)/\wx.cell? ⟨B,off+k*5+1,none⟩=some (.int .i64 o.n)/\wx.cell? ⟨B,off+k*5+2,none⟩=some (.int .i64 o.size)/\wx.cell? ⟨B,off+k*5+3,none⟩=some (.int .u8 o.fill)/\wx.cell? ⟨B,off+k*5+4,none⟩=some (.slice A5 n5 c5))) (by kernel_rfl) (ZV.out _ (bK _ _).drew) (fun zs=>?_);refine' tk 0 rfl zs ?_;refine' tk 1 rfl zs ?_;refine' tk 2 rfl zs ?_;refine' tk 3 rfl zs ?_;refine' tk 4 rfl zs ?_;refine wpAnyH_ready (rs:= [5,6]) (by kernel_rfl) (by simp) ?_;refine AllReadyH.cons rfl (fun K hK=>?_) (AllReadyH.cons rfl (fun K hK=>?_) AllReadyH.nil)
     ·go_simp;go_at_call 34;refine(HAf.out _ aex.out).mono ?_;rintro e w4 ⟨v',rfl,hr,hB⟩;obtain⟨Ar,cr,rfl⟩:=Sec.aJ hr;have HB4:=zh (aex.out.trans (hB.mono aex.out.size));have HR4:=zh hr;clear hB hr;go_wp2_with fail;refine hK.out _ _ (ZV.out _ HB4.out) (fun zs=>?_);clear hK K;try simp only[sA,gA]
      have uh:Hid (Below w3.heap.size w3 (w4.alloc (.cells #[.string ⟨#[]⟩,.bool false,.slice none 0 0] 52))):=HB4.out.alloc HB4.out.size _;have R5:Hid (ak (w4.alloc (.cells #[.string ⟨#[]⟩,.bool false,.slice none 0 0] 52)) w4.heap.size 52 #[.string ⟨#[]⟩,.bool false,.slice none 0 0]):=ak.new _ _ _;have f0:=R5.out.frozen 0;have f1:=R5.out.frozen 1;have f2:=R5.out.frozen 2;refine td 6 rfl (fun K hK=>?_);go_simp;refine hK.out _ _ (ZV.out _ uh.out) (fun zs=>?_);clear hK K;try simp only[sA,gA]
      have oq:Hid (Below w3.heap.size w3 (w4.alloc (.cells #[.string Z2,.bool B2,.slice Ar (iM V.texts o.v).length cr] 52))):=HB4.out.alloc HB4.out.size _;have HN6:Hid (eF (w4.alloc (.cells #[.string Z2,.bool B2,.slice Ar (iM V.texts o.v).length cr] 52)) w4.heap.size (kX V.image o.v) (.slice Ar (iM V.texts o.v).length cr) (iM V.texts o.v) x.a.sb):=⟨by rw[HZ2.out.1,HZ2.out.2];exact ak.new _ _ _,jT (HR4.out.alloc _),fun k e=>HSb.out _ (HR4.out.lt k e).1⟩;refine td 7 rfl (fun K hK=>?_);go_simp;refine hK.out _ _ (ZV.out _ oq.out) (fun zs=>?_);refine pW (by kernel_rfl) ?_ _;clear hK K;go_wp2_with fail;go_meet
      case rel=>exact⟨_,_,rfl,HN6,oq⟩
     ·go_simp;have uh:Hid (Below w3.heap.size w3 (w3.alloc (.cells #[.string ⟨#[]⟩,.bool false,.slice none 0 0] 52)).drew):=((bK _ _).alloc (aF _) _).drew;have R5:Hid (ak (w3.alloc (.cells #[.string ⟨#[]⟩,.bool false,.slice none 0 0] 52)).drew w3.heap.size 52 #[.string ⟨#[]⟩,.bool false,.slice none 0 0]):=by
       have q:=ak.new w3 52 #[.string ⟨#[]⟩,.bool false,.slice none 0 0];have hl:=q.lt;exact q.below (bK _ _).drew hl
      refine hK.out _ _ (ZV.out _ uh.out) (fun zs=>?_);clear hK K;try simp only[sA,gA]
      refine td 5 rfl (fun K hK=>?_);go_simp;go_at_call 34;refine(HAf.out _ uh.out).mono ?_;rintro e w4 ⟨v',rfl,hr,hB⟩;obtain⟨Ar,cr,rfl⟩:=Sec.aJ hr;have HB4:=zh (uh.out.trans (hB.mono uh.out.size));have HR4:=zh hr;have R4:=zh (R5.out.below hB R5.out.lt);have f0:=R4.out.frozen 0;have f1:=R4.out.frozen 1;have f2:=R4.out.frozen 2;have c0:=R4.out.cell 0;have c1:=R4.out.cell 1;have c2:=R4.out.cell 2;clear hB hr;go_wp2_with fail;refine hK.out _ _ (ZV.out _ HB4.out) (fun zs=>?_);clear hK K;try simp only[sA,gA]
      have oq:Hid (Below w3.heap.size w3 (((w4.setCell ⟨w3.heap.size,0,none⟩ (.string Z2)).setCell ⟨w3.heap.size,1,none⟩ (.bool B2)).setCell ⟨w3.heap.size,2,none⟩ (.slice Ar (iM V.texts o.v).length cr))):=((HB4.out.setCell (p:=⟨w3.heap.size,0,none⟩) (aF _) _).setCell (p:=⟨w3.heap.size,1,none⟩) (aF _) _).setCell (p:=⟨w3.heap.size,2,none⟩) (aF _) _;have HN6:Hid (eF (((w4.setCell ⟨w3.heap.size,0,none⟩ (.string Z2)).setCell ⟨w3.heap.size,1,none⟩ (.bool B2)).setCell ⟨w3.heap.size,2,none⟩ (.slice Ar (iM V.texts o.v).length cr)) w3.heap.size (kX V.image o.v) (.slice Ar (iM V.texts o.v).length cr) (iM V.texts o.v) x.a.sb):=by
       unfold Hid;rw[<-HZ2.out.1,<-HZ2.out.2];exact eF.put R4.out rfl (jT HR4.out) (fun k e=>HSb.out _ (fU uh.out.size (HR4.out.lt k e).1))
      refine td 7 rfl (fun K hK=>?_);go_simp;refine hK.out _ _ (ZV.out _ oq.out) (fun zs=>?_);refine pW (by kernel_rfl) ?_ _;clear hK K;go_wp2_with fail;go_meet
      case rel=>exact⟨_,_,rfl,HN6,oq⟩
    case rest=>
    obtain⟨nb,v2,rfl,HN4,HB4⟩:=hcut;have HQ4:=zh (HQ3.out.on HB4.out);have WO:=zh (HH3.out.below HB4.out);clear x0 x1 x2 g0 g1 g2 g3 g4 ZV aex HSb HAf HZ2 HBx HZ HQ3 HH3 HB4;obtain⟨vp4,hp4⟩:=HQ4.out.pl;have y0:=hp4.cell 0;have HUp:=zh HQ4.out.up;have HTr:=zh (HQ4.out.trip (-1));obtain⟨E,hE⟩:∃ E,R.1=E:=⟨_,rfl⟩;rw[hE];have HE:=zh hE;obtain⟨up,hup⟩:∃ up,(!R.2.2.down)=up:=⟨_,rfl⟩;rw[hup] at HUp;have HUe:=zh hup;clear hE hp4 hup;go_wp2_with fail;refine HUp.out.mono ?_;rintro e w4 ⟨rfl,rfl⟩;go_wp2_with fail;refine HTr.out.mono ?_;rintro e w5 ⟨rfl,hq5,hl5⟩;have HQ5:=zh hq5;have HH5:=zh (eF.sV HQ4.out.dev WO.out hl5);have HN5:=zh (eF.sV HQ4.out.dev HN4.out hl5);obtain⟨vp5,hp5⟩:=HQ5.out.pl;have y0:=hp5.cell 0;have HMt:=zh (IZ hq5 HFi.out _ P HP.out);clear hp5 hq5 hl5 HQ4 WO HN4 HUp HTr;go_wp2_with fail;refine HMt.out.mono ?_;rintro e w6 ⟨rfl,hq6,OT⟩;have HQ6:Hid (D7 W w6 x.a pb h (R.2.2.mount P)):=hq6;have HH6:=zh (eF.sV HQ5.out.dev HH5.out OT);have HN6:=zh (eF.sV HQ5.out.dev HN5.out OT);have HDb:=zh (Vr HQ6.out HL1.out rfl (show k+1+1<=255 by have:=aev.out;omega) HK2.out);clear hq6 OT HQ5 HH5 HN5 HMt;go_wp2_with fail;refine HDb.out.mono ?_;rintro e w7 ⟨T,rfl,hT,qQ⟩;have HQ7:=zh (HQ6.out.on qQ);have HH7:=zh (HH6.out.below qQ);have HN7:=zh (HN6.out.below qQ);have HTs:=zh hT;clear qQ hT HQ6 HH6 HN6 HDb;cases T with
    | true=>
     go_wp2_with fail;go_ret;exact⟨rfl,HQ7.out.bel⟩
    | false=>
     have HOp:=zh (Zf HQ7.out HL1.out ⟨rfl,rfl⟩ (show k+1+1<=255 by have:=aev.out;omega) (HTs.out rfl) HK.out);go_wp2_with fail;refine HOp.out.mono ?_;rintro e w8 ⟨rfl,hl8,x',V',D'',p',u',hxa,hp8,hleft,hroot,rfl,rfl⟩;obtain⟨vp7,hp7⟩:=HQ7.out.pl;have HH8:Hid (eF w8 hb V.image (.slice Av V.texts.length cv) V.texts x.a.sb):=eF.afR HQ7.out.dev hp7 HH7.out hl8;have HN8:Hid (eF w8 nb (kX V.image o.v) v2 (iM V.texts o.v) x.a.sb):=eF.afR HQ7.out.dev hp7 HN7.out hl8;have HP8:=zh hp8;have HLf:=zh hleft;have HXa:=zh hxa;have y1:=hp8.pl.cell 1;have HRd:=zh (Me hp8);clear hl8 hp8 hleft hxa hp7 HQ7 HH7 HN7 HTs HOp y0;go_wp2_with fail;refine HRd.out.mono ?_;rintro e w9 ⟨v9,rfl,⟨hT9,hs9⟩,oC⟩;obtain⟨A9,c9,rfl,_⟩:=hT9.parts;obtain⟨An,cn,rfl,_⟩:=HN8.out.row.parts;obtain⟨z9,hz9⟩:∃ z,V'.image.getD ⟨#[]⟩=z:=⟨_,rfl⟩;obtain⟨b9,hb9⟩:∃ z,V'.image.isSome=z:=⟨_,rfl⟩;obtain⟨z,hz⟩:∃ z,V.image.getD ⟨#[]⟩=z:=⟨_,rfl⟩;obtain⟨bz,hbz⟩:∃ z,V.image.isSome=z:=⟨_,rfl⟩;obtain⟨Z2,hZ2⟩:∃ z,(kX V.image o.v).getD ⟨#[]⟩=z:=⟨_,rfl⟩;obtain⟨B2,hB2⟩:∃ z,(kX V.image o.v).isSome=z:=⟨_,rfl⟩;have hA:Below w9.heap.size w9 (w9.alloc (.cells #[.string z9,.bool b9,.slice A9 V'.texts.length c9] 52)):=(bK _ _).alloc (aF _) _;have SQ:=zh ((HP8.out.on oC).on hA);have HH9:=zh ((HH8.out.below oC).below hA);have HN9:=zh ((HN8.out.below oC).below hA);have HM9:Hid (eF (w9.alloc (.cells #[.string z9,.bool b9,.slice A9 V'.texts.length c9] 52)) w9.heap.size V'.image (.slice A9 V'.texts.length c9) V'.texts x.a.sb):=
      ⟨by rw[hz9,hb9];exact ak.new _ _ _,ownsRow_below hT9 hA (aF _),fun k e=>by rw[<-HXa.out];exact(hs9 k e).1⟩
     have HSn:Hid (∀ k,(Value.slice A9 V'.texts.length c9).ownBlock=some k->u'.ownBlock≠some k):=fun k e=>(hs9 k e).2
     unfold rP;rw[hz9,hb9];have S9:=zh (And.intro (And.intro hz9 hb9) (And.intro (And.intro hz hbz) (And.intro hZ2 hB2)));have HT9:Hid (V'.texts.length<=12):=fU HP8.out.inv.RD HP8.out.hh;have hTn:Hid ((iM V.texts o.v).length<=13):=by
      have:=aew.out;unfold Hid iM;split
      ·simp;omega
      ·exact iT _
     clear hz9 hb9 hz hbz hZ2 hB2 hT9 hs9 oC hA HP8 HH8 HN8 HRd y1;go_upto_region 25 with fail;generalize w9.alloc (.cells #[.string z9,.bool b9,.slice A9 V'.texts.length c9] 52)=w10 at *;generalize w9.heap.size=nw at *;obtain⟨dn,hdn⟩:∃ d,(decide (V'.texts=iM V.texts o.v) && (decide (V'.image.getD ⟨#[]⟩=(kX V.image o.v).getD ⟨#[]⟩) && decide (V'.image.isSome=(kX V.image o.v).isSome)))=d:=⟨_,rfl⟩;obtain⟨kp,hkp⟩:∃ d,(decide (V'.texts=V.texts) && (decide (V'.image.getD ⟨#[]⟩=V.image.getD ⟨#[]⟩) && decide (V'.image.isSome=V.image.isSome)))=d:=⟨_,rfl⟩;have HEq:Hid (∀ wx,Below w10.heap.size w10 wx->Calls Tryz.prog 30 #[.agg #[.string z9,.bool b9,.slice A9 V'.texts.length c9],.agg #[.string Z2,.bool B2,.slice An (iM V.texts o.v).length cn]] wx fun e w'=>e= .returned (.bool dn)/\Below wx.heap.size wx w'):=fun wx hB=>by
      have q:=Mc wx V'.image (kX V.image o.v) _ _ V'.texts (iM V.texts o.v) (kL.row (ownsRow_below HM9.out.row hB (aF _))) (kL.row (ownsRow_below HN9.out.row hB (aF _))) (by have:=HT9.out;omega) (by have:=hTn.out;omega);rw[hdn] at q;unfold rP at q;rw[S9.out.1.1,S9.out.1.2,S9.out.2.2.1,S9.out.2.2.2] at q;exact q
     have HEk:Hid (∀ wx,Below w10.heap.size w10 wx->Calls Tryz.prog 30 #[.agg #[.string z9,.bool b9,.slice A9 V'.texts.length c9],.agg #[.string z,.bool bz,.slice Av V.texts.length cv]] wx fun e w'=>e= .returned (.bool kp)/\Below wx.heap.size wx w'):=fun wx hB=>by
      have q:=Mc wx V'.image V.image _ _ V'.texts V.texts (kL.row (ownsRow_below HM9.out.row hB (aF _))) (kL.row (ownsRow_below HH9.out.row hB (aF _))) (by have:=HT9.out;omega) (by have:=aew.out;omega);rw[hkp] at q;unfold rP at q;rw[S9.out.1.1,S9.out.1.2,S9.out.2.1.1,S9.out.2.1.2] at q;exact q
     have HD:Hid ((E=0/\dn=true)\/(E=15/\kp=true)\/((E=14\/(E=15/\up=false))/\(kp=true\/dn=true))):=by
      have hK1:V'.image=V.image/\V'.texts=V.texts->kp=true:=by
       rintro⟨e1,e2⟩;rw[<-hkp,e1,e2];simp
      have hD1:V'.image=kX V.image o.v/\V'.texts=iM V.texts o.v->dn=true:=by
       rintro⟨e1,e2⟩;rw[<-hdn,e1,e2];simp
      have hq:=HC1.out;rw[HE.out] at hq;rcases hq with⟨a,q⟩ | ⟨a,q⟩ | ⟨a,q⟩
      ·exact .inl ⟨a,hD1 q⟩
      ·exact .inr (.inl ⟨a,hK1 q⟩)
      ·refine .inr (.inr ⟨a.imp id (fun t=>⟨t.1,?_⟩),q.imp hK1 hD1⟩);rw[<-HUe.out,t.2];rfl
     have HBn:Hid (ak w10 nb 52 #[.string Z2,.bool B2,.slice An (iM V.texts o.v).length cn]):=by have:=HN9.out.box;rw[S9.out.2.2.1,S9.out.2.2.2] at this;exact this
     have HBh:Hid (ak w10 hb 52 #[.string z,.bool bz,.slice Av V.texts.length cv]):=by have:=HH9.out.box;rw[S9.out.2.1.1,S9.out.2.1.2] at this;exact this
     have Tc:Hid (ak w10 nw 52 #[.string z9,.bool b9,.slice A9 V'.texts.length c9]):=by have:=HM9.out.box;rw[S9.out.1.1,S9.out.1.2] at this;exact this
     have m0:=Tc.out.cell 0;have m1:=Tc.out.cell 1;have m2:=Tc.out.cell 2;have n0:=HBn.out.cell 0;have n1:=HBn.out.cell 1;have n2:=HBn.out.cell 2;clear hdn hkp HC1 HE HUe HN9 aew HT9 hTn;go_wp2_with fail;refine(HEq.out _ (bK _ _)).mono ?_;rintro e ZU ⟨rfl,Ec⟩;have m0:=(Tc.out.below Ec Tc.out.lt).cell 0;have m1:=(Tc.out.below Ec Tc.out.lt).cell 1;have m2:=(Tc.out.below Ec Tc.out.lt).cell 2;have x0:=(HBh.out.below Ec HBh.out.lt).cell 0;have x1:=(HBh.out.below Ec HBh.out.lt).cell 1;have x2:=(HBh.out.below Ec HBh.out.lt).cell 2;have QX:=zh Ec;clear Ec n0 n1 n2;go_wp2_with fail;refine(HEk.out _ QX.out).mono ?_;rintro e w12 ⟨rfl,Vm⟩;have Zk:=zh (QX.out.trans (Vm.mono QX.out.size));clear Vm QX m0 m1 m2 x0 x1 x2 HEq HEk;go_upto_region 27 with fail
     go_cut [154] from 49 to 155 (fun t wx=>t= .bool false/\wx=w12)
     case first=>
      rcases HD.out with⟨rfl,rfl⟩ | ⟨rfl,rfl⟩ | ⟨rfl | ⟨rfl,rfl⟩,rfl | rfl⟩
      ·go_wp2_with fail;go_meet
       case rel=>exact⟨rfl,rfl⟩
      ·cases dn with
       | true=>
        go_wp2_with fail;go_meet
        case rel=>exact⟨rfl,rfl⟩
       | false=>
        go_wp2_with fail;go_meet
        case rel=>exact⟨rfl,rfl⟩
      ·cases dn with
       | true=>
        go_wp2_with fail;go_meet
        case rel=>exact⟨rfl,rfl⟩
       | false=>
        go_wp2_with fail;go_meet
        case rel=>exact⟨rfl,rfl⟩
      ·go_wp2_with fail;go_meet
       case rel=>exact⟨rfl,rfl⟩
      ·cases dn with
       | true=>
        go_wp2_with fail;go_meet
        case rel=>exact⟨rfl,rfl⟩
       | false=>
        go_wp2_with fail;go_meet
        case rel=>exact⟨rfl,rfl⟩
      ·cases kp with
       | true=>
        go_wp2_with fail;go_meet
        case rel=>exact⟨rfl,rfl⟩
       | false=>
        go_wp2_with fail;go_meet
        case rel=>exact⟨rfl,rfl⟩
     case rest=>
     obtain⟨rfl,hwc⟩:=hcut;subst hwc;have Xv:=zh (HBh.out.below Zk.out HBh.out.lt);have m0:=(Tc.out.below Zk.out Tc.out.lt).cell 0;have m1:=(Tc.out.below Zk.out Tc.out.lt).cell 1;have m2:=(Tc.out.below Zk.out Tc.out.lt).cell 2;have x0:=Xv.out.cell 0;have x1:=Xv.out.cell 1;have x2:=Xv.out.cell 2;have f0:=Xv.out.frozen 0;have f1:=Xv.out.frozen 1;have f2:=Xv.out.frozen 2;have an3:=zh (SQ.out.on Zk.out);have an4:Hid (eF (((wc.setCell ⟨hb,0,none⟩ (.string z9)).setCell ⟨hb,1,none⟩ (.bool b9)).setCell ⟨hb,2,none⟩ (.slice A9 V'.texts.length c9)) hb V'.image (.slice A9 V'.texts.length c9) V'.texts x'.a.sb):=by
      unfold Hid;rw[<-S9.out.1.1,<-S9.out.1.2];exact eF.put Xv.out rfl (ownsRow_below HM9.out.row Zk.out (aF _)) (fun k e=>by rw[HXa.out];exact HM9.out.sep k e)
     clear HD HBn Tc HBh SQ HH9 HM9;go_wp2_with fail;go_roundw
     case rel=>exact⟨k+1,V',D'',x',p',u',.slice A9 V'.texts.length c9,QK.out,by go_num,((an3.out.hset Xv.out hWb.out 0 _).hset (Xv.out.aB 0 _) hWb.out 1 _).hset ((Xv.out.aB 0 _).aB 1 _) hWb.out 2 _,HLf.out,an4.out,HSn.out⟩
     case measure=>rw[hwk];exact vM QK.out
  ·have hd1:decide (k<ops.length)=false:=bU hkl;have qQ:=H.out.st.bel;clear hkl hk hwk H;go_wp2_with fail;go_ret;exact⟨rfl,qQ⟩
theorem acn (Yo:Calls Tryz.prog 8 #[] W fun e w'=>e= .returned (.bool true)/\Below W.heap.size W w') (x:Int) (A:Option Addr) (N c:Nat) (A2:Option Addr) (n2 c2:Nat) (A3:Option Addr) (n3 c3:Nat) (h:¬ (2<=x/\x<=24/\N<=16/\n3<=30)):
  Calls Tryz.prog 7 #[.int .i64 x,.slice A N c,.slice A2 n2 c2,.slice A3 n3 c3] W fun e w'=>e= .returned (.bool true)/\Below W.heap.size W w':=by
 have HS:=zh Yo;by_cases h2:24<x
 ·have d2:decide (24<x)=true:=dF h2;clear h h2 Yo;go_enter Tryz.func7,Tryz.ntmps7;go_wp2_with (first | (go_at_call 8;refine HS.out.mono ?_;rintro e w1 ⟨rfl,hB⟩));go_ret;exact⟨rfl,hB⟩
 ·have d2:decide (24<x)=false:=bU h2;by_cases h3:16<N
  ·have d3:decide (16<N)=true:=dF h3;have d3':decide (16<(N:Int))=true:=dF (by omega);clear h h2 h3 Yo;go_enter Tryz.func7,Tryz.ntmps7;go_wp2_with (first | (go_at_call 8;refine HS.out.mono ?_;rintro e w1 ⟨rfl,hB⟩));go_ret;exact⟨rfl,hB⟩
  ·have d3:decide (16<N)=false:=bU h3;have d3':decide (16<(N:Int))=false:=bU (by omega);by_cases h4:30<n3
   ·have d4:decide (30<n3)=true:=dF h4;have d4':decide (30<(n3:Int))=true:=dF (by omega);clear h h2 h3 h4 Yo;go_enter Tryz.func7,Tryz.ntmps7;go_wp2_with (first | (go_at_call 8;refine HS.out.mono ?_;rintro e w1 ⟨rfl,hB⟩));go_ret;exact⟨rfl,hB⟩
   ·have d4:decide (30<n3)=false:=bU h4;have d4':decide (30<(n3:Int))=false:=bU (by omega);have HB:Hid (∀ wx,Calls Tryz.prog 13 #[.int .i64 x,.int .u8 1] wx fun e w'=>e= .returned (.tuple #[.pointer none,.bool false])/\Below wx.heap.size wx w'):=fun wx=>Y7 x 1 (by decide) (by omega)
    clear h h2 h3 h4 Yo;go_enter Tryz.func7,Tryz.ntmps7;go_wp2_with (first
     | (go_at_call 8;refine HS.out.mono ?_;rintro e w1 ⟨rfl,hB⟩;have HB1:=zh hB;clear hB)
     | (go_at_call 13;refine(HB.out _).mono ?_;rintro e w2 ⟨rfl,hB⟩;have HB2:=zh (HB1.out.trans (hB.mono HB1.out.size));clear hB))
    go_ret;exact⟨rfl,HB2.out⟩
theorem ab1 (Yo:Calls Tryz.prog 8 #[] W fun e w'=>e= .returned (.bool true)/\Below W.heap.size W w') (hK:lV W 1/\lV W 0) (x:Int) (v:Value) (ops:List lQ) (hv:I7 W v ops) (ho:∀ (i:Nat) (o:lQ),ops[i]? =some o->o.ok)
  (fv:Value) (F:List Nat) (hF:Oh W fv F) (pv:Value) (P:List Int) (hP:mO W pv P):
  Calls Tryz.prog 7 #[.int .i64 x,v,fv,pv] W fun e w'=>e= .returned (.bool true)/\Below W.heap.size W w':=by
 by_cases h:2<=x/\x<=24/\ops.length<=16/\P.length<=30
 ·obtain⟨n,rfl⟩:=Int.eq_ofNat_of_zero_le (show 0<=x by omega);exact Zh Yo hK.1 hK.2 n (by omega) v ops hv ho h.2.2.1 fv F hF pv P hP h.2.2.2
 ·obtain⟨A,c,rfl,_⟩:=hv;obtain⟨A2,c2,rfl,_⟩:=hF;obtain⟨A3,c3,rfl,_⟩:=hP;exact acn Yo x A ops.length c A2 F.length c2 A3 P.length c3 h
end
end
open Go.ChangeShapes Go.WideShapes Go.ChangeAt Go.RowKit Go.Deep
section
variable {H:Type} {enc:TypeId×Value->H} {W:World} {v:Value} {d:DataW H} {ps:List MemPlace} {base:Nat}
theorem Vg (hv:Value.okWide Tryz.prog W .any base 66 v) (h:DataW.Trod enc Tryz.prog W 0 (fun _=>true) true 66 v d ps):∃ F:List Nat,Oh W v F:=by
 obtain⟨a0,len,cap,rfl⟩:=okWide_slice Tryz.underlying66 hv;obtain⟨fuel,hf⟩:=h;rcases open_slice1 Tryz.underlying66 V6 hf with⟨hcs,_⟩ | ⟨a,len',cap',m',n,V,D,Pl,hcs,_,hl,hm,hmm,_,hx⟩
 ·simp[Value.cells] at hcs;obtain⟨rfl,rfl,rfl⟩:=hcs;exact⟨[],none,0,rfl,iT _,fun h=>absurd h (by simp)⟩
 ·simp[Value.cells] at hcs;obtain⟨rfl,rfl,rfl⟩:=hcs;have hml:len<=m':=by
   rw[hmm]
   simpa using hl
  obtain⟨T,hT⟩:=choose_lt (α:=Nat) (n:=len) (p:=fun i T=>W.cell? (a.add i)=some (.int .u8 (T:Int))/\T<256) (fun i hi=>by
   obtain⟨h1,h2⟩:=hx i (by omega);obtain⟨k,hk,_,hz⟩:=DataW.trod_int Tryz.underlying5 h2;simp at hk;obtain⟨m,rfl,hm2⟩:=aai hz;exact⟨m,by rw[h1,hk],hm2⟩)
  have hlen:((List.range len).map T).length=len:=by rw[lq,List.length_range]
  refine⟨(List.range len).map T,some a,cap,by rw[hlen],by rw[hlen];omega,fun h0=>?_⟩;rw[hlen] at h0;have h00:=(hT 0 h0).1;have ha0:a.add 0=a:=by simp[Addr.add]
  rw[ha0] at h00;obtain⟨ha,hbl⟩:=cell_spot h00;refine⟨a.block,a.off,by rw[<-ha],hbl,fun i y hy=>?_⟩;rw[sD] at hy;obtain⟨i',hi',rfl⟩:=Option.map_eq_some_iff.1 hy;have hil:i<len:=by have:=(List.getElem?_eq_some_iff.1 hi').1;simpa using this
  have:i'=i:=by rw[List.getElem?_range hil] at hi';cases hi';rfl
  subst this;obtain⟨h1,h2⟩:=hT i' hil;rw[ha,Addr.add_lit] at h1;exact⟨h1,h2⟩
theorem Vh (hv:Value.okWide Tryz.prog W .any base 30 v) (h:DataW.Trod enc Tryz.prog W 0 (fun _=>true) true 30 v d ps):∃ P:List Int,mO W v P:=TD hv h
end
end Go.Proofs.YtpghocekofdpbaaGreatDoor
