import Derived.Test.YtpghocekofdpbaaGreatDoorQr51
set_option maxRecDepth 100000
set_option maxHeartbeats 8000000
namespace Go.Proofs.YtpghocekofdpbaaGreatDoor
section
open Go.RowKit Go.Shelf
attribute [local go_sem] Oper.semAt_some
section
variable {W w w':World} {a:nP} {h pb:Nat} {D:Dev}
theorem YQ {M:List Sec} {n:Nat} (hn:M.length=n) (hf:Fine M):∃ M',kP (M.map Sec.now) (dN n 3 2).M=M'/\dS (M.map Sec.now) (dN n 3 2).M=false/\Fine M'/\Clean M'/\aP M'=aP M:=by
 have hlen:(M.map Sec.now).length=(dN n 3 2).M.length:=by simp[dN,hn]
 have hw:kR (M.map Sec.now)=false:=by
  unfold kR;rw[List.any_eq_false];intro t ht;obtain⟨y,hy,rfl⟩:=List.mem_map.1 ht;have:=(hf y hy).1;simp[this]
 have he:dS (M.map Sec.now) (dN n 3 2).M=false:=by
  unfold dS;rw[hw,hlen];simp
 refine⟨_,rfl,he,fun y hy=>?_,fun y hy=>?_,QN (IC _ _ hlen)⟩
 ·obtain⟨h1,h2,h3⟩:=BZ hy;obtain⟨z,hz,e⟩:=List.mem_map.1 h1;have h64:=(hf z hz).1;rw[e] at h64;exact⟨h64,by rw[h2];exact h64,fun q=>by rw[h3] at q;cases q⟩
 ·exact(BZ hy).2.2
theorem NY (k:D7 W w a pb h D) (hf:Fine D.M) (h1:1<=h) (hd:D.down=false) {s0 s1 s2:ByteArray} (hs:D.slots= [s0,s1,s2]) (hz:s0.size=32/\s2.size=32) (hl:∀ e ∈ (bT h D.M).l,e.1<9223372036854775808/\e.2.size<=1000000) (hK:lV W 0):
  Calls Tryz.prog 28 #[.pointer (some ⟨pb,0,none⟩)] w fun e w'=>e= .returned (.bool (l7 (bT h D.M).l s0 s2))/\Below w.heap.size w w':=by
 obtain⟨n,hn⟩:∃ n,D.M.length=n:=⟨_,rfl⟩;have hlen:=k.len;have abI:=k.half;rw[hn] at hlen abI;obtain⟨M',hM,he,hf',hc',YR⟩:=YQ hn hf;have hj:bT (n/2) M'=bT h D.M:=by rw[abI];exact AB YR
 have HL0:Hid (Calls Tryz.prog 31 #[.pointer (some ⟨a.d,0,none⟩),.int .i64 0] w fun e w'=>e= .returned (.tuple #[.string s0,.int .i64 0])/\w=w'):=by
  have q:=DF k.dev 0;simp only[hd,hs,Bool.false_eq_true,if_false] at q;rw[if_pos (show FK [s0,s1,s2] 0 from ⟨by decide,by simp⟩),if_pos (show FK [s0,s1,s2] 0 from ⟨by decide,by simp⟩)] at q;exact q
 have HL2:Hid (Calls Tryz.prog 31 #[.pointer (some ⟨a.d,0,none⟩),.int .i64 2] w fun e w'=>e= .returned (.tuple #[.string s2,.int .i64 0])/\w=w'):=by
  have q:=DF k.dev 2;simp only[hd,hs,Bool.false_eq_true,if_false] at q;rw[if_pos (show FK [s0,s1,s2] 2 from ⟨by decide,by simp⟩),if_pos (show FK [s0,s1,s2] 2 from ⟨by decide,by simp⟩)] at q;exact q
 have HI:=zh (Gs k.dev (by omega));have HT:Hid (∀ wx v,Below w.heap.size w wx->Texts wx v (D.M.map Sec.now)->Calls Tryz.prog 63 #[v,.string s0,.string s2] wx fun e w'=>e= .returned (.bool (l7 (bT h D.M).l s0 s2))/\Below wx.heap.size wx w'):=fun wx v hB hv=>by
  have hq:=abE wx v _ s0 s2 hv n (by rw[lq];exact hn) ⟨by omega,by omega⟩ M' hM he hf' hc' (by rw[hj];exact hl) (by omega) (by omega) (hK.below (k.bel.trans (hB.mono k.bel.size)));rw[hj] at hq;exact hq
 obtain⟨v0,hp⟩:=k.pl;have y0:=hp.cell 0;obtain⟨T,hT⟩:∃ T,l7 (bT h D.M).l s0 s2=T:=⟨_,rfl⟩;rw[hT] at HT ⊢;clear hT hp k hlen abI hM he hf' hc' YR hj hl hf hK hs hz hd;go_enter Tryz.func28,Tryz.ntmps28;go_wp2_with fail;refine HL0.out.mono ?_;rintro e w1 ⟨rfl,rfl⟩;go_wp2_with fail;refine HL2.out.mono ?_;rintro e w1 ⟨rfl,rfl⟩;go_wp2_with fail;refine HI.out.mono ?_;rintro e w2 ⟨v2,rfl,hN,_,hB⟩;have HN:=zh (jT hN);have HB:=zh hB;clear hN hB;go_wp2_with fail;refine(HT.out _ _ HB.out HN.out).mono ?_;rintro e w3 ⟨rfl,hB⟩;have HB3:=zh (HB.out.trans (hB.mono HB.out.size));clear hB;go_wp2_with fail;go_ret;exact⟨rfl,HB3.out⟩
end
end
section
open Go.RowKit Go.Shelf
attribute [local go_sem] Oper.semAt_some
structure eF (w:World) (j:Nat) (i:Option ByteArray) (v:Value) (I:List ByteArray) (sb:Nat):Prop where
 box:ak w j 52 #[.string (i.getD ⟨#[]⟩),.bool i.isSome,v]
 row:Texts w v I
 sep:∀ k,v.ownBlock=some k->k≠sb
def Dev.trip (D:Dev) (n:Int):Dev:= { D with left:=max n (-1) }
section
variable {W w w':World} {x:uX} {a:nP} {h b pb j:Nat} {V:mJ} {D:Dev} {p u v:Value} {i:Option ByteArray} {I:List ByteArray} {sb:Nat}
theorem eF.below (H:eF w j i v I sb) (hB:Below w.heap.size w w'):eF w' j i v I sb:=⟨H.box.below hB H.box.lt,ownsRow_below H.row hB (aF _),H.sep⟩
theorem eF.play (k:kH w x h V D p u) (H:eF w j i v I x.a.sb) (hF:bH w w' x u) (hu:∀ k,v.ownBlock=some k->u.ownBlock≠some k):eF w' j i v I x.a.sb:=
 ⟨k.box hF H.box (by decide),gI H.row (fun j cs e hj=>bH.keeps k hF hj (fun e=>by cases e) (fun e=>by cases e) (fun _=>⟨H.sep j e,hu j e⟩) (fun e=>by cases e) (fun e=>by cases e) (fun e=>by cases e)),H.sep⟩
theorem eF.sV (hd:aO w a D) (H:eF w j i v I a.sb) (hF:dJ w w' a):eF w' j i v I a.sb:=
 ⟨hF.box hd H.box (by decide),gI H.row (fun j cs e hj=>hF.blk hd hj (fun e=>by cases e) (fun e=>by cases e) (fun _=>H.sep j e) (fun e=>by cases e)),H.sep⟩
theorem kW.keeps (hd:aO w a D) {cs0:Array Value} (hp:ak w pb 37 cs0) (hF:kW w w' a pb) {g:Nat} {t:TypeId} {cs:Array Value} (hb:ak w g t cs) (h0:t≠89/\t≠139/\t≠4/\t≠37) (h3:t=9->g≠a.sb):w'.heap[g]? =w.heap[g]? :=by
 obtain⟨_,q2⟩:=hd.JJ;obtain⟨_,q3⟩:=hd.Bl;obtain⟨_,q4⟩:=hd.JK;refine hF.rest g hb.lt (hb.gY hd.blk h0.1) (hb.gY q2 h0.2.1) ?_ (hb.gY q4 h0.2.2.1) (hb.gY hp h0.2.2.2);by_cases e:t=9
 ·exact h3 e
 ·exact hb.gY q3 e
theorem eF.afR (hd:aO w a D) {cs0:Array Value} (hp:ak w pb 37 cs0) (H:eF w j i v I a.sb) (hF:kW w w' a pb):eF w' j i v I a.sb:=
 ⟨(kW.keeps hd hp hF H.box (by decide) (fun e=>by cases e)).trans H.box,gI H.row (fun j cs e hj=>kW.keeps hd hp hF hj (by decide) (fun _=>H.sep j e)),H.sep⟩
theorem jy.trip (I:jy h V D b) (n:Int) (hn:n<=9223372036854775807):jy h V (D.trip n) b:=
 ⟨⟨I.on.down,by show -1<=max n (-1)/\max n (-1)<=9223372036854775807;omega⟩,I.CJ,I.dL,I.slots,I.root,I.read⟩
theorem uY.trip (k:uY W w x pb h V D b p u) (n:Int) (hn:n<=9223372036854775807):Calls Tryz.prog 24 #[.pointer (some ⟨x.a.d,0,none⟩),.int .i64 n] w fun e w'=>e= .returned (.tuple #[])/\uY W w' x pb h V (D.trip n) b p u/\dJ w w' x.a:=by
 refine(KA k.vis.dev n).mono ?_;rintro e w' ⟨rfl,hd,hF⟩;exact⟨rfl,⟨k.vis.sV hF hd,k.inv.trip n hn,dJ.box hF k.vis.dev k.pl (by decide),iP.below hF k.bel k.bel.size k.back.d k.back.g k.back.sb k.back.fb,k.back,k.len,k.half,k.at_⟩,hF⟩
theorem D7.trip (k:D7 W w a pb h D) (n:Int):Calls Tryz.prog 24 #[.pointer (some ⟨a.d,0,none⟩),.int .i64 n] w fun e w'=>e= .returned (.tuple #[])/\D7 W w' a pb h (D.trip n)/\dJ w w' a:=by
 refine(KA k.dev n).mono ?_;rintro e w' ⟨rfl,hd,hF⟩;exact⟨rfl,k.sV hF hd rfl,hF⟩
theorem Vr (k:D7 W w a pb h D) {root:ByteArray} {i:Option ByteArray} {l:List ByteArray} (L:Lies h D b root i l) (hd:D.down=false) (hb:b<=255) (hK:lV W 0):
  Calls Tryz.prog 28 #[.pointer (some ⟨pb,0,none⟩)] w fun e w'=>∃ T,e= .returned (.bool T)/\(T=false->Og h D root)/\Below w.heap.size w w':=by
 obtain⟨J,R,s0,s1,s2,hJ,hR,hI,hT,hs,h1,h2⟩:=L.ok;have hg:=L.good;rw[hs] at hg;obtain⟨g1,g2,g3⟩:=hg;have hJo:=hJ.open_ hb;have hk1:=k.half;have hk2:=k.len;refine(NY k hJ.inv.fine hJ.inv.pos hd hs ⟨g1,g3⟩ (JInv.hbl hJo.inv (by have:=hJo.next;omega) (by omega)).1 hK).mono ?_;rintro e w' ⟨rfl,hB⟩;refine⟨_,rfl,fun e=> .inr ?_,hB⟩;rw[hs];exact e
theorem Me (k:uY W w x pb h V D b p u):
  Calls Tryz.prog 23 #[.pointer (some ⟨pb,0,none⟩)] w fun e w'=>∃ v,e= .returned (rP V.image v)/\(Texts w' v V.texts/\∀ k,v.ownBlock=some k->k≠x.a.sb/\u.ownBlock≠some k)/\Below w.heap.size w w':=by
 refine(Zc k).mono ?_;rintro e w' ⟨v,rfl,hr,hB⟩;obtain⟨_,_,s3,_,_,_,s7,_⟩:=k.vis.sizes;refine⟨v,rfl,⟨jT hr,fun j e=>?_⟩,hB⟩;have hj:=(hr.lt j e).1;exact⟨by omega,fun q=>by have:=s7 j q;omega⟩
end
end
section
open Go.RowKit Go.Shelf
attribute [local go_sem] Oper.semAt_some
section
variable {W w w':World} {hb pb h b:Nat} {V:mJ} {D:Dev} {x:uX} {p u v:Value}
theorem uY.play (k:uY W w x pb h V D b p u) (hb:b<255) (hK:lV W 1) (o:lQ) (hf:o.fill<256) (hk:o.kind=1\/o.kind=2\/o.kind=3) (A:Option Addr) (m c:Nat) {R:uZ} (hR:jO h V D o.v=R):
  Calls Tryz.prog 20 #[.pointer (some ⟨pb,0,none⟩),.agg #[.int .i64 o.kind,.int .i64 o.n,.int .i64 o.size,.int .u8 o.fill,.slice A m c]] w (eU w x h p u R):=by
 rw[<-hR];exact ab5 k hb hK o.kind o.n o.size o.fill hf hk A m c
end
section
variable {W:World}
end
end
section
open Go.RowKit Go.Shelf
attribute [local go_sem] Oper.semAt_some
def CB:ByteArray:=⟨#[116,104,101,32,105,109,97,103,101,32,111,102,32,116,104,101,32,114,101,107,101,121]⟩
theorem Rz (f:Nat) (s:Int):AQ f s≠CB:=by
 intro h;have h0:(AQ f s).size=22:=by rw[h];rfl
 rw[E8] at h0;have h1:Aa f (MR s)= [116,104,101,32,105,109,97,103,101,32,111,102,32,116,104,101,32,114,101,107,101,121]:=congrArg (fun x:ByteArray=>x.data.toList) h;rw[h0] at h1;have e0:(Aa f 22)[0]? =some (UInt8.ofNat ((f+0 % 7) % 256)):=by unfold Aa;simp
 have e1:(Aa f 22)[1]? =some (UInt8.ofNat ((f+1 % 7) % 256)):=by unfold Aa;simp
 rw[h1] at e0 e1;have d0:(116:UInt8)=UInt8.ofNat ((f+0 % 7) % 256):=by simpa using e0
 have d1:(104:UInt8)=UInt8.ofNat ((f+1 % 7) % 256):=by simpa using e1
 have n0:=congrArg UInt8.toNat d0;have n1:=congrArg UInt8.toNat d1;simp at n0 n1;omega
theorem acg:bV 1≠bV 77:=by
 intro h;have h1:sZ 1 32=sZ 77 32:=congrArg (fun x:ByteArray=>x.data.toList) h;have e0:(sZ 1 32)[0]? =some (UInt8.ofNat (1 % 256)):=by unfold sZ;simp
 have e1:(sZ 77 32)[0]? =some (UInt8.ofNat (77 % 256)):=by unfold sZ;simp
 rw[h1,e1] at e0;exact absurd e0 (by decide)
def aci (i:Option ByteArray):Prop:=i=none\/∃ f s,i=some (AQ f s)
theorem aci.ne {i:Option ByteArray} (h:aci i):i≠some CB:=by
 rcases h with rfl | ⟨f,s,rfl⟩
 ·exact fun h=>by cases h
 ·exact fun h=>Rz f s (Option.some.inj h)
section
variable {h b:Nat} {V:mJ} {D:Dev}
theorem Vp (I:jy h V D b) (hb:b<254) (hl:D.left= -1) (o:kE) (hk:o.kind=1\/o.kind=2):∃ V',(jO h V D o).2.1=some V'/\jy h V' (jO h V D o).2.2 (b+1)/\V'.root=V.root/\(V'.image=V.image\/V'.image=some o.text):=by
 have ht:=o.aeC;rcases hk with h1 | h2
 ·have e:jO h V D o=dX h V D o.text:=by unfold jO;rw[if_pos h1]
  rw[e];rcases Jd I (by omega) o.text (by omega) with⟨_,a⟩ | ⟨_,_,⟨V',k1,k2,k3,k4,_⟩,_⟩ | ⟨a0,_⟩
  ·rw[a];exact⟨V,rfl,I.up (by omega),rfl,.inl rfl⟩
  ·exact⟨V',k1,k2,k3,.inl k4⟩
  ·omega
 ·have e:jO h V D o=dK h V D o.text:=by unfold jO;rw[if_neg (by rw[h2];decide),if_pos h2]
  rw[e];rcases CW I (by omega) o.text (by omega) with⟨_,a⟩ | ⟨_,_,⟨V',k1,k2,k3,k4,_⟩⟩ | ⟨a0,_⟩
  ·rw[a];exact⟨V,rfl,I.up (by omega),rfl,.inl rfl⟩
  ·exact⟨V',k1,k2,k3,.inr k4⟩
  ·omega
theorem Zd (I:jy h V D b) (hb:b<255) (root image:ByteArray) (hr:root.size=32/\root≠zero32) (hi:image.size<=7939) (P:List Int):
  ∃ r i l,Lies h ((eY h V D root image).2.2.mount P) (b+1) r i l/\((r=V.root/\i=V.image/\l=V.texts)\/(r=root/\i=some image/\l= [])):=by
 rcases Eh I hb root image hr hi with⟨_,⟨_,k2⟩ | ⟨_,a2⟩⟩ | ⟨_,⟨V',_,k2,k3,k4,k5⟩⟩ | ⟨_,_,a2⟩
 ·exact⟨_,_,_,((k2.up (by omega)).mount P).lies.1,.inl ⟨rfl,rfl,rfl⟩⟩
 ·obtain⟨r,i,l,q,L⟩:=a2.lies P;exact⟨r,i,l,L,.inl q⟩
 ·exact⟨_,_,_,(k2.mount P).lies.1,.inr ⟨k3,k4,k5⟩⟩
 ·obtain⟨r,i,l,q,L⟩:=a2.lies P;exact⟨r,i,l,L,q⟩
theorem Zf {root:ByteArray} {i:Option ByteArray} {l:List ByteArray} (L:Lies h D b root i l) (hd:nM D) (hb:b<=255) (hs:Og h D root) (P:List Int):
  Lies h ((iR h D).2.2.mount P) b root i l/\Og h ((iR h D).2.2.mount P) root:=by
 rcases Zo L hd hb hs with⟨V,D',e,e1,e2,e3,hi,_⟩ | ⟨D',e,_,_,h4⟩
 ·rw[e];obtain⟨q1,q2⟩:=(hi.mount P).lies;rw[e1,e2,e3] at q1;rw[e1] at q2;exact⟨q1,.inl q2⟩
 ·rw[e];exact h4 P
end
section
variable {W w w':World} {x:uX} {a:nP} {h b pb j:Nat} {V:mJ} {D:Dev} {p u v:Value}
theorem Zh (k:D7 W w a pb h D) (hf:Fine D.M) {root:ByteArray} {i:Option ByteArray} {l:List ByteArray} (L:Lies h (D.mount []) b root i l) (hb:b<=255) (hs:Og h (D.mount []) root) (hK:lV W 1):
  Calls Tryz.prog 22 #[.pointer (some ⟨pb,0,none⟩),.slice none 0 0] w fun e w'=>e= .returned (.int .i64 0)/\kW w w' a pb/\
   ∃ x V D' p u,x.a=a/\uY W w' x pb h V D' b p u/\D'.left= -1/\V.root=root/\V.image=i/\V.texts=l:=by
 have hlen:(D.mount []).M.length=D.M.length:=BG (M:=D.M) [];have hO:Opens h (D.mount []):=IY L hs hb (by rw[hlen];exact k.len) (by rw[hlen];exact k.half);refine(Eb k hf _ [] (Ea W) hO hK).mono ?_;intro e w' hp;obtain⟨V0,D',hv,e1,e2,e3,hi,hl,hM⟩:=Zg L ⟨rfl,rfl⟩ hb hs;obtain⟨he,hleft,hq,hout⟩:=hp;rw[hv] at he hq hout;rcases hout with⟨h0,_⟩ | ⟨V1,x',p',u',_,hV1,hxa,wJ,hpl,hj,hvb,hu'⟩
 ·exact absurd rfl h0
 ·cases hV1;have hs:=k.bel.size;have ahh:x'.a=a:=hxa;refine⟨he,hleft,x',V0,D',p',u',ahh,⟨wJ,hi,by rw[hxa];exact hpl,hq.bel,?_,hq.len,hq.half,k.at_⟩,hl,e1,e2,e3⟩;exact⟨by rw[hxa];exact hq.d,by rw[hxa];exact hq.g,by rw[hxa];exact hq.sb,by rw[hxa];exact hq.fb,fU hs hj,fU hs hvb,fun k e=>fU hs (hu' k e)⟩
theorem D7.opens (k:D7 W w a pb h D) (hon:nM D) {root:ByteArray} {i:Option ByteArray} {l:List ByteArray} (L:Lies h D b root i l) (hb:b<=255) (hs:Og h D root) (hK:lV W 1):
  Calls Tryz.prog 29 #[.pointer (some ⟨a.d,0,none⟩)] w fun e w'=>∃ v1 v2,e= .returned (.tuple #[v1,v2])/\D7 W w' a pb h (iR h D).2.2/\dJ w w' a:=by
 refine(acd k.dev hon (IY L hs hb k.len k.half) (hK.below k.bel)).mono ?_;rintro e w' ⟨hl,hd,ho⟩;have hq:=k.sV hl hd (by rw[Za]);rcases ho with⟨_,rfl⟩ | ⟨_,_,_,_,_,_,rfl,_⟩
 ·exact⟨_,_,rfl,hq,hl⟩
 ·exact⟨_,_,rfl,hq,hl⟩
theorem Zi {pv:Value} {P:List Int} (hP:mO w pv P) (hB:Below w.heap.size w w'):mO w' pv P:=by
 obtain⟨A,c,h1,h2,h3,h4⟩:=hP;refine⟨A,c,h1,h2,h3,fun h0=>?_⟩;obtain⟨b,o,h5,h6,h7⟩:=h4 h0;exact⟨b,o,h5,rY h6 hB.size,fun i t ht=>(hB.cell (p:=⟨b,o+i,none⟩) h6).trans (h7 i t ht)⟩
theorem uY.akZ (k:uY W w x pb h V D b p u):Calls Tryz.prog 31 #[.pointer (some ⟨x.a.d,0,none⟩),.int .i64 0] w fun e w'=>e= .returned (.tuple #[.string V.root,.int .i64 0])/\w=w':=by
 have q:=DF k.vis.dev 0;simp only[k.inv.on.down,k.inv.slots,Bool.false_eq_true,if_false] at q;rw[if_pos (show FK [V.root,V.chain,zero32] 0 from ⟨by decide,by simp⟩),if_pos (show FK [V.root,V.chain,zero32] 0 from ⟨by decide,by simp⟩)] at q;exact q
theorem uY.ak0 (k:uY W w x pb h V D b p u):Calls Tryz.prog 31 #[.pointer (some ⟨x.a.d,0,none⟩),.int .i64 2] w fun e w'=>e= .returned (.tuple #[.string zero32,.int .i64 0])/\w=w':=by
 have q:=DF k.vis.dev 2;simp only[k.inv.on.down,k.inv.slots,Bool.false_eq_true,if_false] at q;rw[if_pos (show FK [V.root,V.chain,zero32] 2 from ⟨by decide,by simp⟩),if_pos (show FK [V.root,V.chain,zero32] 2 from ⟨by decide,by simp⟩)] at q;exact q
end
structure RI (W w:World) (pb h:Nat) (V:mJ) (D:Dev) (b:Nat) (x:uX) (p u:Value):Prop where
 st:uY W w x pb h V D b p u
 left:D.left= -1
 root:V.root=bV 1
 img:aci V.image
section
variable {W w w':World} {pb h b:Nat} {V:mJ} {D:Dev} {x:uX} {p u:Value}
theorem RI.up {c:Nat} (k:RI W w pb h V D b x p u) (hbc:b<=c):RI W w pb h V D c x p u:=⟨k.st.up hbc,k.left,k.root,k.img⟩
theorem RI.write {e:Ending} (k:RI W w pb h V D b x p u) (hb:b<254) (o:kE) (hk:o.kind=1\/o.kind=2) (hp:eU w x h p u (jO h V D o) e w'):∃ V' D' x' p' u',RI W w' pb h V' D' (b+1) x' p' u':=by
 obtain⟨V',hV,hi,hr,him⟩:=Vp k.st.inv hb k.left o hk;obtain⟨lo,p',u',kx,_⟩:=k.st.next hp hV hi (ach o);refine⟨V',_,_,p',u',kx,Zk k.left o,hr.trans k.root,?_⟩;rcases him with e | e
 ·rw[e];exact k.img
 ·exact .inr ⟨o.fill,o.size,e⟩
end
end
section
open Go.RowKit Go.Shelf
attribute [local go_sem] Oper.semAt_some
theorem RJ:CB.toList= [116,104,101,32,105,109,97,103,101,32,111,102,32,116,104,101,32,114,101,107,101,121]:=by kernel_rfl
theorem toList_inj {x y:ByteArray} (h:x.toList=y.toList):x=y:=Decidable.byContradiction fun hn=>by
 have:=jh hn;rw[h] at this;simp at this
section
variable {W:World}
theorem Vg (hK:lV W 1) (hK2:lV W 0) (n:Nat) (hn:2<=n/\n<=24) (v:Value) (ops:List lQ) (hv:I7 W v ops) (ho:∀ (i:Nat) (o:lQ),ops[i]? =some o->o.ok) (hN:ops.length<=10)
  (fa fb:Nat) (pv:Value) (P:List Int) (hP:mO W pv P) (FN:P.length<=30):
  Calls Tryz.prog 5 #[.int .i64 n,v,.agg #[.int .u8 (fa:Int),.int .u8 (fb:Int)],pv] W fun e w'=>e= .returned (.bool true)/\Below W.heap.size W w':=by
 obtain⟨A,c,rfl,hA⟩:=hv;have hW1:Hid (Below W.heap.size W (W.alloc (.cells #[.int .u8 (fa:Int),.int .u8 (fb:Int)] 50))):=(bK _ _).alloc (aF _) _;have hBx:Hid (ak (W.alloc (.cells #[.int .u8 (fa:Int),.int .u8 (fb:Int)] 50)) W.heap.size 50 #[.int .u8 (fa:Int),.int .u8 (fb:Int)]):=ak.new _ _ _;have HP:=zh (Zi hP hW1.out);obtain⟨A3,c3,rfl,hP'⟩:=hP;have HA:=zh hA;have HO:=zh ho;have HN:=zh hN;have HK:=zh (hK.below hW1.out);have HK2:=zh (hK2.below hW1.out);have HS:=zh (Rl _ (hK.below hW1.out));have HBg:Hid (∀ wx,Below (W.alloc (.cells #[.int .u8 (fa:Int),.int .u8 (fb:Int)] 50)).heap.size (W.alloc (.cells #[.int .u8 (fa:Int),.int .u8 (fb:Int)] 50)) wx->Calls Tryz.prog 13 #[.int .i64 n,.int .u8 1] wx fun e w'=>∃ x pb p u,e= .returned (.tuple #[.pointer (some ⟨pb,0,none⟩),.bool true])/\ab9 (W.alloc (.cells #[.int .u8 (fa:Int),.int .u8 (fb:Int)] 50)) wx w' (n/2) (J9 n 1) (Oe n 1) x pb p u):=fun wx hB=>Rt hB n 1 hn (by decide)
 have d2:decide (24<n)=false:=dF (by omega);have d2':decide (24<(n:Int))=false:=dF (by omega);have d3:decide (10<ops.length)=false:=dF (by omega);have d3':decide (10<(ops.length:Int))=false:=dF (by omega);have d4:decide (30<P.length)=false:=dF (by omega);have d4':decide (30<(P.length:Int))=false:=dF (by omega);have HL0:Hid ((Oe n 1).left= -1):=rfl;have HV0:Hid ((J9 n 1).root=bV 1/\(J9 n 1).image=none):=⟨rfl,rfl⟩;generalize J9 n 1=V0 at HBg HV0;generalize Oe n 1=D0 at HBg HL0;obtain⟨h,hh⟩:∃ h,n/2=h:=⟨_,rfl⟩;rw[hh] at HBg;clear hA ho hn hN hh hK hK2 hP' FN;go_enter Tryz.func5,Tryz.ntmps5;go_wp2_with fail;generalize W.alloc (.cells #[.int .u8 (fa:Int),.int .u8 (fb:Int)] 50)=W1 at *;obtain⟨kb,hkb⟩:∃ kb,W.heap.size=kb:=⟨_,rfl⟩;try rw[hkb]
 rw[hkb] at hBx;have HKb:=zh hkb;clear hkb;refine HS.out.mono ?_;rintro e w1 ⟨rfl,hB1⟩;have HB1:=zh hB1;have HFc:Hid (∀ wx,Below W1.heap.size W1 wx->wx.cell? ⟨kb,0,none⟩=some (.int .u8 (fa:Int))/\wx.cell? ⟨kb,1,none⟩=some (.int .u8 (fb:Int))):=fun wx hB=>⟨(hBx.out.below hB hBx.out.lt).cell 0,(hBx.out.below hB hBx.out.lt).cell 1⟩
 have Zn:Hid (∀ wx,Below W1.heap.size W1 wx->Below W.heap.size W wx):=fun wx hB=>hW1.out.trans (hB.mono hW1.out.size)
 clear hB1 hBx HS;go_wp2_with fail;refine(HBg.out _ HB1.out).mono ?_;rintro e w2 ⟨x,pb,p,u,rfl,hG⟩;have HR0:Hid (RI W1 w2 pb h V0 D0 1 x p u):=⟨hG.st,HL0.out,HV0.out.1,.inl HV0.out.2⟩;clear hG HB1 HBg HL0 HV0;go_wp2_with fail;go_loopw [12] (fun i wr=>∃ (k:Nat) (V:mJ) (D:Dev) (x:uX) (p u:Value),k<=ops.length/\i= .int .i64 k/\Hid (RI W1 wr pb h V D (k+1) x p u)) (fun i _=>ops.length-(intOf i).toNat)
 case atStart=>exact⟨0,V0,D0,x,p,u,iT _,rfl,HR0⟩
 case round=>
  clear HR0;obtain⟨k,V,D,x,p,u,hk,rfl,H⟩:=hrel;have hwk:wrap64 ((k:Int)+1)=(k:Int)+1:=by have:=HN.out;unfold wrap64;omega
  by_cases hkl:k<ops.length
  ·have QK:=zh hkl;obtain⟨o,hk0⟩:∃ o,ops[k]? =some o:=⟨_,jB hkl⟩;obtain⟨B,off,rfl,hbl,hat⟩:=HA.out (by omega);obtain⟨A1,n1,cc,g0,g1,g2,g3,g4,hok⟩:=(hat k o hk0).below hbl (Zn.out _ H.out.st.bel);have hoo:=zh (HO.out k o hk0);have hd1:decide (k<ops.length)=true:=pW hkl;have aev:Hid (k+1<200):=by have:=HN.out;unfold Hid;omega
   obtain⟨R,hR⟩:∃ R,jO h V D o.v=R:=⟨_,rfl⟩;have HRe:=zh hR;clear hat hok hkl hk0 hR;by_cases h1:o.kind=1
   ·have b1:(o.kind==1)=true:=beq_iff_eq.2 h1;have Hkd:Hid ((o.kind=1\/o.kind=2\/o.kind=3)/\(o.v.kind=1\/o.v.kind=2)):=⟨.inl h1,.inl h1⟩;clear h1;have HPl:=zh (H.out.st.play (show k+1<255 by have:=aev.out;omega) HK.out o hoo.out.1 Hkd.out.1 A1 n1 cc HRe.out);go_wp2_with fail;refine HPl.out.mono ?_;intro e w3 hP;have he:=hP.1;rw[<-HRe.out] at hP;obtain⟨V',D',x',p',u',hX⟩:=H.out.write (show k+1<254 by have:=aev.out;omega) o.v Hkd.out.2 hP;have HX:=zh hX;subst he;clear hP hX HPl H g0 g1 g2 g3 g4;go_wp2_with fail;go_roundw
    case rel=>exact⟨k+1,V',D',x',p',u',QK.out,by go_num,HX⟩
    case measure=>rw[hwk];exact vM QK.out
   ·have b1:(o.kind==1)=false:=FI.2 h1;by_cases h2:o.kind=2
    ·have b2:(o.kind==2)=true:=beq_iff_eq.2 h2;have Hkd:Hid ((o.kind=1\/o.kind=2\/o.kind=3)/\(o.v.kind=1\/o.v.kind=2)):=⟨.inr (.inl h2),.inr h2⟩;clear h1 h2;have HPl:=zh (H.out.st.play (show k+1<255 by have:=aev.out;omega) HK.out o hoo.out.1 Hkd.out.1 A1 n1 cc HRe.out);go_wp2_with fail;refine HPl.out.mono ?_;intro e w3 hP;have he:=hP.1;rw[<-HRe.out] at hP;obtain⟨V',D',x',p',u',hX⟩:=H.out.write (show k+1<254 by have:=aev.out;omega) o.v Hkd.out.2 hP;have HX:=zh hX;subst he;clear hP hX HPl H g0 g1 g2 g3 g4;go_wp2_with fail;go_roundw
     case rel=>exact⟨k+1,V',D',x',p',u',QK.out,by go_num,HX⟩
     case measure=>rw[hwk];exact vM QK.out
    ·have b2:(o.kind==2)=false:=FI.2 h2;clear h1 h2;go_wp2_with fail;go_roundw
     case rel=>exact⟨k+1,V,D,x,p,u,QK.out,by go_num,H.out.up (wW _)⟩
     case measure=>rw[hwk];exact vM QK.out
  ·have hd1:decide (k<ops.length)=false:=dF hkl;have aev:Hid (k+1<200):=by have:=HN.out;unfold Hid;omega
   have HRd:=zh (Me H.out.st);clear hkl hk hwk;go_wp2_with fail;refine HRd.out.mono ?_;rintro e w2 ⟨v2,rfl,⟨hT2,hs2⟩,hB2⟩;obtain⟨Ah,ch,rfl,_⟩:=hT2.parts;obtain⟨z0,hz0⟩:∃ z,V.image.getD ⟨#[]⟩=z:=⟨_,rfl⟩;obtain⟨b0,hb0⟩:∃ z,V.image.isSome=z:=⟨_,rfl⟩;unfold rP;rw[hz0,hb0];have hA2:Below w2.heap.size w2 (w2.alloc (.cells #[.string z0,.bool b0,.slice Ah V.texts.length ch] 52)):=(bK _ _).alloc (aF _) _;have HP3:=zh ((H.out.st.on hB2).on hA2);have HH3:Hid (eF (w2.alloc (.cells #[.string z0,.bool b0,.slice Ah V.texts.length ch] 52)) w2.heap.size V.image (.slice Ah V.texts.length ch) V.texts x.a.sb):=
    ⟨by rw[hz0,hb0];exact ak.new _ _ _,ownsRow_below hT2 hA2 (aF _),fun k e=>(hs2 k e).1⟩
   have HSp:Hid (∀ k,(Value.slice Ah V.texts.length ch).ownBlock=some k->u.ownBlock≠some k):=fun k e=>(hs2 k e).2
   have HZ:=zh (And.intro hz0 hb0);have HRi:=zh (And.intro H.out.root H.out.img);have aew:Hid (V.texts.length<=12):=fU H.out.st.inv.RD H.out.st.hh;clear hz0 hb0 hT2 hs2 hB2 hA2 HRd H;go_upto_region 13 with fail;generalize w2.alloc (.cells #[.string z0,.bool b0,.slice Ah V.texts.length ch] 52)=w3 at *;generalize w2.heap.size=hb at *;have HTr:Hid (∀ wx (n:Int),Below w3.heap.size w3 wx->n<=9223372036854775807->Calls Tryz.prog 24 #[.pointer (some ⟨x.a.d,0,none⟩),.int .i64 n] wx fun e w'=>e= .returned (.tuple #[])/\uY W1 w' x pb h V (D.trip n) (k+1) p u/\dJ wx w' x.a):=fun wx n hB hn=>(HP3.out.on hB).trip n hn
   have qw:Hid (Below w3.heap.size w3 w3.drew):=(bK _ _).drew;have Hfm:Hid ((IntKind.i64.wrap (fa:Int)).tmod 24<=9223372036854775807):=Int.le_of_lt (Int.lt_trans (Int.tmod_lt_of_pos _ (by decide)) (by decide));refine yD (S:=(fun wx=>wx.cell? ⟨pb,0,none⟩=some (.pointer (some ⟨x.a.d,0,none⟩))/\wx.cell? ⟨kb,0,none⟩=some (.int .u8 (fa:Int)))) (by kernel_rfl) ⟨(HP3.out.on qw.out).pl.cell 0,(HFc.out _ (HP3.out.on qw.out).bel).1⟩ (fun zs=>?_);refine' tk 0 rfl zs ?_;refine' tk 1 rfl zs ?_;refine' tk 2 rfl zs ?_;refine' tk 3 rfl zs ?_;refine' tk 4 rfl zs ?_;refine' tk 5 rfl zs ?_;refine' tk 6 rfl zs ?_;refine' tk 7 rfl zs ?_;refine td 8 rfl (fun K hK=>?_);go_simp;go_at_call 24;refine(HTr.out _ _ qw.out Hfm.out).mono ?_;rintro e w4 ⟨rfl,hp4,hl4⟩;have Zt:=zh hp4;have WO:Hid (eF w4 hb V.image (.slice Ah V.texts.length ch) V.texts x.a.sb):=eF.sV (HP3.out.vis.dev.below qw.out) (HH3.out.below qw.out) hl4;clear hp4 hl4;go_wp2_with fail;refine hK.out _ _ ⟨Zt.out.pl.cell 0,(HFc.out _ Zt.out.bel).1⟩ (fun zs=>?_);refine wZ (by kernel_rfl) ?_ _;clear hK K HTr qw Hfm HP3 HH3;go_upto_region 14 with fail;generalize (IntKind.i64.wrap (fa:Int)).tmod 24=t1 at *;obtain⟨Dt,hDt⟩:∃ Dt,D.trip t1=Dt:=⟨_,rfl⟩;rw[hDt] at Zt;clear hDt;obtain⟨r77,h77⟩:∃ r,bV 77=r:=⟨_,rfl⟩;have acn:Hid (∀ wx,Calls Tryz.prog 26 #[.int .u8 77] wx fun e w'=>e= .returned (.string r77)/\Below wx.heap.size wx w'):=fun wx=>by rw[<-h77];exact zA wx 77 (by decide)
   obtain⟨R,hR⟩:∃ R,eY h V Dt (bV 77) CB=R:=⟨_,rfl⟩;have HRk:Hid (∀ wx,Below w4.heap.size w4 wx->Calls Tryz.prog 25 #[.pointer (some ⟨x.vb,0,none⟩),.string r77,.string ⟨#[116,104,101,32,105,109,97,103,101,32,111,102,32,116,104,101,32,114,101,107,101,121]⟩] wx (eU wx x h p u R)):=fun wx hB=>by
    rw[<-hR,<-h77];exact(Zt.out.on hB).afN (by have:=aev.out;omega) HK.out (bV 77) CB ⟨ny _,nC _⟩ (by decide)
   have HRe:=zh hR;have H77:=zh h77;have qw:Hid (Below w4.heap.size w4 w4.drew):=(bK _ _).drew;clear hR h77;refine yD (S:=(fun wx=>wx.cell? ⟨pb,1,none⟩=some (.pointer (some ⟨x.vb,0,none⟩)))) (by kernel_rfl) ((Zt.out.on qw.out).pl.cell 1) (fun zs=>?_);refine' tk 0 rfl zs ?_;refine' tk 1 rfl zs ?_;refine' tk 2 rfl zs ?_;refine' tk 3 rfl zs ?_;refine td 4 rfl (fun K hK=>?_);go_simp;go_at_call 26;refine(acn.out _).mono ?_;rintro e w5 ⟨rfl,oZ⟩;have uh:=zh (qw.out.trans (oZ.mono qw.out.size));clear oZ;go_wp2_with fail;refine hK.out _ _ ((Zt.out.on uh.out).pl.cell 1) (fun zs=>?_);clear hK K;try simp only[sA,gA]
   refine td 5 rfl (fun K hK=>?_);go_simp;go_at_call 25;refine(HRk.out _ uh.out).mono ?_;intro e w6 hP6;have he:=hP6.1;have HP5:=zh (Zt.out.on uh.out);have HQ6:Hid (D7 W1 w6 x.a pb h R.2.2):=HP5.out.fell hP6 (by rw[<-HRe.out];exact MQ _ _);have HH6:Hid (eF w6 hb V.image (.slice Ah V.texts.length ch) V.texts x.a.sb):=eF.play HP5.out.vis (WO.out.below uh.out) hP6.2.1 HSp.out;have y6:=(HP5.out.vis.box hP6.2.1 HP5.out.pl (by decide)).cell 1;have HFi:Hid (Fine R.2.2.M):=by unfold Hid;rw[<-HRe.out];exact Vt HP5.out.inv.CJ.inv.fine (aeA HP5.out.inv.CJ.inv).2 _ _
   have OY:=Zd HP5.out.inv (show k+1<255 by have:=aev.out;omega) (bV 77) CB ⟨ny _,nC _⟩ (by decide) P;rw[HRe.out] at OY;obtain⟨root,i1,l1,hL1,hC1⟩:=OY;have HL1:=zh hL1;have HC1:=zh hC1;subst he;clear hP6 hL1 hC1 HP5 Zt WO uh HRk HSp HRe;go_wp2_with fail;refine hK.out _ _ y6 (fun zs=>?_);refine wZ (by kernel_rfl) ?_ _;clear hK K zs y6 qw;obtain⟨vp6,Jr⟩:=HQ6.out.pl;have y0:=Jr.cell 0;have HMt:=zh (IZ HQ6.out HFi.out _ P HP.out);clear Jr;go_wp2_with fail;refine HMt.out.mono ?_;rintro e w7 ⟨rfl,hq7,Z9⟩;have HQ7:=zh hq7;have HH7:=zh (eF.sV HQ6.out.dev HH6.out Z9);have HDb:=zh (Vr HQ7.out HL1.out rfl (show k+1+1<=255 by have:=aev.out;omega) HK2.out);clear hq7 Z9 HQ6 HH6 HMt y0;go_wp2_with fail;refine HDb.out.mono ?_;rintro e w8 ⟨T,rfl,hT,Dw⟩;have HQ8:=zh (HQ7.out.on Dw);have HH8:=zh (HH7.out.below Dw);have HTs:=zh hT;clear Dw hT HQ7 HH7 HDb;cases T with
   | true=>
    go_wp2_with fail;go_ret;exact⟨rfl,Zn.out _ HQ8.out.bel⟩
   | false=>
    have HSu:=zh (HTs.out rfl);go_upto_region 18 with fail;have HTr:Hid (∀ wx (n:Int),Below w8.heap.size w8 wx->Calls Tryz.prog 24 #[.pointer (some ⟨x.a.d,0,none⟩),.int .i64 n] wx fun e w'=>e= .returned (.tuple #[])/\D7 W1 w' x.a pb h ((R.2.2.mount P).trip n)/\dJ wx w' x.a):=fun wx n hB=>(HQ8.out.on hB).trip n
    have qw:Hid (Below w8.heap.size w8 w8.drew):=(bK _ _).drew;have Hfm:Hid ((IntKind.i64.wrap (fb:Int)).tmod 5<=9223372036854775807):=Int.le_of_lt (Int.lt_trans (Int.tmod_lt_of_pos _ (by decide)) (by decide));have HC0:Hid (∀ wx,D7 W1 wx x.a pb h ((R.2.2.mount P))->wx.cell? ⟨pb,0,none⟩=some (.pointer (some ⟨x.a.d,0,none⟩))):=fun wx q=>by
     obtain⟨_,hp⟩:=q.pl;exact hp.cell 0
    refine yD (S:=(fun wx=>wx.cell? ⟨pb,0,none⟩=some (.pointer (some ⟨x.a.d,0,none⟩))/\wx.cell? ⟨kb,1,none⟩=some (.int .u8 (fb:Int)))) (by kernel_rfl) ⟨HC0.out _ (HQ8.out.on qw.out),(HFc.out _ (HQ8.out.on qw.out).bel).2⟩ (fun zs=>?_);refine' tk 0 rfl zs ?_;refine' tk 1 rfl zs ?_;refine' tk 2 rfl zs ?_;refine' tk 3 rfl zs ?_;refine' tk 4 rfl zs ?_;refine' tk 5 rfl zs ?_;refine' tk 6 rfl zs ?_;refine' tk 7 rfl zs ?_;refine td 8 rfl (fun K hK=>?_);go_simp;go_at_call 24;refine(HTr.out _ _ qw.out).mono ?_;rintro e w9 ⟨rfl,hq9,hl9⟩;have HQ9:=zh hq9;have HH9:Hid (eF w9 hb V.image (.slice Ah V.texts.length ch) V.texts x.a.sb):=eF.sV (HQ8.out.dev.below qw.out) (HH8.out.below qw.out) hl9;obtain⟨vp9,hp9⟩:=hq9.pl;have y0:=hp9.cell 0;clear hq9 hl9 hp9;go_wp2_with fail;refine hK.out _ _ ⟨y0,(HFc.out _ HQ9.out.bel).2⟩ (fun zs=>?_);refine wZ (by kernel_rfl) ?_ _;clear hK K zs HTr qw HQ8 HH8 HC0;generalize (IntKind.i64.wrap (fb:Int)).tmod 5=t2 at *;obtain⟨D9,hD9⟩:∃ D9,(R.2.2.mount P).trip t2=D9:=⟨_,rfl⟩;have HL9:Hid (Lies h D9 (k+1+1) root i1 l1):=by unfold Hid;rw[<-hD9];exact HL1.out.same rfl rfl
    have HS9:Hid (Og h D9 root):=by unfold Hid;rw[<-hD9];exact HSu.out
    have HD9:Hid (nM D9):=by
     unfold Hid;rw[<-hD9];exact⟨rfl,by have:=Hfm.out;show -1<=max t2 (-1)/\max t2 (-1)<=9223372036854775807;omega⟩
    rw[hD9] at HQ9;have Hb2:Hid (k+1+1<=255):=by have:=aev.out;unfold Hid;omega
    have HLT:=zh (Zf HL9.out HD9.out Hb2.out HS9.out []);have HF9:Hid (Fine (iR h D9).2.2.M):=by
     unfold Hid;rw[Za];obtain⟨J,_,_,_,_,hJ,_⟩:=HL9.out.ok;exact hJ.inv.fine
    have HOp:=zh (HQ9.out.opens HD9.out HL9.out Hb2.out HS9.out HK.out);generalize (iR h D9).2.2=E at HLT HF9 HOp;clear hD9 HL1 HSu HTs Hfm;go_wp2_with fail;refine HOp.out.mono ?_;rintro e w10 ⟨v1,v2,rfl,hq10,ak7⟩;have ala:=zh hq10;have alc:=zh (eF.sV HQ9.out.dev HH9.out ak7);have HTr:=zh (hq10.trip (-1));obtain⟨arK,ali⟩:=hq10.pl;have y0:=ali.cell 0;clear hq10 ak7 ali HQ9 HH9 HOp;go_wp2_with fail;refine HTr.out.mono ?_;rintro e ZU ⟨rfl,hq11,alo⟩;have ahI:=zh hq11;have alu:=zh (eF.sV ala.out.dev alc.out alo);have HOp:=zh (Zh hq11 HF9.out (i:=i1) (l:=l1) (root:=root) HLT.out.1 Hb2.out HLT.out.2 HK.out);clear hq11 alo ala alc HTr y0;go_wp2_with fail;refine HOp.out.mono ?_;rintro e w12 ⟨rfl,hl12,x',V',D'',p',u',hxa,aey,hleft,rfl,rfl,rfl⟩;obtain⟨arL,alz⟩:=ahI.out.pl;have alB:Hid (eF w12 hb V.image (.slice Ah V.texts.length ch) V.texts x.a.sb):=eF.afR ahI.out.dev alz alu.out hl12;have an3:=zh aey;have HXa:=zh hxa;have y1:=aey.pl.cell 1;have HRd:=zh (Me aey);clear hl12 aey hleft hxa alz ahI alu HOp HLT HF9 HL9 HS9 HD9;go_wp2_with fail;refine HRd.out.mono ?_;rintro e w13 ⟨v9,rfl,⟨hT9,hs9⟩,oC⟩;obtain⟨A9,c9,rfl,_⟩:=hT9.parts;obtain⟨z9,hz9⟩:∃ z,V'.image.getD ⟨#[]⟩=z:=⟨_,rfl⟩;obtain⟨b9,hb9⟩:∃ z,V'.image.isSome=z:=⟨_,rfl⟩;have hA:Below w13.heap.size w13 (w13.alloc (.cells #[.string z9,.bool b9,.slice A9 V'.texts.length c9] 52)):=(bK _ _).alloc (aF _) _;have alD:=zh ((an3.out.on oC).on hA);have an4:=zh ((alB.out.below oC).below hA);have ahQ:Hid (eF (w13.alloc (.cells #[.string z9,.bool b9,.slice A9 V'.texts.length c9] 52)) w13.heap.size V'.image (.slice A9 V'.texts.length c9) V'.texts x'.a.sb):=
     ⟨by rw[hz9,hb9];exact ak.new _ _ _,ownsRow_below hT9 hA (aF _),fun k e=>(hs9 k e).1⟩
    unfold rP;rw[hz9,hb9];have S9:=zh (And.intro hz9 hb9);have HT9:Hid (V'.texts.length<=12):=fU an3.out.inv.RD an3.out.hh;clear hz9 hb9 hT9 hs9 oC hA an3 alB HRd y1;go_upto_region 25 with fail;generalize w13.alloc (.cells #[.string z9,.bool b9,.slice A9 V'.texts.length c9] 52)=w14 at *;generalize w13.heap.size=nw at *;obtain⟨kp,hkp⟩:∃ d,(decide (V'.texts=V.texts) && (decide (V'.image.getD ⟨#[]⟩=V.image.getD ⟨#[]⟩) && decide (V'.image.isSome=V.image.isSome)))=d:=⟨_,rfl⟩;have HEk:Hid (Calls Tryz.prog 30 #[.agg #[.string z9,.bool b9,.slice A9 V'.texts.length c9],.agg #[.string z0,.bool b0,.slice Ah V.texts.length ch]] w14 fun e w'=>e= .returned (.bool kp)/\Below w14.heap.size w14 w'):=by
     have q:=Mc w14 V'.image V.image _ _ V'.texts V.texts (kL.row ahQ.out.row) (kL.row an4.out.row) (by have:=HT9.out;omega) (by have:=aew.out;omega);rw[hkp] at q;unfold rP at q;rw[S9.out.1,S9.out.2,HZ.out.1,HZ.out.2] at q;exact q
    have HCs:Hid ((V'.root=bV 1/\kp=true/\(b9=false\/(b9=true/\z9≠CB)))\/(V'.root=r77/\b9=true/\z9=CB/\V'.texts.length=0)):=by
     rcases HC1.out with⟨e1,e2,e3⟩ | ⟨e1,e2,e3⟩
     ·refine .inl ⟨e1.trans HRi.out.1,?_,?_⟩
      ·rw[<-hkp,e2,e3];simp
      ·have hne:=HRi.out.2.ne;rw[<-e2] at hne;rw[<-S9.out.1,<-S9.out.2];cases hq:V'.image with
       | none=>exact .inl rfl
       | some t=>exact .inr ⟨rfl,fun e=>hne (by rw[hq];exact congrArg some e)⟩
     ·refine .inr ⟨e1.trans H77.out,?_,?_,by rw[e3];rfl⟩
      ·rw[<-S9.out.2,e2];rfl
      ·rw[<-S9.out.1,e2];rfl
    have HBh:Hid (ak w14 hb 52 #[.string z0,.bool b0,.slice Ah V.texts.length ch]):=by have:=an4.out.box;rw[HZ.out.1,HZ.out.2] at this;exact this
    have Tc:Hid (ak w14 nw 52 #[.string z9,.bool b9,.slice A9 V'.texts.length c9]):=by have:=ahQ.out.box;rw[S9.out.1,S9.out.2] at this;exact this
    have m0:=Tc.out.cell 0;have m1:=Tc.out.cell 1;have m2:=Tc.out.cell 2;have n0:=HBh.out.cell 0;have n1:=HBh.out.cell 1;have n2:=HBh.out.cell 2;clear hkp HC1 aew HT9 HZ S9 HRi an4 ahQ;go_wp2_with fail;refine HEk.out.mono ?_;rintro e w15 ⟨rfl,ac4⟩;have m0:=(Tc.out.below ac4 Tc.out.lt).cell 0;have m1:=(Tc.out.below ac4 Tc.out.lt).cell 1;have m2:=(Tc.out.below ac4 Tc.out.lt).cell 2;have adf:=zh (alD.out.on ac4);have y0:=adf.out.pl.cell 0;obtain⟨Z,hZ⟩:∃ Z,zero32=Z:=⟨_,rfl⟩;obtain⟨rt,hrt⟩:∃ r,V'.root=r:=⟨_,rfl⟩;obtain⟨r1,hr1⟩:∃ r,bV 1=r:=⟨_,rfl⟩;have adi:=zh adf.out.akZ;have adk:=zh adf.out.ak0;rw[hrt] at adi HCs;rw[hZ] at adk;rw[hr1] at HCs;have HEm:Hid (∀ wx,Calls Tryz.prog 32 #[] wx fun e w'=>e= .returned (.string Z)/\Below wx.heap.size wx w'):=fun wx=>by rw[<-hZ];exact UQ wx
    have HR1:Hid (∀ wx,Calls Tryz.prog 26 #[.int .u8 1] wx fun e w'=>e= .returned (.string r1)/\Below wx.heap.size wx w'):=fun wx=>by rw[<-hr1];exact zA wx 1 (by decide)
    have hzz:(Z.toList==Z.toList)=true:=kG _;have Hne:Hid (r1≠r77):=by unfold Hid;rw[<-hr1,<-H77.out];exact acg
    have Hbe:=zh adf.out.bel;clear ac4 hZ hrt hr1 n0 n1 n2 alD adf HBh Tc HEk H77;rcases HCs.out with⟨rfl,rfl,rfl | ⟨rfl,hzn⟩⟩ | ⟨rfl,rfl,hzi,hl0⟩
    ·have k1:(rt.toList==r77.toList)=false:=jh Hne.out;have k2:(rt.toList==rt.toList)=true:=kG _;go_wp2_with fail;refine adi.out.mono ?_;rintro e w16 ⟨rfl,rfl⟩;go_wp2_with fail;refine adk.out.mono ?_;rintro e w16 ⟨rfl,rfl⟩;go_wp2_with fail;refine(HEm.out _).mono ?_;rintro e w17 ⟨rfl,CQ⟩;have Oh:=zh (Hbe.out.trans (CQ.mono Hbe.out.size));clear CQ;go_wp2_with fail;refine(acn.out _).mono ?_;rintro e w18 ⟨rfl,alb⟩;have Ol:=zh (Oh.out.trans (alb.mono Oh.out.size));clear alb;go_wp2_with fail;refine(HR1.out _).mono ?_;rintro e w19 ⟨rfl,ald⟩;have ahS:=zh (Ol.out.trans (ald.mono Ol.out.size));clear ald;go_wp2_with fail;go_ret;exact⟨rfl,Zn.out _ ahS.out⟩
    ·have k1:(rt.toList==r77.toList)=false:=jh Hne.out;have k2:(rt.toList==rt.toList)=true:=kG _;have k3:¬ z9.toList= [116,104,101,32,105,109,97,103,101,32,111,102,32,116,104,101,32,114,101,107,101,121]:=fun e=>hzn (by have:=e.trans RJ.symm;exact toList_inj this)
     have k4:(z9.toList== [116,104,101,32,105,109,97,103,101,32,111,102,32,116,104,101,32,114,101,107,101,121])=false:=FI.2 k3;clear hzn;go_wp2_with fail;refine adi.out.mono ?_;rintro e w16 ⟨rfl,rfl⟩;go_wp2_with fail;refine adk.out.mono ?_;rintro e w16 ⟨rfl,rfl⟩;go_wp2_with fail;refine(HEm.out _).mono ?_;rintro e w17 ⟨rfl,CQ⟩;have Oh:=zh (Hbe.out.trans (CQ.mono Hbe.out.size));clear CQ;go_wp2_with fail;refine(acn.out _).mono ?_;rintro e w18 ⟨rfl,alb⟩;have Ol:=zh (Oh.out.trans (alb.mono Oh.out.size));clear alb;go_wp2_with fail;refine(HR1.out _).mono ?_;rintro e w19 ⟨rfl,ald⟩;have ahS:=zh (Ol.out.trans (ald.mono Ol.out.size));clear ald;go_wp2_with fail;go_ret;exact⟨rfl,Zn.out _ ahS.out⟩
    ·have k2:(rt.toList==rt.toList)=true:=kG _;have k3:z9.toList= [116,104,101,32,105,109,97,103,101,32,111,102,32,116,104,101,32,114,101,107,101,121]:=by rw[hzi];exact RJ
     have k6:(z9.toList== [116,104,101,32,105,109,97,103,101,32,111,102,32,116,104,101,32,114,101,107,101,121])=true:=beq_iff_eq.2 k3;have k4:(V'.texts.length==0)=true:=by rw[hl0];rfl
     have k5:((V'.texts.length:Int)==0)=true:=by rw[hl0];rfl
     clear hzi hl0;cases kp with
     | true=>
      go_wp2_with fail;refine adi.out.mono ?_;rintro e w16 ⟨rfl,rfl⟩;go_wp2_with fail;refine adk.out.mono ?_;rintro e w16 ⟨rfl,rfl⟩;go_wp2_with fail;refine(HEm.out _).mono ?_;rintro e w17 ⟨rfl,CQ⟩;have Oh:=zh (Hbe.out.trans (CQ.mono Hbe.out.size));clear CQ;go_wp2_with fail;refine(acn.out _).mono ?_;rintro e w18 ⟨rfl,alb⟩;have Ol:=zh (Oh.out.trans (alb.mono Oh.out.size));clear alb;go_wp2_with fail;go_ret;exact⟨rfl,Zn.out _ Ol.out⟩
     | false=>
      go_wp2_with fail;refine adi.out.mono ?_;rintro e w16 ⟨rfl,rfl⟩;go_wp2_with fail;refine adk.out.mono ?_;rintro e w16 ⟨rfl,rfl⟩;go_wp2_with fail;refine(HEm.out _).mono ?_;rintro e w17 ⟨rfl,CQ⟩;have Oh:=zh (Hbe.out.trans (CQ.mono Hbe.out.size));clear CQ;go_wp2_with fail;refine(acn.out _).mono ?_;rintro e w18 ⟨rfl,alb⟩;have Ol:=zh (Oh.out.trans (alb.mono Oh.out.size));clear alb;go_wp2_with fail;go_ret;exact⟨rfl,Zn.out _ Ol.out⟩
theorem Zj (hK:lV W 1) (x:Int) (A:Option Addr) (N c:Nat) (y z:Int) (A3:Option Addr) (n3 c3:Nat) (h:¬ (2<=x/\x<=24/\N<=10/\n3<=30)):
  Calls Tryz.prog 5 #[.int .i64 x,.slice A N c,.agg #[.int .u8 y,.int .u8 z],.slice A3 n3 c3] W fun e w'=>e= .returned (.bool true)/\Below W.heap.size W w':=by
 have hW1:Hid (Below W.heap.size W (W.alloc (.cells #[.int .u8 y,.int .u8 z] 50))):=(bK _ _).alloc (aF _) _;have HS:=zh (Rl _ (hK.below hW1.out));by_cases h2:24<x
 ·have d2:decide (24<x)=true:=pW h2;clear h h2 hK;go_enter Tryz.func5,Tryz.ntmps5;go_wp2_with (first | (go_at_call 8;refine HS.out.mono ?_;rintro e w1 ⟨rfl,hB⟩;have HB1:=zh (hW1.out.trans (hB.mono hW1.out.size));clear hB));go_ret;exact⟨rfl,HB1.out⟩
 ·have d2:decide (24<x)=false:=dF h2;by_cases h3:10<N
  ·have d3:decide (10<N)=true:=pW h3;have d3':decide (10<(N:Int))=true:=pW (by omega);clear h h2 h3 hK;go_enter Tryz.func5,Tryz.ntmps5;go_wp2_with (first | (go_at_call 8;refine HS.out.mono ?_;rintro e w1 ⟨rfl,hB⟩;have HB1:=zh (hW1.out.trans (hB.mono hW1.out.size));clear hB));go_ret;exact⟨rfl,HB1.out⟩
  ·have d3:decide (10<N)=false:=dF h3;have d3':decide (10<(N:Int))=false:=dF (by omega);by_cases h4:30<n3
   ·have d4:decide (30<n3)=true:=pW h4;have d4':decide (30<(n3:Int))=true:=pW (by omega);clear h h2 h3 h4 hK;go_enter Tryz.func5,Tryz.ntmps5;go_wp2_with (first | (go_at_call 8;refine HS.out.mono ?_;rintro e w1 ⟨rfl,hB⟩;have HB1:=zh (hW1.out.trans (hB.mono hW1.out.size));clear hB));go_ret;exact⟨rfl,HB1.out⟩
   ·have d4:decide (30<n3)=false:=dF h4;have d4':decide (30<(n3:Int))=false:=dF (by omega);have HB:Hid (∀ wx,Calls Tryz.prog 13 #[.int .i64 x,.int .u8 1] wx fun e w'=>e= .returned (.tuple #[.pointer none,.bool false])/\Below wx.heap.size wx w'):=fun wx=>Y7 x 1 (by decide) (by omega)
    clear h h2 h3 h4 hK;go_enter Tryz.func5,Tryz.ntmps5;go_wp2_with (first
     | (go_at_call 8;refine HS.out.mono ?_;rintro e w1 ⟨rfl,hB⟩;have HB1:=zh (hW1.out.trans (hB.mono hW1.out.size));clear hB)
     | (go_at_call 13;refine(HB.out _).mono ?_;rintro e w2 ⟨rfl,hB⟩;have HB2:=zh (HB1.out.trans (hB.mono HB1.out.size));clear hB))
    go_ret;exact⟨rfl,HB2.out⟩
theorem Vo (hK:lV W 1/\lV W 0) (x:Int) (v:Value) (ops:List lQ) (hv:I7 W v ops) (ho:∀ (i:Nat) (o:lQ),ops[i]? =some o->o.ok)
  (fa fb:Nat) (pv:Value) (P:List Int) (hP:mO W pv P):
  Calls Tryz.prog 5 #[.int .i64 x,v,.agg #[.int .u8 (fa:Int),.int .u8 (fb:Int)],pv] W fun e w'=>e= .returned (.bool true)/\Below W.heap.size W w':=by
 by_cases h:2<=x/\x<=24/\ops.length<=10/\P.length<=30
 ·obtain⟨n,rfl⟩:=Int.eq_ofNat_of_zero_le (show 0<=x by omega);exact Vg hK.1 hK.2 n (by omega) v ops hv ho h.2.2.1 fa fb pv P hP h.2.2.2
 ·obtain⟨A,c,rfl,_⟩:=hv;obtain⟨A3,c3,rfl,_⟩:=hP;exact Zj hK.1 x A ops.length c fa fb A3 P.length c3 h
end
end
open Go.ChangeShapes Go.WideShapes Go.ChangeAt Go.RowKit Go.Deep
section
variable {H:Type} {enc:TypeId×Value->H} {W:World} {v:Value} {d:DataW H} {ps:List MemPlace} {base:Nat}
theorem Vh (hv:Value.okWide Tryz.prog W .any base 30 v) (h:DataW.Trod enc Tryz.prog W 0 (fun _=>true) true 30 v d ps):∃ P:List Int,mO W v P:=TD hv h
theorem adl:Tryz.prog.cellsOf 50=2:=by kernel_rfl
theorem ab1 (hv:Value.okWide Tryz.prog W .any base 50 v) (h:DataW.Trod enc Tryz.prog W 0 (fun _=>true) true 50 v d ps):∃ a b:Nat,v= .agg #[.int .u8 (a:Int),.int .u8 (b:Int)]/\a<256/\b<256:=by
 obtain⟨c0,c1,rfl⟩:∃ c0 c1,v= .agg #[c0,c1]:=by
  simp only[Value.okWide,Tryz.underlying50] at hv;obtain⟨cs,h1,h2,_⟩:=hv;rw[adl] at h2;obtain⟨l⟩:=cs
  match l,h2 with
  | [c0,c1],_=>exact⟨c0,c1,h1⟩
 obtain⟨fuel,hf⟩:=h;obtain⟨xs,n,_,_,hl,hlen,hg⟩:=DataW.trod_array Tryz.underlying50 hf;rw[V6] at hg;have g0:=hg 0 (by decide);have g1:=hg 1 (by decide);have l0:0<xs.length:=by omega
 have l1:1<xs.length:=by omega
 rw[jB l0] at g0;rw[jB l1] at g1;obtain⟨k0,e0,_,w0⟩:=DataW.trod_int Tryz.underlying5 g0;obtain⟨k1,e1,_,w1⟩:=DataW.trod_int Tryz.underlying5 g1;simp[Value.cells] at e0 e1;subst e0 e1;obtain⟨a,rfl,ha⟩:=aai w0;obtain⟨b,rfl,hb⟩:=aai w1;exact⟨a,b,rfl,ha,hb⟩
end
end Go.Proofs.YtpghocekofdpbaaGreatDoor
