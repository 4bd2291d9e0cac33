import Derived.Test.YtpghocekofdpbaaGreatDoorQr31
set_option maxRecDepth 100000
set_option maxHeartbeats 6400000
namespace Go.Proofs.YtpghocekofdpbaaGreatDoor
open Go.RowKit Go.Shelf
section
attribute [local go_sem] Oper.semAt_some
theorem yj {g b:Nat} {t:TypeId} {cs:Array Value} (hne:g≠b):∀ (vs:List Value) (o:Nat) (w:World),ak w g t cs->ak (w.setCells b o vs) g t cs
 | [],_,_,h=>h
 | v::r,o,_,h=>yj hne r (o+1) _ (h.other (a:=⟨b,o,none⟩) hne v)
theorem zW {b:Nat} (a:Addr) (h:b≠a.block):∀ (vs:List Value) (o:Nat) (w:World),(w.setCells b o vs).cell? a=w.cell? a
 | [],_,_=>rfl
 | v::r,o,w=>(zW a h r (o+1) _).trans (World.cell?_setCell_far w ⟨b,o,none⟩ a v h)
theorem sQ.keep {w w':World} {g:Nat} (h:sQ w g) (hc:∀ b j,b<=g+8->g<=b->w'.cell? ⟨b,j,none⟩=w.cell? ⟨b,j,none⟩) (hs:w.heap.size<=w'.heap.size):sQ w' g:=
 ⟨fun k hk=>(hc _ _ (aF _) (by omega)).trans (h.rows k hk),fun k j hk hj=>(hc _ _ (by omega) (by omega)).trans (h.cells k j hk hj),rY h.size hs⟩
theorem sQ.below {w w':World} {g:Nat} (h:sQ w g) (hB:Below w.heap.size w w'):sQ w' g:=
 h.keep (fun b j hb _=>hB.cell (p:=⟨b,j,none⟩) (by show b<w.heap.size;have:=h.size;omega)) hB.size
theorem LU (b:Nat):∀ (vs:List Value) (o:Nat) (w:World),(w.setCells b o vs).heap.size=w.heap.size
 | [],_,_=>rfl
 | v::r,o,w=>(LU b r (o+1) _).trans (World.size_setCell w ⟨b,o,none⟩ v)
theorem sQ.sets {w:World} {g b:Nat} (h:sQ w g) (hb:b<g) (vs:List Value) (o:Nat):sQ (w.setCells b o vs) g:=
 h.keep (fun c j _ hc=>zW ⟨c,j,none⟩ (by show b≠c;omega) vs o w) (by rw[LU];exact aF _)
theorem kN.whole {w wr w':World} {S S':List UInt32} (h:kN w wr S) (hB:Below wr.heap.size wr w') (hl:S'.length=S.length):kN w (w'.setCells w.heap.size 0 (S'.map ah)) S':=by
 obtain⟨cs,h1,h2⟩:=h.res;exact⟨aW (h.st.below hB h.st.lt) _ (by simp[hl]),⟨cs,yj (by omega) _ _ _ (h1.below hB h1.lt),h2⟩,below_setCells (aF _) _ 0 _ (h.bel.trans (hB.mono h.bel.size))⟩
theorem YK (w:World) (g k:Nat) (hk:k<8):(Instr.indexAt 258 (.slice (some ⟨g,0,none⟩) 8 8) (.int .i64 (k:Int))).run Tryz.prog w= .ok (.pointer (some ⟨g,k,none⟩)) w:=by
 have d1:(0:Int)<=(k:Int):=by omega
 have d2:(k:Int)<8:=by omega
 simp[go_sem,d1,d2]
theorem qF (w:World) (g j:Nat) (z:Int) (hz:z=(j:Int)) (hj:j<4):(Instr.indexAt 30 (.slice (some ⟨g,0,none⟩) 4 4) (.int .i64 z)).run Tryz.prog w= .ok (.pointer (some ⟨g,j,none⟩)) w:=by
 subst hz;have d1:(0:Int)<=(j:Int):=by omega
 have d2:(j:Int)<4:=by omega
 simp[go_sem,d1,d2]
theorem QE (w:World) (S:List UInt32) (hS:S.length=16):
  Calls Tryz.prog 191 #[.agg (S.map ah).toArray] w fun e w'=>e= .returned (.agg ((jY S 10).map ah).toArray)/\Below w.heap.size w w':=by
 go_enter Tryz.func191,Tryz.ntmps191;go_upto_region 1 with fail;refine aX (P:=fun W=>Code.wp _ _ _ _ W) (fun W1 hW1=>?_);have H0:Hid (kN w W1 (jY S 0)):=by
  have b1:=(bK _ w).alloc (aF _) (Obj.cells (S.map ah).toArray 211);have hres:∃ cs,ak W1 (w.heap.size+1) 211 cs/\cs.size=16:=by rw[<-hW1];exact⟨Kt,uy _ _ _ _,rfl⟩
  refine⟨?_,hres,?_⟩
  ·rw[<-hW1];exact(ak.new w _ _).alloc _
  ·rw[<-hW1];exact b1.alloc b1.size _
 have XP:=zh hS;have hgs:Hid (w.heap.size<W1.heap.size):=H0.out.st.lt;clear hW1 hS;have HO:=zh (YJ W1);obtain⟨g,hg⟩:∃ g,W1.heap.size=g:=⟨_,rfl⟩;rw[hg] at HO hgs;go_upto_region 2 with(first | (go_at_call 200;refine HO.out.mono ?_;rintro e w2 ⟨rfl,hO,hB⟩;rw[<-hg] at hB;have Dj:=zh hO;have H1:=zh (show kN w w2 (jY S 0) from by { obtain⟨cs,h1,h2⟩:=H0.out.res;exact⟨H0.out.st.below hB H0.out.st.lt,⟨cs,h1.below hB h1.lt,h2⟩,H0.out.bel.trans (hB.mono H0.out.bel.size)⟩ });clear hO hB) | fail);clear H0 HO hg;go_wp2_with fail;go_loopw [4] (fun q wr=>∃ n:Nat,q= .int .i64 n/\Hid (n<=10)/\Hid (kN w wr (jY S n))/\Hid (sQ wr g)) (fun q _=>10-(intOf q).toNat)
 case atStart=>exact⟨0,rfl,iT _,H1,Dj⟩
 case round=>
  clear H1 Dj;obtain⟨n,rfl,hn,hA,hO⟩:=hrel;by_cases hlt:n<10
  ·have d1:decide (n<10)=true:=pW hlt;have d2:decide ((n:Int)<10)=true:=pW (by omega);have SL:=zh hlt;have hnx:=zh (YI S n);obtain⟨T,hT⟩:∃ T,jY S n=T:=⟨_,rfl⟩;have hTl:Hid (T.length=16):=by unfold Hid;rw[<-hT,oW];exact XP.out
   rw[hT] at hA hnx;clear hT;go_wp2_with fail;have hA0:Hid (kN w wr (wR T 0)):=hA;have hO0:Hid (sQ wr g):=hO;clear hA hO;obtain⟨wo,rfl⟩:∃ wo,wo=wr:=⟨_,rfl⟩;go_loopw [5] (fun q wr=>∃ k:Nat,q= .int .i64 k/\Hid (k<=8)/\Hid (kN w wr (wR T k))/\Hid (sQ wr g)) (fun q _=>8-(intOf q).toNat)
   case atStart=>exact⟨0,rfl,iT _,hA0,hO0⟩
   case round=>
    clear hA0 hO0;obtain⟨k,rfl,hk,hA,hO⟩:=hrel;by_cases h8:k<8
    ·have e1:decide (k<8)=true:=pW h8;have e2:decide ((k:Int)<8)=true:=pW (by omega);obtain⟨o0,p0⟩:∃ o,JV k 0=o:=⟨_,rfl⟩;obtain⟨o1,p1⟩:∃ o,JV k 1=o:=⟨_,rfl⟩;obtain⟨o2,p2⟩:∃ o,JV k 2=o:=⟨_,rfl⟩;obtain⟨o3,p3⟩:∃ o,JV k 3=o:=⟨_,rfl⟩;have ho0:Hid (o0<16):=by unfold Hid;rw[<-p0];exact F9 k 0 h8 (by decide)
     have ho1:Hid (o1<16):=by unfold Hid;rw[<-p1];exact F9 k 1 h8 (by decide)
     have ho2:Hid (o2<16):=by unfold Hid;rw[<-p2];exact F9 k 2 h8 (by decide)
     have ho3:Hid (o3<16):=by unfold Hid;rw[<-p3];exact F9 k 3 h8 (by decide)
     have hQn:Hid (wR T (k+1)=JB (wR T k) o0 o1 o2 o3):=by unfold Hid;rw[<-p0,<-p1,<-p2,<-p3];rfl
     have HC:Hid (∀ wx,Below wr.heap.size wr wx->wx.cell? ⟨g+8,k,none⟩=some (.slice (some ⟨g+k,0,none⟩) 4 4)/\wx.cell? ⟨g+k,0,none⟩=some (.int .i64 (o0:Int))/\wx.cell? ⟨g+k,1,none⟩=some (.int .i64 (o1:Int))/\wx.cell? ⟨g+k,2,none⟩=some (.int .i64 (o2:Int))/\wx.cell? ⟨g+k,3,none⟩=some (.int .i64 (o3:Int))):=fun wx hB=>by
      have h:=hO.out.below hB;rw[<-p0,<-p1,<-p2,<-p3];exact⟨h.rows k h8,h.cells k 0 h8 (by decide),h.cells k 1 h8 (by decide),h.cells k 2 h8 (by decide),h.cells k 3 h8 (by decide)⟩
     have y0:=fun wx=>YK wx (g+8) k h8
     have y1:=fun wx=>qF wx (g+k) 0 0 rfl (by decide)
     have y2:=fun wx=>qF wx (g+k) 1 1 rfl (by decide)
     have y3:=fun wx=>qF wx (g+k) 2 2 rfl (by decide)
     have y4:=fun wx=>qF wx (g+k) 3 3 rfl (by decide)
     obtain⟨Q,hQ⟩:∃ Q,wR T k=Q:=⟨_,rfl⟩;have hQl:Hid (Q.length=16):=by unfold Hid;rw[<-hQ,LM];exact hTl.out
     rw[hQ] at hA hQn;obtain⟨Dl,hDl⟩:∃ D,Q.map ah=D:=⟨_,rfl⟩;have anj:Hid (Dl.length=16):=by unfold Hid;rw[<-hDl,lq];exact hQl.out
     have HRG:Hid (∀ wx,Below wr.heap.size wr wx->wx.rangeAt w.heap.size 0 Dl):=fun wx hB=>by
      have h:=dZ (hA.out.st.below hB hA.out.st.lt);rw[<-hDl];exact h
     have HS:Hid (∀ wx,Below wr.heap.size wr wx->wx.rangeAt w.heap.size 0 Dl/\wx.cell? ⟨g+8,k,none⟩=some (.slice (some ⟨g+k,0,none⟩) 4 4)/\wx.cell? ⟨g+k,0,none⟩=some (.int .i64 (o0:Int))/\wx.cell? ⟨g+k,1,none⟩=some (.int .i64 (o1:Int))/\wx.cell? ⟨g+k,2,none⟩=some (.int .i64 (o2:Int))/\wx.cell? ⟨g+k,3,none⟩=some (.int .i64 (o3:Int))):=fun wx hB=>⟨HRG.out wx hB,HC.out wx hB⟩
     obtain⟨Dn,aea⟩:∃ D,(JB Q o0 o1 o2 o3).map ah=D:=⟨_,rfl⟩;have hDn:Hid (Dn=(JB Q o0 o1 o2 o3).map ah):=aea.symm;have akf:Hid (Dn.length=16):=by unfold Hid;rw[<-aea,lq,Ba];exact hQl.out
     have ank:Hid (∀ v ∈ Dn,v.oneCell'=true):=by unfold Hid;rw[<-aea];exact jZ _
     have HQ:Hid (∀ wx,Calls Tryz.prog 201 #[.agg Dl.toArray,.int .i64 (o0:Int),.int .i64 (o1:Int),.int .i64 (o2:Int),.int .i64 (o3:Int)] wx fun e w'=>e= .returned (.agg ((JB Q o0 o1 o2 o3).map ah).toArray)/\Below wx.heap.size wx w'):=fun wx=>by
      rw[<-hDl];exact NT wx o0 o1 o2 o3 Q hQl.out ho0.out ho1.out ho2.out ho3.out
     have h8H:=zh h8;clear p0 p1 p2 p3 hQ hDl aea HC HRG;go_upto_region 8 with fail;refine bJ (S:=(fun wx=>wx.rangeAt w.heap.size 0 Dl/\wx.cell? ⟨g+8,k,none⟩=some (.slice (some ⟨g+k,0,none⟩) 4 4)/\wx.cell? ⟨g+k,0,none⟩=some (.int .i64 (o0:Int))/\wx.cell? ⟨g+k,1,none⟩=some (.int .i64 (o1:Int))/\wx.cell? ⟨g+k,2,none⟩=some (.int .i64 (o2:Int))/\wx.cell? ⟨g+k,3,none⟩=some (.int .i64 (o3:Int)))) 26 (by kernel_rfl) (HS.out _ (bK _ wr).drew) (fun zs=>?_);refine' yu (i:=0) rfl (by kernel_rfl) (by kernel_rfl) (by kernel_rfl) (by kernel_rfl) (by kernel_rfl) (fun _ _ _ h=>h) (yieldsIf_load_mid (by rfl) 211 _ rfl w.heap.size 0 rfl Dl _ (fun _ h=>h.1) Tryz.underlying211 rfl (by rw[anj.out];exact jH)) zs ?apj;try simp only[sA,gA]
     refine' tl 1 rfl zs ?_;refine' tl 2 rfl zs ?_;refine' tl 3 rfl zs ?_;refine' tl 4 rfl zs ?_;refine' tl 5 rfl zs ?_;refine' tl 6 rfl zs ?_;refine' tl 7 rfl zs ?_;refine' tl 8 rfl zs ?_;refine' tl 9 rfl zs ?_;refine' tl 10 rfl zs ?_;refine' tl 11 rfl zs ?_;refine' tl 12 rfl zs ?_;refine' tl 13 rfl zs ?_;refine' tl 14 rfl zs ?_;refine' tl 15 rfl zs ?_;refine' tl 16 rfl zs ?_;refine' tl 17 rfl zs ?_;refine' tl 18 rfl zs ?_;refine' tl 19 rfl zs ?_;refine' tl 20 rfl zs ?_;refine' tl 21 rfl zs ?_;refine' tl 22 rfl zs ?_;refine' tl 23 rfl zs ?_;refine' tl 24 rfl zs ?_;refine aN (rs:= [25]) (by kernel_rfl) (by simp) ?_;refine aI.cons rfl (fun K hK=>?_) aI.nil;go_simp;go_at_call 201;refine(HQ.out _).mono ?_;rintro e w9 ⟨rfl,oC⟩;have JC:=zh ((bK wr.heap.size wr).drew.trans oC);clear oC;go_wp2_with fail;refine hK.out _ _ (HS.out _ JC.out) (fun zs=>?_);clear hK K;try simp only[sA,gA]
     refine aN (rs:= [26]) (by kernel_rfl) (by simp) ?_;refine aI.last rfl (fun K hK=>?_);refine wp_store_mid 211 _ _ rfl w.heap.size 0 Dn.toArray rfl ?hs0 ?hs1 ?hs2 ?hs3 ?hs4
     case hs0=>rw[hDn.out];rfl
     case hs1=>exact aU (o:=0) (hA.out.st.below JC.out hA.out.st.lt) (by rw[mG,akf.out,mG,lq,hQl.out];exact aF _)
     case hs2=>rw[mG,akf.out];exact jH
     case hs3=>exact all_oneCell_toArray ank.out
     case hs4=>
     refine hK.out _ _ ?_;clear hK K;try simp only[Act.put,zq]
     refine bZ (by kernel_rfl) ?_ _;clear zs;have hA2:Hid (kN w (w9.setCells w.heap.size 0 Dn) (wR T (k+1))):=by
      unfold Hid;rw[hQn.out,hDn.out];exact hA.out.whole JC.out (Ba _ _ _ _ _)
     have hO2:Hid (sQ (w9.setCells w.heap.size 0 Dn) g):=(hO.out.below JC.out).sets hgs.out Dn 0;go_wp2_with fail;refine⟨⟨k+1,by go_num,h8H.out,hA2,hO2⟩,?_⟩;have:=h8H.out;simp[intOf];omega
    ·have e1:decide (k<8)=false:=dF h8;have e2:decide ((k:Int)<8)=false:=dF (by omega);have hk8:k=8:=zap hk (Ep h8);have hA2:Hid (kN w wr (jY S (n+1))):=by unfold Hid;rw[hnx.out,<-hk8];exact hA
     clear hk8 hA;go_wp2_with fail;refine⟨⟨n+1,by go_num,SL.out,hA2,hO⟩,?_⟩;have:=SL.out;simp[intOf];omega
  ·have d1:decide (n<10)=false:=dF hlt;have d2:decide ((n:Int)<10)=false:=dF (by omega);have aad:n=10:=zap hn (Ep hlt);have hA1:Hid (kN w wr (jY S 10)):=by rw[aad] at hA;exact hA
   have hRl:Hid (((jY S 10).map ah).length=16):=by unfold Hid;rw[lq,oW];exact XP.out
   have hRo:Hid (∀ v ∈ (jY S 10).map ah,v.oneCell'=true):=jZ _;have hst:=hA1.out.st;obtain⟨cs,hr,hrs⟩:=hA1.out.res;have O4:=zh hrs;have Tz:=zh hr;have hbel:=zh hA1.out.bel;clear aad hA hA1 hr hrs;generalize hD:(jY S 10).map ah=D at *;have VZ:=zh hD;have hrg:=dZ hst;clear hD hst;go_wp2_with (first | (refine wpList_load_mid rfl 211 _ rfl w.heap.size 0 rfl D _ hrg Tryz.underlying211 rfl ?hI1 ?_) | (refine wpList_store_mid rfl 211 _ _ rfl (w.heap.size+1) 0 D.toArray rfl rfl ?hI2 ?Dx ?SN ?_) | fail)
   case hI1=>rw[hRl.out];exact lX
   case hI2=>rw[hRl.out];exact aU (o:=0) Tz.out (by rw[O4.out];exact aF _)
   case Dx=>rw[hRl.out];exact lX
   case SN=>exact hRo.out
   have hL:=aW Tz.out D (by rw[hRl.out,O4.out]);have hBL:=below_setCells (g:=w.heap.size+1) (wW _) D 0 _ hbel.out;rw[VZ.out];exact bU (bF (P:=Tryz.prog) rfl _ _ (w.heap.size+1) 211 D.toArray _ rfl hL Tryz.underlying211 rfl (by rw[mG,hRl.out];exact jH)) rfl ⟨rfl,hBL⟩
end
section
attribute [local go_sem] Oper.semAt_some mW jC
theorem YL (x y:UInt32):aT x y=aT y x:=UInt32.add_comm x y
theorem UD (w:World) (key aY:ByteArray) (c:UInt32) (hk:key.size=32) (hn:aY.size=12):
  Calls Tryz.prog 184 #[.string key,ah c,.string aY] w fun e w'=>e= .returned (.tuple #[.string (txt (iU (bl key) c (bl aY))),.int .i64 0])/\Below w.heap.size w w':=by
 have HST:=zh (Ig w key aY c hk hn);have hSl:Hid ((gu (bl key) c (bl aY)).length=16):=oI _ _ _;have hfin:Hid (iU (bl key) c (bl aY)=uw (gu (bl key) c (bl aY)) 16):=rfl;clear hk hn;generalize gu (bl key) c (bl aY)=S at *;have hDl:Hid ((S.map ah).length=16):=by unfold Hid;rw[lq];exact hSl.out
 have hDo:Hid (∀ v ∈ S.map ah,v.oneCell'=true):=jZ _;have hone:=zh (all_oneCell_toArray hDo.out);have hTl:Hid (((jY S 10).map ah).length=16):=by unfold Hid;rw[lq,oW];exact hSl.out
 have akg:=zh (all_oneCell_toArray (jZ (jY S 10)));have HR:Hid (∀ wx,Calls Tryz.prog 191 #[.agg (S.map ah).toArray] wx fun e w'=>e= .returned (.agg ((jY S 10).map ah).toArray)/\Below wx.heap.size wx w'):=fun wx=>QE wx S hSl.out
 go_enter Tryz.func184,Tryz.ntmps184;go_upto_region 2 with(first | (go_at_call 183;refine HST.out.mono ?_;rintro e w1 ⟨rfl,hB1⟩;have HB1:=zh hB1;clear hB1) | (refine wpList_store_mid rfl 211 _ _ rfl w1.heap.size 0 (S.map ah).toArray rfl rfl (aU (o:=0) (ak.new w1 211 Kt) (by rw[mG,hDl.out];exact aF _)) (by rw[mG,hDl.out];exact jH) hone.out ?_) | fail);try simp only[Act.put,zq]
 refine aX (P:=fun W=>Code.wp _ _ _ _ W) (fun W2 hW2=>?_);have hst:Hid (ak W2 w1.heap.size 211 (S.map ah).toArray):=by unfold Hid;rw[<-hW2];exact aW (ak.new w1 211 Kt) (S.map ah) (by rw[hDl.out];rfl)
 have hbel:Hid (Below w.heap.size w W2):=by unfold Hid;rw[<-hW2];exact below_setCells HB1.out.size _ 0 _ (HB1.out.alloc HB1.out.size _)
 obtain⟨sb,hsb⟩:∃ sb,w1.heap.size=sb:=⟨_,rfl⟩;rw[hsb] at hst ⊢;clear hW2 hsb HB1 HST hone;have hrg:=dZ hst.out;go_upto_region 5 with(first
  | (go_at_call 191;refine(HR.out _).mono ?_;rintro e w3 ⟨rfl,hB3⟩;have hst3:=zh (hst.out.below hB3 hst.out.lt);have Kw:=zh (hbel.out.trans (hB3.mono hbel.out.size));clear hB3)
  | (refine wpList_load_mid rfl 211 _ rfl sb 0 rfl (S.map ah) _ hrg Tryz.underlying211 rfl (by rw[hDl.out];exact jH) ?_)
  | (refine wpList_store_mid rfl 211 _ _ rfl w3.heap.size 0 ((jY S 10).map ah).toArray rfl rfl (aU (o:=0) (ak.new w3 211 Kt) (by rw[mG,hTl.out];exact aF _)) (by rw[mG,hTl.out];exact jH) akg.out ?_)
  | fail)
 try simp only[Act.put]
 refine aX (P:=fun W=>Code.wp _ _ _ _ W) (fun W4 Na=>?_);have htt:Hid (ak W4 w3.heap.size 211 ((jY S 10).map ah).toArray):=by unfold Hid;rw[<-Na];exact aW (ak.new w3 211 Kt) ((jY S 10).map ah) (by rw[hTl.out];rfl)
 have hBx:Below w3.heap.size w3 W4:=by rw[<-Na];exact below_setCells (aF _) _ 0 _ ((bK _ w3).alloc (aF _) _)
 have JD:=zh (hst3.out.below hBx hst3.out.lt);have Kv:=zh (Kw.out.trans (hBx.mono Kw.out.size));obtain⟨tb,htb⟩:∃ tb,w3.heap.size=tb:=⟨_,rfl⟩;rw[htb] at htt ⊢;clear Na hBx htb hst hst3 hbel Kw hrg HR akg hDo;have hlts:=zh JD.out.lt;have anl:=zh htt.out.lt;have hbs:Hid (w.heap.size<=W4.heap.size):=Kv.out.size;have hrow4:=zh (um W4 W4.heap.size);go_wp2_with fail;go_loopw [11,12] (fun p q wr=>∃ i:Nat,q= .int .i64 i/\Hid (i<=16)/\Hid (dD wr W4.heap.size p (uw S i))/\Hid (ak wr sb 211 (S.map ah).toArray)/\Hid (ak wr tb 211 ((jY S 10).map ah).toArray)/\Hid (Below w.heap.size w wr)/\Hid (W4.heap.size<=wr.heap.size)) (fun _ q _=>16-(intOf q).toNat)
 case atStart=>exact⟨0,rfl,iT _,hrow4,JD,htt,Kv,aF _⟩
 case round=>
  clear hrow4 JD htt Kv;obtain⟨i,rfl,hi,hR,hst,htt,hbel,hbase⟩:=hrel;by_cases hlt:i<16
  ·have d1:decide (i<16)=true:=pW hlt;have d2:decide ((i:Int)<16)=true:=pW (by omega);have x0:=fun wx=>bP wx sb i hlt (i:Int) rfl
   have x1:=fun wx=>bP wx tb i hlt (i:Int) rfl
   have c0:=bg hst.out (a:=i) (by rw[hSl.out];exact hlt);have c1:=bg htt.out (a:=i) (by rw[oW,hSl.out];exact hlt);obtain⟨X,hX⟩:∃ X,(jY S 10).getD i 0=X:=⟨_,rfl⟩;obtain⟨Y,hY⟩:∃ Y,S.getD i 0=Y:=⟨_,rfl⟩;have hsn:=Ag S i;rw[hX,hY,YL] at hsn;rw[hX] at c1;rw[hY] at c0;have xu:=zh hsn;have fG:=zh hlt;have hvs:=zh (O1 (aT Y X));have hlH:Hid ((uw S i).length+4<99999999999):=by unfold Hid;rw[yK];omega
   clear hX hY hsn;go_upto_region 9 with fail
   go_region
   have ZR:Hid (dD wr.drew W4.heap.size u11 (uw S i)):=hR.out.drewN 1;go_wp2_with (at_builtin;refine ZY rfl _ _ rfl W4.heap.size u11 (uw S i) rfl ZR.out 4 4 (le4 (aT Y X)) hvs.out rfl rfl hlH.out hbase.out ?_;intro v9 w9 hP9;rw[<-xu.out] at hP9;have SQ:=zh hP9;clear hP9);refine⟨⟨i+1,by go_num,fG.out,SQ.out.row,(hst.out.drew).below (SQ.out.bel _ wr.drew (aF _) hbase.out (bK _ _)) hlts.out,(htt.out.drew).below (SQ.out.bel _ wr.drew (aF _) hbase.out (bK _ _)) anl.out,SQ.out.bel _ _ hbs.out hbase.out hbel.out.drew,fU hbase.out SQ.out.grown.size⟩,?_⟩;have:=fG.out;simp[intOf];omega
  ·have d1:decide (i<16)=false:=dF hlt;have d2:decide ((i:Int)<16)=false:=dF (by omega);have e16:i=16:=zap hi (Ep hlt);have hcv:(convert 66 9 u11).run Tryz.prog wr= .ok (.string (txt (iU (bl key) c (bl aY)))) wr:=by
    have h:=jk hR.out;rw[e16] at h;rw[hfin.out];exact h
   clear e16 hlt hfin;generalize hT:txt (iU (bl key) c (bl aY))=T at *;have hTH:=zh hT;clear hT;go_wp2_with fail;go_ret2;exact⟨by rw[hTH.out];rfl,hbel.out⟩
end
attribute [local go_sem] Oper.semAt_some lu
def strOf:Value->Nat
 | .string x=>x.size
 | _=>0
theorem YM {L:List UInt8} {j:Nat} {y:UInt8} (h:L[j]? =some y):L.take (j+1)=L.take j++ [y]:=by rw[FD,h];rfl
theorem abu (C:UInt32):Value.int IntKind.u32 (((C.toNat:Int)+1) % 4294967296)=ah (aT C 1):=by
 have h:=jC C 1;have e:((1:UInt32).toNat:Int)=1:=rfl;rw[e] at h;unfold ah;rw[h]
theorem abv (w:World) (key aY text:ByteArray) (c:UInt32) (hk:key.size=32) (hn:aY.size=12) (ht:text.size<10000000000):
  Calls Tryz.prog 168 #[.string key,ah c,.string aY,.string text] w fun e w'=>e= .returned (.tuple #[.string (txt (lS (bl key) c (bl aY) (bl text))),.int .i64 0])/\Below w.heap.size w w':=by
 have HST:=zh (Ig w key aY c hk hn);have HBL:Hid (∀ wx C,Calls Tryz.prog 184 #[.string key,ah C,.string aY] wx fun e w'=>e= .returned (.tuple #[.string (txt (iU (bl key) C (bl aY))),.int .i64 0])/\Below wx.heap.size wx w'):=fun wx C=>UD wx key aY C hk hn
 have hSl:Hid ((gu (bl key) c (bl aY)).length=16):=oI _ _ _;clear hk hn;generalize gu (bl key) c (bl aY)=S at *;have hDl:Hid ((S.map ah).length=16):=by unfold Hid;rw[lq];exact hSl.out
 have hone:=zh (all_oneCell_toArray (jZ S));have hat:Hid (∀ q i x,i<64->(bl text)[64*q+i]? =some x->(lS (bl key) c (bl aY) (bl text))[64*q+i]? =some (pK x ((iU (bl key) (qc c q) (bl aY)).getD i 0))):=fun q i x hi h=>by
  have h2:=V4 (bl key) c (bl aY) (bl text) (64*q+i) x h;rw[show(64*q+i)/64=q by omega,show(64*q+i) % 64=i by omega] at h2;exact h2
 have hLl:Hid ((lS (bl key) c (bl aY) (bl text)).length=text.size):=by unfold Hid;rw[lW,aG]
 have hT0:Hid (bl text=(bl text).drop (64*0)):=by unfold Hid;rw[Nat.mul_zero,List.drop_zero]
 have htl:Hid ((bl text).length=text.size):=aG text;have htH:=zh ht;obtain⟨L,hL⟩:∃ L,lS (bl key) c (bl aY) (bl text)=L:=⟨_,rfl⟩;rw[hL] at hat hLl ⊢;obtain⟨T,hT⟩:∃ T,bl text=T:=⟨_,rfl⟩;rw[hT] at hat hT0 htl;have hx0:Hid (bl text=T.drop (64*0)):=by unfold Hid;rw[hT];exact hT0.out
 obtain⟨n,hne⟩:∃ n,text.size=n:=⟨_,rfl⟩;rw[hne] at hLl htl htH ht;clear hL hT hT0 hne ht;go_enter Tryz.func168,Tryz.ntmps168;go_upto_region 4 with(first | (go_at_call 183;refine HST.out.mono ?_;rintro e w1 ⟨rfl,hB1⟩;have HB1:=zh hB1;clear hB1) | (refine wpList_store_mid rfl 211 _ _ rfl w1.heap.size 0 (S.map ah).toArray rfl rfl (aU (o:=0) (ak.new w1 211 Kt) (by rw[mG,hDl.out];exact aF _)) (by rw[mG,hDl.out];exact jH) hone.out ?_) | fail);try simp only[sA]
 refine aX (P:=fun W=>Code.wp _ _ _ _ W) (fun W2 hW2=>?_);have hbel:Hid (Below w.heap.size w W2):=by unfold Hid;rw[<-hW2];exact below_setCells HB1.out.size _ 0 _ (HB1.out.alloc HB1.out.size _)
 clear hW2 HB1 HST hone hDl hSl;have hr0:Hid (dD W2 w.heap.size (.slice none 0 0) (L.take (64*0))):=by unfold Hid;rw[Nat.mul_zero,List.take_zero];exact um _ _
 go_wp2_with fail;go_loopw [1,3,12] (fun cv tv p wr=>∃ (q:Nat) (x:ByteArray),cv=ah (qc c q)/\tv= .string x/\Hid (bl x=T.drop (64*q))/\Hid (dD wr w.heap.size p (L.take (64*q)))/\Hid (Below w.heap.size w wr)) (fun _ tv _ _=>strOf tv)
 case atStart=>exact⟨0,text,rfl,rfl,hx0,hr0,hbel⟩
 case round=>
  clear hx0 hr0 hbel;obtain⟨q,x,rfl,rfl,hx,hR,hB⟩:=hrel;have hxl:Hid (x.size=n-64*q):=by unfold Hid;rw[<-aG,hx.out,rX,htl.out]
  by_cases hpos:0<x.size
  ·have d1:decide (0<x.size)=true:=pW hpos;have d2:decide ((0:Int)<(x.size:Int))=true:=pW (by omega);obtain⟨m,hm⟩:∃ m,min 64 x.size=m:=⟨_,rfl⟩;have hmi:min (64:Int) (x.size:Int)=(m:Int):=by omega
   have m1:Hid (m<=64):=by unfold Hid;omega
   have m2:Hid (m<=x.size):=by unfold Hid;omega
   have m3:Hid (0<m):=by unfold Hid;omega
   have m4:Hid (m<64->m=x.size):=by unfold Hid;omega
   obtain⟨C,hC⟩:∃ C,qc c q=C:=⟨_,rfl⟩;have hCn:Hid (qc c (q+1)=aT C 1):=by unfold Hid;rw[<-hC];rfl
   obtain⟨BB,yM⟩:∃ B,iU (bl key) (qc c q) (bl aY)=B:=⟨_,rfl⟩;have anm:Hid (BB.length=64):=by unfold Hid;rw[<-yM,Gl]
   have ano:Hid (∀ i y,i<64->T[64*q+i]? =some y->L[64*q+i]? =some (pK y (BB.getD i 0))):=fun i y hi h=>by
    have h2:=hat.out q i y hi h;rw[yM] at h2;exact h2
   have HBQ:Hid (∀ wx,Calls Tryz.prog 184 #[.string key,ah C,.string aY] wx fun e w'=>e= .returned (.tuple #[.string (txt BB),.int .i64 0])/\Below wx.heap.size wx w'):=fun wx=>by
    have h:=HBL.out wx C;rw[<-hC,yM] at h;rw[<-hC];exact h
   have hCe:ah (qc c q)=ah C:=by rw[hC]
   rw[hCe];clear hC hCe yM hm;obtain⟨wo,rfl⟩:∃ wo,wo=wr:=⟨_,rfl⟩;go_upto_region 8 with(first | (go_at_call 184;refine(HBQ.out _).mono ?_;rintro e w3 ⟨rfl,hB3⟩;have oH:=zh (hR.out.below hB3);have aki:=zh (hB.out.trans (hB3.mono hB.out.size));clear hB3) | fail);have akj:Hid (dD w3 w.heap.size u12 (L.take (64*q+0))):=oH;clear hR hB HBQ oH;obtain⟨BT,hBT⟩:∃ B,txt BB=B:=⟨_,rfl⟩;have anq:Hid (bl BT=BB):=by unfold Hid;rw[<-hBT,lU]
   rw[hBT];clear hBT;go_wp2_with fail;go_loopw [12,16] (fun p iv wr=>∃ i:Nat,iv= .int .i64 i/\Hid (i<=m)/\Hid (dD wr w.heap.size p (L.take (64*q+i)))/\Hid (Below w.heap.size w wr)) (fun _ iv _=>m-(intOf iv).toNat)
   case atStart=>exact⟨0,rfl,iT _,akj,aki⟩
   case round=>
    clear akj aki;obtain⟨i,rfl,hi,hR,hB⟩:=hrel;by_cases hlt:i<m
    ·have e1:decide (i<m)=true:=pW hlt;have e2:decide ((i:Int)<(m:Int))=true:=pW (by omega);have hi64:i<64:=by have:=m1.out;omega
     obtain⟨y,hy⟩:∃ y,(bl x)[i]? =some y:=⟨_,jB (by rw[aG];have:=m2.out;omega)⟩;obtain⟨z,hz⟩:∃ z,BB[i]? =some z:=⟨_,jB (by rw[anm.out];exact hi64)⟩;have hy2:T[64*q+i]? =some y:=by rw[hx.out,Nc] at hy;exact hy
     have hsn:L.take (64*q+(i+1))=L.take (64*q+i)++ [pK y z]:=by
      have h:=ano.out i y hi64 hy2;rw[En,hz,Option.getD_some] at h;exact YM h
     have ix:=fun wx=>iq wx x i y hy
     have iz:=fun wx=>iq wx BT i z (by rw[anq.out];exact hz)
     have hxf:=lu y z;have xu:=zh hsn;have fG:=zh hlt;have hln:Hid ((L.take (64*q+i)).length<99999999999):=by unfold Hid;rw[ou,hLl.out];have:=htH.out;omega
     have ZR:Hid (dD wr.drew w.heap.size u12 (L.take (64*q+i))):=hR.out.drewN 1;have hBd:=zh hB.out.drew;clear hy hz hy2 hsn hi64;go_upto_region 11 with fail;refine yD (S:=(fun _=>True)) (by kernel_rfl) trivial (fun zs=>?_);refine' tk 0 rfl zs ?_;refine' tk 1 rfl zs ?_;refine' tk 2 rfl zs ?_;refine' tk 3 rfl zs ?_;refine' tk 4 rfl zs ?_;refine' tk 5 rfl zs ?_;refine' tk 6 rfl zs ?_;refine' tk 7 rfl zs ?_;refine td 8 rfl (fun K hK=>?_);go_simp;refine hK.out _ _ (trivial) (fun zs=>?_);clear hK K;try simp only[sA,gA]
     refine td 9 rfl (fun K hK=>?_);refine Tj _ _ rfl w.heap.size u12 (L.take (64*q+i)) rfl ZR.out 1 (pK y z) rfl rfl hln.out hBd.out.size ?_;intro v9 w9 hP9;rw[<-xu.out] at hP9;have SQ:=zh hP9;clear hP9;refine hK.out _ _ (trivial) (fun zs=>?_);clear hK K;try simp only[sA,gA]
     refine' tk 10 rfl zs ?_;refine wZ (by kernel_rfl) ?_ _;clear zs;have oC:=zh (SQ.out.bel _ _ (aF _) hBd.out.size hBd.out);go_wp2_with fail;refine⟨⟨i+1,by go_num,fG.out,SQ.out.row,oC.out⟩,?_⟩;have:=fG.out;simp[intOf];omega
    ·have e1:decide (i<m)=false:=dF hlt;have e2:decide ((i:Int)<(m:Int))=false:=dF (by omega);have him:Hid (i=m):=zap hi (Ep hlt);have hx2:Hid (bl (x.extract m x.size)=T.drop (64*(q+1))):=by
      unfold Hid;rw[jD x m m2.out,hx.out,List.drop_drop];by_cases h64:m<64
      ·have h3:=m4.out h64;have h4:=hxl.out;have h5:=htl.out;rw[List.drop_eq_nil_of_le (by omega),List.drop_eq_nil_of_le (by omega)]
      ·have h3:=m1.out;rw[show 64*q+m=64*(q+1) by omega]
     have hR2:Hid (dD wr w.heap.size u12 (L.take (64*(q+1)))):=by
      unfold Hid;have h:=hR.out;rw[him.out] at h;by_cases h64:m<64
      ·have h3:=m4.out h64;have h4:=hxl.out;have h5:=hLl.out;rw[uo (by omega)] at h;rw[uo (by omega)];exact h
      ·have h3:=m1.out;rw[show 64*(q+1)=64*q+m by omega];exact h
     have s0:(0:Int)<=(m:Int):=by omega
     have s1:(m:Int)<=(x.size:Int):=by have:=m2.out;omega
     have s2:m<=x.size:=m2.out;have hcn:=abu C;have hsz:Hid (strOf (.string (x.extract m x.size))<strOf (.string x)):=by
      have h1:=aG (x.extract m x.size);rw[jD x m m2.out,rX,aG] at h1;unfold Hid strOf;dsimp only;have:=m3.out;omega
     clear hlt hi him hR hxl m4 hmi;go_wp2_with fail;refine⟨⟨q+1,x.extract m x.size,?_,rfl,hx2.out,hR2.out,hB.out⟩,hsz.out⟩;rw[hCn.out];first | exact hcn | rfl
  ·have d1:decide (0<x.size)=false:=dF hpos;have d2:decide ((0:Int)<(x.size:Int))=false:=dF (by omega);have hcv:(convert 66 9 u12).run Tryz.prog wr= .ok (.string (txt L)) wr:=by
    have h:=jk hR.out;have h1:=hxl.out;rw[uo (by rw[hLl.out];omega)] at h;exact h
   clear hpos;generalize hTL:txt L=TL at *;have hTH:=zh hTL;clear hTL;go_wp2_with fail;go_ret2;exact⟨by rw[hTH.out];rfl,hB.out⟩
end Go.Proofs.YtpghocekofdpbaaGreatDoor
