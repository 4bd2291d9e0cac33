import Derived.Test.YtpghocekofdpbaaGreatDoorQr26
set_option maxRecDepth 100000
set_option maxHeartbeats 3200000
namespace Go.Proofs.YtpghocekofdpbaaGreatDoor
section
open Go.RowKit Go.Shelf
attribute [local go_sem] Oper.semAt_some
def keyOf (k:List UInt8):List UInt8:=if k.length<=64 then k else gU k
theorem uP (k:List UInt8):(keyOf k).length<=64:=by
 unfold keyOf;by_cases h:k.length<=64
 ·rw[if_pos h];exact h
 ·rw[if_neg h];unfold gU;rw[rC];decide
def nJ (k t:List UInt8):List UInt8:=gU (nK (keyOf k) 92++gU (nK (keyOf k) 54++t))
theorem xW (k:List UInt8) (c:UInt8) (h:k.length<=64):(nK k c).length=64:=by unfold nK;rw[lq];exact Le k h
theorem kC (b:List UInt8):(gU b).length=32:=rC _
theorem jK (k t:List UInt8):(nJ k t).length=32:=kC _
theorem WR (w:World) (m:List UInt8) (s:S8) (k:List UInt8) (x:ByteArray) (N M:Nat) (hN:m.length=N) (hM:N+x.size=M) (hS:jL iv m s k) (hK:lV w 1) (hlen:M<100000000000):
  Calls Tryz.prog 77 #[.agg (dO s k N).toArray,.string x] w fun e w'=>∃ s' k',e= .returned (.agg (dO s' k' M).toArray)/\jL iv (m++bl x) s' k'/\Below w.heap.size w w':=by
 subst hN hM;exact add_any w m s k x hS hK (by omega)
theorem WS (w:World) (m:List UInt8) (s:S8) (k:List UInt8) (N:Nat) (hN:m.length=N) (hS:jL iv m s k) (hK:lV w 1) (hlen:N<100000000000):
  Calls Tryz.prog 78 #[.agg (dO s k N).toArray] w fun e w'=>e= .returned (.agg ((gU m).map aK).toArray)/\Below w.heap.size w w':=by
 subst hN;exact Lh w m s k hS hK hlen
def txt (l:List UInt8):ByteArray:=⟨l.toArray⟩
theorem lU (l:List UInt8):bl (txt l)=l:=rfl
theorem fP (l:List UInt8):(txt l).size=l.length:=by rw[<-aG,lU]
theorem Aw (x:ByteArray):txt (bl x)=x:=by unfold txt bl;rw[Array.toArray_toList]
theorem BI (w:World) (key text:ByteArray) (hK:lV w 1) (hk:key.size<10000000000) (ht:text.size<10000000000):
  Calls Tryz.prog 41 #[.string key,.string text] w fun e w'=>e= .returned (.string (txt (nJ (bl key) (bl text))))/\Below w.heap.size w w':=by
 go_enter Tryz.func41,Tryz.ntmps41;go_upto_region 1 with fail;refine aX (P:=fun W=>Code.wp _ _ _ _ W) (fun W1 hW1=>?_);have NI:Hid (Below w.heap.size w W1):=by unfold Hid;rw[<-hW1];exact(bK _ w).alloc (aF _) _
 have HB:Hid (ak W1 w.heap.size 9 #[.string key]):=by unfold Hid;rw[<-hW1];exact ak.new w _ _
 have hKH:=zh hK;have hsz:W1.heap.size=w.heap.size+1:=by rw[<-hW1];simp
 clear hW1 hK;have ck:W1.cell? ⟨w.heap.size,0,none⟩=some (.string key):=HB.out.cell 0;go_upto_if 11 with fail
 go_cut [5] from 11 to 16 (fun p wx=>∃ y:ByteArray,Hid (bl y=keyOf (bl key))/\Hid (ak wx w.heap.size 9 #[.string y])/\Hid (Below w.heap.size w wx))
 case first=>
  by_cases h64:key.size<=64
  ·have d3:decide (64<key.size)=false:=dF (by omega);have d4:decide ((64:Int)<(key.size:Int))=false:=dF (by omega);have hy:Hid (bl key=keyOf (bl key)):=by unfold Hid keyOf;rw[if_pos (by rw[aG];exact h64)]
   go_wp2_with fail;go_meet;exact⟨key,hy,HB,NI⟩
  ·have d3:decide (64<key.size)=true:=pW (by omega);have d4:decide ((64:Int)<(key.size:Int))=true:=pW (by omega);have hy:Hid (gU (bl key)=keyOf (bl key)):=by unfold Hid keyOf;rw[if_neg (by rw[aG];exact h64)]
   obtain⟨c,w2,hcv,hby,hB2,hs2⟩:=Dq W1 key;have HS:Hid (Calls Tryz.prog 74 #[.slice (some ⟨W1.heap.size,0,none⟩) key.size c] w2 fun e w'=>e= .returned (.agg ((gU (bl key)).map aK).toArray)/\Below w2.heap.size w2 w'):=
    sum_any w2 W1.heap.size 0 c key.size (bl key) (aG key) hby ((lV.below hKH.out NI.out).below hB2) (by omega)
   have hkb2:=zh (HB.out.below hB2 HB.out.lt);have G7:=zh (NI.out.trans (hB2.mono NI.out.size));rw[hsz] at hcv HS;have hDl:Hid (((gU (bl key)).map aK).length=32):=by unfold Hid;rw[lq,kC]
   have hDo:Hid (∀ v ∈ (gU (bl key)).map aK,v.oneCell'=true):=kF _;have hDb:Hid (∀ (W:World) (g:Nat),ak W g 109 ((gU (bl key)).map aK).toArray->(convert 66 9 (.slice (some ⟨g,0,none⟩) 32 32)).run Tryz.prog W= .ok (.string (txt (gU (bl key)))) W):=fun W g h=>by
    have h2:=mM (c:=32) (zi h);rw[kC] at h2;exact h2
   have hyb:Hid (bl (txt (gU (bl key)))=keyOf (bl key)):=hy;generalize (gU (bl key)).map aK=D at *;generalize txt (gU (bl key))=Y at *;clear hby hB2 hs2 hy;go_wp2_with (first | (go_at_call 74;refine HS.out.mono ?_;rintro e w3 ⟨rfl,hB3⟩;have HB3:=zh hB3;clear hB3) | (refine wpList_store_mid rfl 109 _ _ rfl w3.heap.size 0 D.toArray rfl rfl (aU (o:=0) (ak.new w3 109 z32) (by rw[mG,hDl.out];exact aF _)) (by rw[mG,hDl.out];exact jM) (all_oneCell_toArray hDo.out) ?_;refine aX (P:=fun W=>wpList _ _ _ _ _ W) (fun W4 Na=>?_);have hb4:ak W4 w3.heap.size 109 D.toArray:=(by rw[<-Na];exact aW (ak.new w3 109 z32) D (by rw[hDl.out];rfl));have aqL:=hDb.out W4 _ hb4;have hl4:Below w3.heap.size w3 W4:=(by rw[<-Na];exact below_setCells (aF _) _ 0 _ ((bK _ w3).alloc (aF _) _));have hk3:=hkb2.out.below HB3.out hkb2.out.lt;have hk4:=hk3.below hl4 hk3.lt;have ck4:=hk4.cell 0;have fk4:=hk4.frozen 0;have HK4:=zh hk4;have HL4:=zh ((G7.out.trans (HB3.out.mono G7.out.size)).trans (hl4.mono (G7.out.trans (HB3.out.mono G7.out.size)).size));clear Na hb4 hl4 hk3 hk4) | fail);go_meet;exact⟨Y,hyb,HK4.out.aB 0 _,HL4.out.setCell (p:=⟨w.heap.size,0,none⟩) (aF _) _⟩
 case rest=>
  obtain⟨y,hy,HBc,Lj⟩:=hcut;clear HB NI hsz ck;have hyl:y.size<=64:=by rw[<-aG,hy];exact uP _
  have HKc:=zh (lV.below hKH.out Lj.out);have agC:Hid (∀ wx,Below wc.heap.size wc wx->Calls Tryz.prog 75 #[.int .u8 54,.pointer (some ⟨w.heap.size,0,none⟩)] wx fun e w'=>e= .returned (.string (txt (nK (bl y) 54)))/\Below wx.heap.size wx w'):=fun wx hB=>
   Qj wx w.heap.size y 54 hyl ((HBc.out.below hB HBc.out.lt).cell 0) (HBc.out.below hB HBc.out.lt).lt
  have PAD:Hid (∀ wx,Below w.heap.size w wx->ak wx w.heap.size 9 #[.string y]->∀ c:UInt8,Calls Tryz.prog 75 #[.int .u8 (c.toNat:Int),.pointer (some ⟨w.heap.size,0,none⟩)] wx fun e w'=>e= .returned (.string (txt (nK (bl y) c)))/\Below wx.heap.size wx w'):=fun wx _ hb c=>
   Qj wx w.heap.size y c hyl (hb.cell 0) hb.lt
  obtain⟨P1,hP1⟩:∃ P1,nK (bl y) 54=P1:=⟨_,rfl⟩;have adV:P1.length=64:=by rw[<-hP1];exact xW _ _ (by rw[aG];exact hyl)
  obtain⟨M1,hM1⟩:∃ M1,P1++bl text=M1:=⟨_,rfl⟩;have ajl:M1.length=64+text.size:=by rw[<-hM1,kM,adV,aG]
  have ajm:Hid (∀ wx,Below wc.heap.size wc wx->Calls Tryz.prog 77 #[.agg (dO iv (List.replicate 64 0) 0).toArray,.string (txt P1)] wx fun e w'=>∃ s2 k2,e= .returned (.agg (dO s2 k2 64).toArray)/\jL iv P1 s2 k2/\Below wx.heap.size wx w'):=fun wx hB=>
   WR wx [] iv (List.replicate 64 0) (txt P1) 0 64 rfl (by rw[fP,adV]) (xX iv _ (FT ..)) (HKc.out.below hB) (by decide)
  have ajn:Hid (∀ wx s k,Below wc.heap.size wc wx->jL iv P1 s k->Calls Tryz.prog 77 #[.agg (dO s k 64).toArray,.string text] wx fun e w'=>∃ s2 k2,e= .returned (.agg (dO s2 k2 (64+text.size)).toArray)/\jL iv M1 s2 k2/\Below wx.heap.size wx w'):=fun wx s k hB hS=>by
   have h:=WR wx P1 s k text 64 (64+text.size) adV rfl hS (HKc.out.below hB) (by omega);rw[hM1] at h;exact h
  have agD:Hid (∀ wx s k,Below wc.heap.size wc wx->jL iv M1 s k->Calls Tryz.prog 78 #[.agg (dO s k (64+text.size)).toArray] wx fun e w'=>e= .returned (.agg ((gU M1).map aK).toArray)/\Below wx.heap.size wx w'):=fun wx s k hB hS=>
   WS wx M1 s k _ ajl hS (HKc.out.below hB) (by omega)
  have agC:Hid (∀ wx,Below wc.heap.size wc wx->Calls Tryz.prog 75 #[.int .u8 54,.pointer (some ⟨w.heap.size,0,none⟩)] wx fun e w'=>e= .returned (.string (txt P1))/\Below wx.heap.size wx w'):=fun wx hB=>by
   rw[<-hP1];exact PAD.out wx (Lj.out.trans (hB.mono Lj.out.size)) (HBc.out.below hB HBc.out.lt) 54
  have hD1:Hid (((gU M1).map aK).length=32):=by unfold Hid;rw[lq,kC]
  have hDo:Hid (∀ v ∈ (gU M1).map aK,v.oneCell'=true):=kF _;have amP:=zh hP1;have amQ:=zh hM1;obtain⟨D,hD⟩:∃ D,(gU M1).map aK=D:=⟨_,rfl⟩;have VZ:=zh hD;rw[hD] at agD hD1 hDo;clear hP1 hM1 adV ajl hD hyl;go_upto_region 6 with(first
   | (go_at_call 78;refine(agD.out _ s3 k3 HB4.out Du.out).mono ?_;rintro e w5 ⟨rfl,hB⟩;have uh:=zh (HB4.out.trans (hB.mono HB4.out.size));clear hB)
   | (go_at_call 77;refine(ajn.out _ s2 k2 HB3.out HS2.out).mono ?_;rintro e w4 ⟨s3,k3,rfl,hS,hB⟩;have HB4:=zh (HB3.out.trans (hB.mono HB3.out.size));have Du:=zh hS;clear hB hS)
   | (go_at_call 77;refine(ajm.out _ HB2.out).mono ?_;rintro e w3 ⟨s2,k2,rfl,hS,hB⟩;have HB3:=zh (HB2.out.trans (hB.mono HB2.out.size));have HS2:=zh hS;clear hB hS)
   | (go_at_call 75;refine(agC.out _ HB1.out).mono ?_;rintro e w2 ⟨rfl,hB⟩;have HB2:=zh (HB1.out.trans (hB.mono HB1.out.size));clear hB)
   | (go_at_call 76;refine(zk _).mono ?_;rintro e w1 ⟨rfl,hB⟩;have HB1:=zh hB;clear hB)
   | (refine wpList_store_mid rfl 109 _ _ rfl w5.heap.size 0 D.toArray rfl rfl (aU (o:=0) (ak.new w5 109 z32) (by rw[mG,hD1.out];exact aF _)) (by rw[mG,hD1.out];exact jM) (all_oneCell_toArray hDo.out) ?_)
   | fail)
  try simp only[Act.put]
  refine aX (P:=fun W=>Code.wp _ _ _ _ W) (fun W7 Z8=>?_);have hib:Hid (ak W7 w5.heap.size 109 D.toArray):=by unfold Hid;rw[<-Z8];exact aW (ak.new w5 109 z32) D (by rw[hD1.out];rfl)
  have WT:Hid (Below wc.heap.size wc W7):=by unfold Hid;rw[<-Z8];exact below_setCells uh.out.size _ 0 _ (uh.out.alloc uh.out.size _)
  clear Z8 HB4 HB3 HB2 HB1 HS2 Du ajm ajn agD agC;obtain⟨ib,ajo⟩:∃ ib,w5.heap.size=ib:=⟨_,rfl⟩;rw[ajo] at hib ⊢;clear ajo uh;obtain⟨X1,hX1⟩:∃ X1,txt (gU M1)=X1:=⟨_,rfl⟩;have agE:bl X1=gU M1:=by rw[<-hX1];rfl
  have ajp:X1.size=32:=by rw[<-aG,agE,kC]
  have CV:Hid (∀ wx,Below W7.heap.size W7 wx->(convert 66 9 (.slice (some ⟨ib,0,none⟩) 32 32)).run Tryz.prog wx= .ok (.string X1) wx):=fun wx hB=>by
   have h:=hib.out.below hB hib.out.lt;rw[<-VZ.out] at h;have h2:=mM (c:=32) (zi h);rw[kC] at h2;rw[<-hX1];exact h2
  obtain⟨P2,hP2⟩:∃ P2,nK (bl y) 92=P2:=⟨_,rfl⟩;have hyl:y.size<=64:=by rw[<-aG,hy];exact uP _
  have adW:P2.length=64:=by rw[<-hP2];exact xW _ _ (by rw[aG];exact hyl)
  obtain⟨M2,hM2⟩:∃ M2,P2++gU M1=M2:=⟨_,rfl⟩;have ajq:M2.length=96:=by rw[<-hM2,kM,adW,kC]
  have HKd:=zh (HKc.out.below WT.out);have qw:=zh (HBc.out.below WT.out HBc.out.lt);have WU:=zh (Lj.out.trans (WT.out.mono Lj.out.size));have agF:Hid (∀ wx,Below W7.heap.size W7 wx->Calls Tryz.prog 75 #[.int .u8 92,.pointer (some ⟨w.heap.size,0,none⟩)] wx fun e w'=>e= .returned (.string (txt P2))/\Below wx.heap.size wx w'):=fun wx hB=>by
   rw[<-hP2];exact PAD.out wx (WU.out.trans (hB.mono WU.out.size)) (qw.out.below hB qw.out.lt) 92
  have adX:Hid (∀ wx,Below W7.heap.size W7 wx->Calls Tryz.prog 77 #[.agg (dO iv (List.replicate 64 0) 0).toArray,.string (txt P2)] wx fun e w'=>∃ s2 k2,e= .returned (.agg (dO s2 k2 64).toArray)/\jL iv P2 s2 k2/\Below wx.heap.size wx w'):=fun wx hB=>
   WR wx [] iv (List.replicate 64 0) (txt P2) 0 64 rfl (by rw[fP,adW]) (xX iv _ (FT ..)) (HKd.out.below hB) (by decide)
  have aa1:Hid (∀ wx s k,Below W7.heap.size W7 wx->jL iv P2 s k->Calls Tryz.prog 77 #[.agg (dO s k 64).toArray,.string X1] wx fun e w'=>∃ s2 k2,e= .returned (.agg (dO s2 k2 96).toArray)/\jL iv M2 s2 k2/\Below wx.heap.size wx w'):=fun wx s k hB hS=>by
   have h:=WR wx P2 s k X1 64 96 adW (by rw[ajp]) hS (HKd.out.below hB) (by decide);rw[agE,hM2] at h;exact h
  have Uj:Hid (∀ wx s k,Below W7.heap.size W7 wx->jL iv M2 s k->Calls Tryz.prog 78 #[.agg (dO s k 96).toArray] wx fun e w'=>e= .returned (.agg ((gU M2).map aK).toArray)/\Below wx.heap.size wx w'):=fun wx s k hB hS=>
   WS wx M2 s k _ ajq hS (HKd.out.below hB) (by decide)
  have F7:Hid (((gU M2).map aK).length=32):=by unfold Hid;rw[lq,kC]
  have Uk:Hid (∀ v ∈ (gU M2).map aK,v.oneCell'=true):=kF _;have hfin:Hid (gU M2=nJ (bl key) (bl text)):=by
   unfold Hid nJ;rw[<-hy,hP2,amP.out,amQ.out,hM2]
  obtain⟨D2,hD2⟩:∃ D2,(gU M2).map aK=D2:=⟨_,rfl⟩;have amR:=zh hD2;rw[hD2] at Uj F7 Uk;clear hX1 agE ajp hP2 hyl adW hM2 ajq hD2 hib HKc HBc Lj WT
  go_cut [8] from 25 to 32 (fun p wx=>∃ ob,p= .pointer (some ⟨ob,0,none⟩)/\Hid (ak wx ob 109 D2.toArray)/\Hid (Below W7.heap.size W7 wx))
  case first=>
   refine yD (S:=(fun w'=>(convert 66 9 (.slice (some ⟨ib,0,none⟩) 32 32)).run Tryz.prog w'= .ok (.string X1) w')) (by kernel_rfl) (CV.out _ (bK _ W7).drew) (fun zs=>?_);refine' tk 1 rfl zs ?_;refine' tk 4 rfl zs ?_;refine' tk 5 rfl zs ?_;refine wpAnyH_ready (rs:= [0,8]) (by kernel_rfl) (by simp) ?_;refine AllReadyH.cons rfl (fun K hK=>?_) (AllReadyH.cons rfl (fun K hK=>?_) AllReadyH.nil)
   ·
    go_simp;go_at_call 76;refine(zk _).mono ?_;rintro e x1 ⟨rfl,hB⟩;have Ul:=zh (((bK W7.heap.size W7).drew).trans (hB.mono ((bK W7.heap.size W7).drew).size));clear hB;go_wp2_with fail;refine hK.out _ _ (CV.out _ Ul.out) (fun zs=>?_);clear hK K;try simp only[sA,gA]
    refine wpAnyH_ready (rs:= [2,8]) (by kernel_rfl) (by simp) ?_;refine AllReadyH.cons rfl (fun K hK=>?_) (AllReadyH.cons rfl (fun K hK=>?_) AllReadyH.nil)
    ·
     go_simp;go_at_call 75;refine(agF.out _ (Ul.out)).mono ?_;rintro e x2 ⟨rfl,hB⟩;have Um:=zh ((Ul.out).trans (hB.mono (Ul.out).size));clear hB;go_wp2_with fail;refine hK.out _ _ (CV.out _ Um.out) (fun zs=>?_);clear hK K;try simp only[sA,gA]
     refine wpAnyH_ready (rs:= [3,8]) (by kernel_rfl) (by simp) ?_;refine AllReadyH.cons rfl (fun K hK=>?_) (AllReadyH.cons rfl (fun K hK=>?_) AllReadyH.nil)
     ·
      go_simp;go_at_call 77;refine(adX.out _ (Um.out)).mono ?_;rintro e x3 ⟨s3,k3,rfl,hS3,hB⟩;have Du:=zh hS3;clear hS3;have Un:=zh ((Um.out).trans (hB.mono (Um.out).size));clear hB;go_wp2_with fail;refine hK.out _ _ (CV.out _ Un.out) (fun zs=>?_);clear hK K;try simp only[sA,gA]
      refine wpAnyH_ready (rs:= [6,8]) (by kernel_rfl) (by simp) ?_;refine AllReadyH.cons rfl (fun K hK=>?_) (AllReadyH.cons rfl (fun K hK=>?_) AllReadyH.nil)
      ·
       go_simp;go_at_call 77;refine(aa1.out _ s3 k3 (Un.out) Du.out).mono ?_;rintro e x4 ⟨s4,k4,rfl,hS4,hB⟩;have Nb:=zh hS4;clear hS4;have Uo:=zh ((Un.out).trans (hB.mono (Un.out).size));clear hB;go_wp2_with fail;refine hK.out _ _ (CV.out _ Uo.out) (fun zs=>?_);clear hK K;try simp only[sA,gA]
       refine wpAnyH_ready (rs:= [7,8]) (by kernel_rfl) (by simp) ?_;refine AllReadyH.cons rfl (fun K hK=>?_) (AllReadyH.cons rfl (fun K hK=>?_) AllReadyH.nil)
       ·
        go_simp;go_at_call 78;refine(Uj.out _ s4 k4 (Uo.out) Nb.out).mono ?_;rintro e x5 ⟨rfl,hB⟩;have adY:=zh ((Uo.out).trans (hB.mono (Uo.out).size));clear hB;go_wp2_with fail;refine hK.out _ _ (CV.out _ adY.out) (fun zs=>?_);clear hK K;try simp only[sA,gA]
        refine td 8 rfl (fun K hK=>?_);go_simp;have hge:Hid (W7.heap.size<=(x5).heap.size):=(adY.out).size;have agG:=zh ((adY.out).alloc (adY.out).size (.cells z32 109));have ajr:=zh (ak.new (x5) 109 z32);refine hK.out _ _ (CV.out _ agG.out) (fun zs=>?_);clear hK K;try simp only[sA,gA]
        refine td 9 rfl (fun K hK=>?_);refine wp_store_mid 109 _ _ rfl ((x5).heap.size) 0 D2.toArray rfl rfl ?amS ?amT ?amU ?amV
        case amS=>exact aU (o:=0) (ajr.out) (by rw[mG,F7.out];exact aF _)
        case amT=>rw[mG,F7.out];exact jM
        case amU=>exact all_oneCell_toArray Uk.out
        case amV=>
        refine hK.out _ _ (CV.out _ (below_setCells hge.out _ 0 _ (agG.out))) (fun zs=>?_);clear hK K;try simp only[Act.put,zq]
        refine wZ (by kernel_rfl) ?_ _;clear zs;go_wp2_with fail;go_meet;exact⟨_,rfl,aW (ajr.out) D2 (by rw[F7.out];rfl),below_setCells hge.out _ 0 _ (agG.out)⟩
       ·
        go_simp;have hge:Hid (W7.heap.size<=(x4).heap.size):=(Uo.out).size;have adZ:=zh ((Uo.out).alloc (Uo.out).size (.cells z32 109));have ajs:=zh (ak.new (x4) 109 z32);refine hK.out _ _ (CV.out _ adZ.out) (fun zs=>?_);clear hK K;try simp only[sA,gA]
        refine td 7 rfl (fun K hK=>?_);go_simp;go_at_call 78;refine(Uj.out _ s4 k4 (adZ.out) Nb.out).mono ?_;rintro e x9 ⟨rfl,hB⟩;have agH:=zh ((adZ.out).trans (hB.mono (adZ.out).size));have ajt:=zh ((ajs.out).below hB (ajs.out).lt);clear hB;go_wp2_with fail;refine hK.out _ _ (CV.out _ agH.out) (fun zs=>?_);clear hK K;try simp only[sA,gA]
        refine td 9 rfl (fun K hK=>?_);refine wp_store_mid 109 _ _ rfl ((x4).heap.size) 0 D2.toArray rfl rfl ?aju ?ajv ?ajw ?ajx
        case aju=>exact aU (o:=0) (ajt.out) (by rw[mG,F7.out];exact aF _)
        case ajv=>rw[mG,F7.out];exact jM
        case ajw=>exact all_oneCell_toArray Uk.out
        case ajx=>
        refine hK.out _ _ (CV.out _ (below_setCells hge.out _ 0 _ (agH.out))) (fun zs=>?_);clear hK K;try simp only[Act.put,zq]
        refine wZ (by kernel_rfl) ?_ _;clear zs;go_wp2_with fail;go_meet;exact⟨_,rfl,aW (ajt.out) D2 (by rw[F7.out];rfl),below_setCells hge.out _ 0 _ (agH.out)⟩
      ·
       go_simp;have hge:Hid (W7.heap.size<=(x3).heap.size):=(Un.out).size;have WV:=zh ((Un.out).alloc (Un.out).size (.cells z32 109));have afj:=zh (ak.new (x3) 109 z32);refine hK.out _ _ (CV.out _ WV.out) (fun zs=>?_);clear hK K;try simp only[sA,gA]
       refine td 6 rfl (fun K hK=>?_);go_simp;go_at_call 77;refine(aa1.out _ s3 k3 (WV.out) Du.out).mono ?_;rintro e x12 ⟨s4,k4,rfl,hS4,hB⟩;have Nb:=zh hS4;clear hS4;have WW:=zh ((WV.out).trans (hB.mono (WV.out).size));have afk:=zh ((afj.out).below hB (afj.out).lt);clear hB;go_wp2_with fail;refine hK.out _ _ (CV.out _ WW.out) (fun zs=>?_);clear hK K;try simp only[sA,gA]
       refine td 7 rfl (fun K hK=>?_);go_simp;go_at_call 78;refine(Uj.out _ s4 k4 (WW.out) Nb.out).mono ?_;rintro e x13 ⟨rfl,hB⟩;have aa2:=zh ((WW.out).trans (hB.mono (WW.out).size));have afl:=zh ((afk.out).below hB (afk.out).lt);clear hB;go_wp2_with fail;refine hK.out _ _ (CV.out _ aa2.out) (fun zs=>?_);clear hK K;try simp only[sA,gA]
       refine td 9 rfl (fun K hK=>?_);refine wp_store_mid 109 _ _ rfl ((x3).heap.size) 0 D2.toArray rfl rfl ?ajy ?ajz ?ajA ?ajB
       case ajy=>exact aU (o:=0) (afl.out) (by rw[mG,F7.out];exact aF _)
       case ajz=>rw[mG,F7.out];exact jM
       case ajA=>exact all_oneCell_toArray Uk.out
       case ajB=>
       refine hK.out _ _ (CV.out _ (below_setCells hge.out _ 0 _ (aa2.out))) (fun zs=>?_);clear hK K;try simp only[Act.put,zq]
       refine wZ (by kernel_rfl) ?_ _;clear zs;go_wp2_with fail;go_meet;exact⟨_,rfl,aW (afl.out) D2 (by rw[F7.out];rfl),below_setCells hge.out _ 0 _ (aa2.out)⟩
     ·
      go_simp;have hge:Hid (W7.heap.size<=(x2).heap.size):=(Um.out).size;have WX:=zh ((Um.out).alloc (Um.out).size (.cells z32 109));have afm:=zh (ak.new (x2) 109 z32);refine hK.out _ _ (CV.out _ WX.out) (fun zs=>?_);clear hK K;try simp only[sA,gA]
      refine td 3 rfl (fun K hK=>?_);go_simp;go_at_call 77;refine(adX.out _ (WX.out)).mono ?_;rintro e x16 ⟨s3,k3,rfl,hS3,hB⟩;have Du:=zh hS3;clear hS3;have WY:=zh ((WX.out).trans (hB.mono (WX.out).size));have afn:=zh ((afm.out).below hB (afm.out).lt);clear hB;go_wp2_with fail;refine hK.out _ _ (CV.out _ WY.out) (fun zs=>?_);clear hK K;try simp only[sA,gA]
      refine td 6 rfl (fun K hK=>?_);go_simp;go_at_call 77;refine(aa1.out _ s3 k3 (WY.out) Du.out).mono ?_;rintro e x17 ⟨s4,k4,rfl,hS4,hB⟩;have Nb:=zh hS4;clear hS4;have WZ:=zh ((WY.out).trans (hB.mono (WY.out).size));have afo:=zh ((afn.out).below hB (afn.out).lt);clear hB;go_wp2_with fail;refine hK.out _ _ (CV.out _ WZ.out) (fun zs=>?_);clear hK K;try simp only[sA,gA]
      refine td 7 rfl (fun K hK=>?_);go_simp;go_at_call 78;refine(Uj.out _ s4 k4 (WZ.out) Nb.out).mono ?_;rintro e x18 ⟨rfl,hB⟩;have aa3:=zh ((WZ.out).trans (hB.mono (WZ.out).size));have afp:=zh ((afo.out).below hB (afo.out).lt);clear hB;go_wp2_with fail;refine hK.out _ _ (CV.out _ aa3.out) (fun zs=>?_);clear hK K;try simp only[sA,gA]
      refine td 9 rfl (fun K hK=>?_);refine wp_store_mid 109 _ _ rfl ((x2).heap.size) 0 D2.toArray rfl rfl ?ajC ?ajD ?ajE ?ajF
      case ajC=>exact aU (o:=0) (afp.out) (by rw[mG,F7.out];exact aF _)
      case ajD=>rw[mG,F7.out];exact jM
      case ajE=>exact all_oneCell_toArray Uk.out
      case ajF=>
      refine hK.out _ _ (CV.out _ (below_setCells hge.out _ 0 _ (aa3.out))) (fun zs=>?_);clear hK K;try simp only[Act.put,zq]
      refine wZ (by kernel_rfl) ?_ _;clear zs;go_wp2_with fail;go_meet;exact⟨_,rfl,aW (afp.out) D2 (by rw[F7.out];rfl),below_setCells hge.out _ 0 _ (aa3.out)⟩
    ·
     go_simp;have hge:Hid (W7.heap.size<=(x1).heap.size):=(Ul.out).size;have Xa:=zh ((Ul.out).alloc (Ul.out).size (.cells z32 109));have afq:=zh (ak.new (x1) 109 z32);refine hK.out _ _ (CV.out _ Xa.out) (fun zs=>?_);clear hK K;try simp only[sA,gA]
     refine td 2 rfl (fun K hK=>?_);go_simp;go_at_call 75;refine(agF.out _ (Xa.out)).mono ?_;rintro e x21 ⟨rfl,hB⟩;have Xb:=zh ((Xa.out).trans (hB.mono (Xa.out).size));have afr:=zh ((afq.out).below hB (afq.out).lt);clear hB;go_wp2_with fail;refine hK.out _ _ (CV.out _ Xb.out) (fun zs=>?_);clear hK K;try simp only[sA,gA]
     refine td 3 rfl (fun K hK=>?_);go_simp;go_at_call 77;refine(adX.out _ (Xb.out)).mono ?_;rintro e x22 ⟨s3,k3,rfl,hS3,hB⟩;have Du:=zh hS3;clear hS3;have Xc:=zh ((Xb.out).trans (hB.mono (Xb.out).size));have afs:=zh ((afr.out).below hB (afr.out).lt);clear hB;go_wp2_with fail;refine hK.out _ _ (CV.out _ Xc.out) (fun zs=>?_);clear hK K;try simp only[sA,gA]
     refine td 6 rfl (fun K hK=>?_);go_simp;go_at_call 77;refine(aa1.out _ s3 k3 (Xc.out) Du.out).mono ?_;rintro e x23 ⟨s4,k4,rfl,hS4,hB⟩;have Nb:=zh hS4;clear hS4;have Xd:=zh ((Xc.out).trans (hB.mono (Xc.out).size));have aft:=zh ((afs.out).below hB (afs.out).lt);clear hB;go_wp2_with fail;refine hK.out _ _ (CV.out _ Xd.out) (fun zs=>?_);clear hK K;try simp only[sA,gA]
     refine td 7 rfl (fun K hK=>?_);go_simp;go_at_call 78;refine(Uj.out _ s4 k4 (Xd.out) Nb.out).mono ?_;rintro e x24 ⟨rfl,hB⟩;have aa4:=zh ((Xd.out).trans (hB.mono (Xd.out).size));have afu:=zh ((aft.out).below hB (aft.out).lt);clear hB;go_wp2_with fail;refine hK.out _ _ (CV.out _ aa4.out) (fun zs=>?_);clear hK K;try simp only[sA,gA]
     refine td 9 rfl (fun K hK=>?_);refine wp_store_mid 109 _ _ rfl ((x1).heap.size) 0 D2.toArray rfl rfl ?ajG ?ajH ?ajI ?ajJ
     case ajG=>exact aU (o:=0) (afu.out) (by rw[mG,F7.out];exact aF _)
     case ajH=>rw[mG,F7.out];exact jM
     case ajI=>exact all_oneCell_toArray Uk.out
     case ajJ=>
     refine hK.out _ _ (CV.out _ (below_setCells hge.out _ 0 _ (aa4.out))) (fun zs=>?_);clear hK K;try simp only[Act.put,zq]
     refine wZ (by kernel_rfl) ?_ _;clear zs;go_wp2_with fail;go_meet;exact⟨_,rfl,aW (afu.out) D2 (by rw[F7.out];rfl),below_setCells hge.out _ 0 _ (aa4.out)⟩
   ·
    go_simp;have hge:Hid (W7.heap.size<=(W7.drew).heap.size):=((bK W7.heap.size W7).drew).size;have aa5:=zh (((bK W7.heap.size W7).drew).alloc ((bK W7.heap.size W7).drew).size (.cells z32 109));have afv:=zh (ak.new (W7.drew) 109 z32);refine hK.out _ _ (CV.out _ aa5.out) (fun zs=>?_);clear hK K;try simp only[sA,gA]
    refine td 0 rfl (fun K hK=>?_);go_simp;go_at_call 76;refine(zk _).mono ?_;rintro e x27 ⟨rfl,hB⟩;have Xe:=zh ((aa5.out).trans (hB.mono (aa5.out).size));have afw:=zh ((afv.out).below hB (afv.out).lt);clear hB;go_wp2_with fail;refine hK.out _ _ (CV.out _ Xe.out) (fun zs=>?_);clear hK K;try simp only[sA,gA]
    refine td 2 rfl (fun K hK=>?_);go_simp;go_at_call 75;refine(agF.out _ (Xe.out)).mono ?_;rintro e x28 ⟨rfl,hB⟩;have Xf:=zh ((Xe.out).trans (hB.mono (Xe.out).size));have afx:=zh ((afw.out).below hB (afw.out).lt);clear hB;go_wp2_with fail;refine hK.out _ _ (CV.out _ Xf.out) (fun zs=>?_);clear hK K;try simp only[sA,gA]
    refine td 3 rfl (fun K hK=>?_);go_simp;go_at_call 77;refine(adX.out _ (Xf.out)).mono ?_;rintro e x29 ⟨s3,k3,rfl,hS3,hB⟩;have Du:=zh hS3;clear hS3;have Xg:=zh ((Xf.out).trans (hB.mono (Xf.out).size));have afy:=zh ((afx.out).below hB (afx.out).lt);clear hB;go_wp2_with fail;refine hK.out _ _ (CV.out _ Xg.out) (fun zs=>?_);clear hK K;try simp only[sA,gA]
    refine td 6 rfl (fun K hK=>?_);go_simp;go_at_call 77;refine(aa1.out _ s3 k3 (Xg.out) Du.out).mono ?_;rintro e x30 ⟨s4,k4,rfl,hS4,hB⟩;have Nb:=zh hS4;clear hS4;have Xh:=zh ((Xg.out).trans (hB.mono (Xg.out).size));have afz:=zh ((afy.out).below hB (afy.out).lt);clear hB;go_wp2_with fail;refine hK.out _ _ (CV.out _ Xh.out) (fun zs=>?_);clear hK K;try simp only[sA,gA]
    refine td 7 rfl (fun K hK=>?_);go_simp;go_at_call 78;refine(Uj.out _ s4 k4 (Xh.out) Nb.out).mono ?_;rintro e x31 ⟨rfl,hB⟩;have aa6:=zh ((Xh.out).trans (hB.mono (Xh.out).size));have afA:=zh ((afz.out).below hB (afz.out).lt);clear hB;go_wp2_with fail;refine hK.out _ _ (CV.out _ aa6.out) (fun zs=>?_);clear hK K;try simp only[sA,gA]
    refine td 9 rfl (fun K hK=>?_);refine wp_store_mid 109 _ _ rfl ((W7.drew).heap.size) 0 D2.toArray rfl rfl ?ajK ?ajL ?ajM ?ajN
    case ajK=>exact aU (o:=0) (afA.out) (by rw[mG,F7.out];exact aF _)
    case ajL=>rw[mG,F7.out];exact jM
    case ajM=>exact all_oneCell_toArray Uk.out
    case ajN=>
    refine hK.out _ _ (CV.out _ (below_setCells hge.out _ 0 _ (aa6.out))) (fun zs=>?_);clear hK K;try simp only[Act.put,zq]
    refine wZ (by kernel_rfl) ?_ _;clear zs;go_wp2_with fail;go_meet;exact⟨_,rfl,aW (afA.out) D2 (by rw[F7.out];rfl),below_setCells hge.out _ 0 _ (aa6.out)⟩
  case rest=>
  obtain⟨ob,rfl,hOB,ajO⟩:=hcut;have hcv:(convert 66 9 (.slice (some ⟨ob,0,none⟩) 32 32)).run Tryz.prog wc= .ok (.string (txt (gU M2))) wc:=by
   have h:=hOB.out;rw[<-amR.out] at h;have h2:=mM (c:=32) (zi h);rw[kC] at h2;exact h2
  go_wp2_with fail;go_ret;exact⟨by rw[<-hfin.out];rfl,WU.out.trans (ajO.out.mono WU.out.size)⟩
end
def uQ (n:Nat):Nat->Nat
 | 0=>0
 | j+1=>if 0<n/2^(8*j) then j+1 else uQ n j
theorem SK (n:Nat):∀ j,uQ n j<=j
 | 0=>aF _
 | j+1=>by
  unfold uQ;split
  ·exact aF _
  ·exact Nat.le_succ_of_le (SK n j)
def F8 (n:Nat):Nat:=uQ n 8
theorem NQ (n:Nat):F8 n<=8:=SK n 8
def zK (n k:Nat):List UInt8:=(List.range k).map fun i=>UInt8.ofNat (n/2^(8*(k-1-i)))
theorem Ho (n k:Nat):(zK n k).length=k:=by unfold zK;rw[lq,List.length_range]
theorem LD (n k t:Nat) (h:t<k):(zK n k).take (t+1)=(zK n k).take t++ [UInt8.ofNat (n/2^(8*(k-1-t)))]:=by
 rw[FD];unfold zK;rw[sD,List.getElem?_range h];rfl
def fK (n:Nat):List UInt8:=UInt8.ofNat (128+F8 n)::zK n (F8 n)
theorem adg (n:Nat):(fK n).length=F8 n+1:=by unfold fK;rw[AY,Ho]
theorem F6 (n:Nat):(fK n).length<=9:=by rw[adg];have:=NQ n;omega
def dB (b:List UInt8):List UInt8:=fK b.length++b
open Go.RowKit
section
variable {w:World} {o:Oper} {a:Act} {K:Act->World->Prop} {Q:Exit->Act->World->Prop}
theorem XL (d s:Operand) (ho:o.op= .call { callee:= .builtin .append,args:= #[d,s],argTypes:= #[66,66] }) (base:Nat) (v:Value) (l:List UInt8) (hd:a.eval d=v) (hrow:dD w base v l)
  (g off c:Nat) (m:List UInt8) (hs:a.eval s= .slice (some ⟨g,off,none⟩) m.length c) (hm:BytesAt w g off m) (hlen:l.length+m.length<100000000000) (hb:base<=w.heap.size)
  (h:∀ v' w',Pushed w w' base v v' (l++m)->K (a.put o.dst v') w'):o.wp Tryz.prog a w K Q:=by
 obtain⟨i0,hi,hz0,hz1,hz2⟩:=info_parts FQ;refine wp_append_own w d s 66 ho base 5 i0 (.int .u8 0) 1 1 Tryz.underlying66 hi hz0 hz1 hz2 rfl (by decide) v l.length (l.map aK) hd hrow ⟨g,off,none⟩ m.length c (m.map aK) hs (by simp) ?_ (kF _) (by unfold maxLen;omega) (by omega) hb ?_
 ·intro j u hj;rw[sD,Option.map_eq_some_iff] at hj;obtain⟨x,hx,rfl⟩:=hj;rw[show(⟨g,off,none⟩:Addr).add j=⟨g,off+j,none⟩ by simp[Addr.add]];exact hm.2 j x hx
 ·intro v' w' h1 h2 _;refine h v' w' (Dp hrow ?_ h2);unfold dD;rw[kM,Gh];exact h1
theorem Tj {w0:World} (d s:Operand) (ho:o.op= .call { callee:= .builtin .append,args:= #[d,s],argTypes:= #[66,66] }) (base:Nat) (v:Value) (l:List UInt8) (hd:a.eval d=v) (hrow:dD w0 base v l)
  (c:Nat) (x:UInt8) {val:Value} (hval:val=aK x) (hs:a.eval s= .slice (some ⟨w0.heap.size,0,none⟩) 1 c) (hlen:l.length<99999999999) (hb:base<=w0.heap.size)
  (h:∀ v' w',Pushed w0 w' base v v' (l++ [x])->K (a.put o.dst v') w'):o.wp Tryz.prog a (w0.alloc (.cells #[val] 5)) K Q:=by
 subst hval;refine XL d s ho base v l hd (hrow.alloc _) w0.heap.size 0 c [x] hs (uj (base:=w0.heap.size) w0 [x] (aF _) (by simp[maxLen])).nN ?_ ?_ ?_
 ·rw[show[x].length=1 from rfl];omega
 ·rw[oz];omega
 ·intro v' w' hP;refine h v' w' ⟨hP.row,?_,fun B w1 hB hb2 hBel=>hP.bel B w1 hB (by rw[oz];omega) (hBel.alloc (fU hB hb2) _)⟩;exact aZ (Ad ((bK _ w0).alloc (aF _) _) (aF _) v.ownBlock) hP.grown
end
end Go.Proofs.YtpghocekofdpbaaGreatDoor
