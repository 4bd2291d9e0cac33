import Derived.Test.YtpghocekofdpbaaGreatDoorQr48
import Derived.Test.YtpghocekofdpbaaGreatDoorQr33
import Derived.Test.YtpghocekofdpbaaGreatDoorQr32
set_option maxRecDepth 100000
set_option maxHeartbeats 3200000
namespace Go.Proofs.YtpghocekofdpbaaGreatDoor
open Go.RowKit Go.Shelf
attribute [local go_sem] Oper.semAt_some
theorem QF {fn:Func} {t u v:Tmp} (h:fn.results= #[.tmp t,.tmp u,.tmp v]) (tmps:Array Value) (P:Program) (w:World):
  (results fn tmps).run P w= .ok (.tuple #[tmps.getD t undef,tmps.getD u undef,tmps.getD v undef]) w:=by
 simp[results,h]
theorem YN (w:World) (key:ByteArray) (hk:key.size=32) (hK:lV w 0):
  Calls Tryz.prog 166 #[.string key] w fun e w'=>e= .returned (.tuple #[.string (txt (tX (bl key))),.string (txt (nZ (bl key))),.int .i64 0])/\Below w.heap.size w w':=by
 have H1:Hid (∀ wx,Below w.heap.size w wx->Calls Tryz.prog 44 #[.string key,.string ⟨#[101,110,99]⟩] wx fun e w'=>e= .returned (.string (txt (tX (bl key))))/\Below wx.heap.size wx w'):=fun wx hB=>yh wx key ⟨#[101,110,99]⟩ (by omega) (by decide) (hK.below hB)
 have H2:Hid (∀ wx,Below w.heap.size w wx->Calls Tryz.prog 44 #[.string key,.string ⟨#[109,97,99]⟩] wx fun e w'=>e= .returned (.string (txt (nZ (bl key))))/\Below wx.heap.size wx w'):=fun wx hB=>yh wx key ⟨#[109,97,99]⟩ (by omega) (by decide) (hK.below hB)
 generalize txt (tX (bl key))=A at *;generalize txt (nZ (bl key))=B at *;have t1:((key.size:Int) !=32)=false:=by rw[hk];rfl
 clear hK hk;go_enter Tryz.func166,Tryz.ntmps166;go_wp2_with (first
  | (go_at_call 44;have hm:=HB1;clear hm;refine(H2.out _ HB1.out).mono ?_;rintro e w2 ⟨rfl,hB⟩;have HB2:=zh (HB1.out.trans (hB.mono HB1.out.size));clear hB)
  | (go_at_call 44;refine(H1.out _ (bK _ _)).mono ?_;rintro e w1 ⟨rfl,hB⟩;have HB1:=zh hB;clear hB)
  | fail)
 exact bU (QF rfl _ _ _) rfl ⟨rfl,HB2.out⟩
theorem UF (w:World) (m ad t:ByteArray) (hm:m.size<1000000) (ha:ad.size<=1000000) (ht:t.size<=10000000) (hK:lV w 0):
  Calls Tryz.prog 169 #[.string m,.string ad,.string t] w fun e w'=>e= .returned (.string (txt (gW (bl m) (bl ad) (bl t))))/\Below w.heap.size w w':=by
 have l2:=jg (bl ad);rw[aG] at l2;obtain⟨X,hX⟩:∃ X,txt (dB (bl ad))=X:=⟨_,rfl⟩;have Gf:bl X=dB (bl ad):=by rw[<-hX];rfl
 have UE:X.size<=1000009:=by rw[<-aG,Gf];omega
 have HY:Hid (Calls Tryz.prog 182 #[.string ad] w fun e w'=>∃ v,e= .returned v/\(convert 66 9 v).run Tryz.prog w'= .ok (.string X) w'/\Below w.heap.size w w'):=by
  refine(wu w ad (by omega)).mono ?_;rintro e w' ⟨v,rfl,hR,hB⟩;exact⟨v,rfl,by rw[<-hX];exact jk hR,hB⟩
 have a1:∀ wx,(Op.stringOp .add ⟨#[110,111,110,99,101]⟩ X).run Tryz.prog wx= .ok (.string (⟨#[110,111,110,99,101]⟩++X)) wx:=fun wx=>run_string_add_sum wx _ _ (by show 5+X.size<=_;omega)
 obtain⟨U1,hU1⟩:∃ U:ByteArray,⟨#[110,111,110,99,101]⟩++X=U:=⟨_,rfl⟩;rw[hU1] at a1;have UH:bl U1= [110,111,110,99,101]++dB (bl ad):=by rw[<-hU1,ji,Gf];rfl
 have agX:U1.size<=1000014:=by
  rw[<-aG,UH];simp only[kM,AY,zag];omega
 have a2:∀ wx,(Op.stringOp .add U1 t).run Tryz.prog wx= .ok (.string (U1++t)) wx:=fun wx=>run_string_add_sum wx _ _ (by omega)
 obtain⟨U,hU⟩:∃ U:ByteArray,U1++t=U:=⟨_,rfl⟩;rw[hU] at a2;have hUb:bl U= [110,111,110,99,101]++dB (bl ad)++bl t:=by rw[<-hU,ji,UH]
 have hUs:U.size<100000000:=by
  rw[<-aG,hUb];simp only[kM,AY,zag];rw[aG];omega
 have HM:Hid (∀ wx,Below w.heap.size w wx->Calls Tryz.prog 44 #[.string m,.string U] wx fun e w'=>e= .returned (.string (txt (nJ (bl m) (bl U))))/\Below wx.heap.size wx w'):=fun wx hB=>yh wx m U (by omega) (by omega) (hK.below hB)
 have hms:Hid ((txt (nJ (bl m) (bl U))).size=32):=by unfold Hid;rw[fP,jK]
 have hxt:Hid ((txt (nJ (bl m) (bl U))).extract 0 12=txt (gW (bl m) (bl ad) (bl t))):=by
  have h:=Ii (nJ (bl m) (bl U)) 12;unfold Hid gW;rw[<-hUb];exact h
 generalize txt (nJ (bl m) (bl U))=M at *;have n2:(12:Int)<=(M.size:Int):=by have:=hms.out;omega
 clear hX Gf UE hU1 UH agX hU hUb hUs hms l2 hm ha ht hK;go_enter Tryz.func169,Tryz.ntmps169;go_wp2_with (first
  | (go_at_call 182;refine HY.out.mono ?_;rintro e w1 ⟨v1,rfl,hcv,hB⟩;have HB1:=zh hB;clear hB)
  | (go_at_call 44;refine(HM.out _ HB1.out).mono ?_;rintro e w2 ⟨rfl,hB⟩;have HB2:=zh (HB1.out.trans (hB.mono HB1.out.size));clear hB)
  | fail)
 go_ret;exact⟨by rw[<-hxt.out];rfl,HB2.out⟩
theorem abw (w:World) (m n ad c:ByteArray) (hm:m.size<1000000) (hn:n.size<=1000) (ha:ad.size<=1000000) (hc:c.size<=10000000) (hK:lV w 0):
  Calls Tryz.prog 167 #[.string m,.string n,.string ad,.string c] w fun e w'=>e= .returned (.string (txt (tY (bl m) (bl n) (bl ad) (bl c))))/\Below w.heap.size w w':=by
 have l2:=jg (bl ad);rw[aG] at l2;obtain⟨X,hX⟩:∃ X,txt (dB (bl ad))=X:=⟨_,rfl⟩;have Gf:bl X=dB (bl ad):=by rw[<-hX];rfl
 have UE:X.size<=1000009:=by rw[<-aG,Gf];omega
 have HY:Hid (Calls Tryz.prog 182 #[.string ad] w fun e w'=>∃ v,e= .returned v/\(convert 66 9 v).run Tryz.prog w'= .ok (.string X) w'/\Below w.heap.size w w'):=by
  refine(wu w ad (by omega)).mono ?_;rintro e w' ⟨v,rfl,hR,hB⟩;exact⟨v,rfl,by rw[<-hX];exact jk hR,hB⟩
 have a1:∀ wx,(Op.stringOp .add ⟨#[116,97,103]⟩ n).run Tryz.prog wx= .ok (.string (⟨#[116,97,103]⟩++n)) wx:=fun wx=>run_string_add_sum wx _ _ (by show 3+n.size<=_;omega)
 obtain⟨U1,hU1⟩:∃ U:ByteArray,⟨#[116,97,103]⟩++n=U:=⟨_,rfl⟩;rw[hU1] at a1;have UH:bl U1= [116,97,103]++bl n:=by rw[<-hU1,ji];rfl
 have agX:U1.size<=1003:=by
  rw[<-aG,UH];simp only[kM,AY,zag];rw[aG];omega
 have a2:∀ wx,(Op.stringOp .add U1 X).run Tryz.prog wx= .ok (.string (U1++X)) wx:=fun wx=>run_string_add_sum wx _ _ (by omega)
 obtain⟨U2,hU2⟩:∃ U:ByteArray,U1++X=U:=⟨_,rfl⟩;rw[hU2] at a2;have akk:bl U2= [116,97,103]++bl n++dB (bl ad):=by rw[<-hU2,ji,UH,Gf]
 have ant:U2.size<=1001015:=by
  rw[<-aG,<-hU2,ji,kM,aG,aG];omega
 have a3:∀ wx,(Op.stringOp .add U2 c).run Tryz.prog wx= .ok (.string (U2++c)) wx:=fun wx=>run_string_add_sum wx _ _ (by omega)
 obtain⟨U,hU⟩:∃ U:ByteArray,U2++c=U:=⟨_,rfl⟩;rw[hU] at a3;have hUb:bl U= [116,97,103]++bl n++dB (bl ad)++bl c:=by rw[<-hU,ji,akk]
 have hUs:U.size<100000000:=by
  rw[<-aG,hUb];simp only[kM,AY,zag];rw[aG,aG];omega
 have HM:Hid (∀ wx,Below w.heap.size w wx->Calls Tryz.prog 44 #[.string m,.string U] wx fun e w'=>e= .returned (.string (txt (nJ (bl m) (bl U))))/\Below wx.heap.size wx w'):=fun wx hB=>yh wx m U (by omega) (by omega) (hK.below hB)
 have hms:Hid ((txt (nJ (bl m) (bl U))).size=32):=by unfold Hid;rw[fP,jK]
 have hxt:Hid ((txt (nJ (bl m) (bl U))).extract 0 16=txt (tY (bl m) (bl n) (bl ad) (bl c))):=by
  have h:=Ii (nJ (bl m) (bl U)) 16;unfold Hid tY;rw[<-hUb];exact h
 generalize txt (nJ (bl m) (bl U))=M at *;have n2:(16:Int)<=(M.size:Int):=by have:=hms.out;omega
 clear hX Gf UE hU1 UH agX hU2 akk ant hU hUb hUs hms l2 hm hn ha hc hK;go_enter Tryz.func167,Tryz.ntmps167;go_wp2_with (first
  | (go_at_call 182;refine HY.out.mono ?_;rintro e w1 ⟨v1,rfl,hcv,hB⟩;have HB1:=zh hB;clear hB)
  | (go_at_call 44;refine(HM.out _ HB1.out).mono ?_;rintro e w2 ⟨rfl,hB⟩;have HB2:=zh (HB1.out.trans (hB.mono HB1.out.size));clear hB)
  | fail)
 go_ret;exact⟨by rw[<-hxt.out];rfl,HB2.out⟩
theorem DN (w:World) (key ad blob:ByteArray) (hk:key.size=32) (had:ad.size<=1000000) (hb:blob.size<=1000000) (hK:lV w 0):
  Calls Tryz.prog 144 #[.string key,.string ad,.string blob] w fun e w'=>e= .returned (.tuple #[.string (txt (dw (bl key) (bl ad) (bl blob)).1),.int .i64 ((dw (bl key) (bl ad) (bl blob)).2:Nat)])/\Below w.heap.size w w':=by
 have wS:=zh (YN w key hk hK);obtain⟨E,hE⟩:∃ E,txt (tX (bl key))=E:=⟨_,rfl⟩;obtain⟨M,hM⟩:∃ M,txt (nZ (bl key))=M:=⟨_,rfl⟩;have YO:bl E=tX (bl key):=by rw[<-hE];rfl
 have YP:bl M=nZ (bl key):=by rw[<-hM];rfl
 have hEs:E.size=32:=by rw[<-aG,YO];exact jK _ _
 have hMs:M.size=32:=by rw[<-aG,YP];exact jK _ _
 rw[hE,hM] at wS;have a1:decide ((1048576:Int)<(ad.size:Int))=false:=dF (by omega);have a2:decide ((1048604:Int)<(blob.size:Int))=false:=dF (by omega);by_cases h28:blob.size<28
 ·have a5:decide ((blob.size:Int)<28)=true:=pW (by omega);have a6:decide (blob.size<28)=true:=pW h28;have hfin:Hid (dw (bl key) (bl ad) (bl blob)=([],5)):=by unfold Hid dw;rw[if_pos (by rw[aG];exact h28)]
  clear hE hM YO YP hEs hMs hK;go_enter Tryz.func144,Tryz.ntmps144;go_wp2_with (first | (go_at_call 166;refine wS.out.mono ?_;rintro e w1 ⟨rfl,hB⟩;have HB1:=zh hB;clear hB) | fail);go_ret2;exact⟨by rw[hfin.out];rfl,HB1.out⟩
 ·have a5:decide ((blob.size:Int)<28)=false:=dF (by omega);have a6:decide (blob.size<28)=false:=dF h28;obtain⟨D,hD⟩:∃ D,blob.size-16=D:=⟨_,rfl⟩;have d1:(blob.size:Int)-16=(D:Int):=by omega
  have d2:(12:Int)<=(D:Int):=by omega
  have d3:(D:Int)<=(blob.size:Int):=by omega
  have d4:(0:Int)<=(D:Int):=by omega
  have d5:(12:Int)<=(blob.size:Int):=by omega
  have d6:IntKind.i64.wrap (D:Int)=(D:Int):=i64_is D (by omega);have hNb:bl (blob.extract 0 12)=(bl blob).take 12:=by rw[NU _ _ _ (by omega)];rfl
  have Gf:bl (blob.extract 12 D)=((bl blob).drop 12).take ((bl blob).length-28):=by rw[NU _ _ _ (by omega),aG,<-hD];congr 1
  have hTb:bl (blob.extract D blob.size)=(bl blob).drop ((bl blob).length-16):=by rw[jD _ _ (by omega),aG,<-hD]
  have hNs:(blob.extract 0 12).size=12:=by rw[<-aG,hNb,ou,aG];omega
  have UE:(blob.extract 12 D).size<=1000000:=by rw[<-aG,Gf,ou,aG];omega
  have g1:∀ wx,(Instr.slice 9 (.string blob) (some (.int .i64 12)) (some (.int .i64 (D:Int))) none).run Tryz.prog wx= .ok (.string (blob.extract 12 D)) wx:=fun wx=>by
   simp[go_sem,d2,d3]
  have g2:∀ wx,(Instr.slice 9 (.string blob) none (some (.int .i64 12)) none).run Tryz.prog wx= .ok (.string (blob.extract 0 12)) wx:=fun wx=>by
   simp[go_sem,d5]
  have g3:∀ wx,(Instr.slice 9 (.string blob) (some (.int .i64 (D:Int))) none none).run Tryz.prog wx= .ok (.string (blob.extract D blob.size)) wx:=fun wx=>by
   simp[go_sem,d3]
  obtain⟨N,hNe⟩:∃ N,blob.extract 0 12=N:=⟨_,rfl⟩;obtain⟨X,hXe⟩:∃ X,blob.extract 12 D=X:=⟨_,rfl⟩;obtain⟨TT,hTe⟩:∃ T,blob.extract D blob.size=T:=⟨_,rfl⟩;rw[hNe] at g2 hNb hNs;rw[hXe] at g1 Gf UE;rw[hTe] at g3 hTb;obtain⟨G,hG⟩:∃ G,txt (tY (bl M) (bl N) (bl ad) (bl X))=G:=⟨_,rfl⟩;obtain⟨Y,hY⟩:∃ Y,txt (lS (bl E) 1 (bl N) (bl X))=Y:=⟨_,rfl⟩;have hYs:Y.size<=1000000:=by rw[<-hY,fP,lW,aG];exact UE
  obtain⟨V,hV⟩:∃ V,txt (gW (bl M) (bl ad) (bl Y))=V:=⟨_,rfl⟩;have HN:Hid (∀ wx,Below w.heap.size w wx->Calls Tryz.prog 169 #[.string M,.string ad,.string Y] wx fun e w'=>e= .returned (.string V)/\Below wx.heap.size wx w'):=fun wx hB=>by
   have h:=UF wx M ad Y (by omega) (by omega) (by omega) (hK.below hB);rw[hV] at h;exact h
  have HX:Hid (∀ wx,Calls Tryz.prog 168 #[.string E,.int .u32 1,.string N,.string X] wx fun e w'=>e= .returned (.tuple #[.string Y,.int .i64 0])/\Below wx.heap.size wx w'):=fun wx=>by
   have h:=abv wx E N X 1 hEs hNs (by omega);rw[hY] at h;exact h
  have HT:Hid (∀ wx,Below w.heap.size w wx->Calls Tryz.prog 167 #[.string M,.string N,.string ad,.string X] wx fun e w'=>e= .returned (.string G)/\Below wx.heap.size wx w'):=fun wx hB=>by
   have h:=abw wx M N ad X (by omega) (by omega) (by omega) (by omega) (hK.below hB);rw[hG] at h;exact h
  have hO:Hid (dw (bl key) (bl ad) (bl blob)=if G=TT then (if V=N then (bl Y,0) else ([],8)) else ([],8)):=
   Ih (bl key) (bl ad) (bl blob) E M G V N X TT Y (by rw[aG];exact h28) YO YP hNb Gf hTb hG hY hV
  clear hE hM hD hG hY hV YO YP hNb Gf hTb hEs hMs hNs UE hK hYs hNe hXe hTe;by_cases SY:G=TT
  ·rw[if_pos SY] at hO;have e1:(TT.toList==G.toList)=true:=by rw[SY];exact kG _
   have e2:(TT.data.toList==G.data.toList)=true:=by rw[SY];exact kG _
   by_cases UG:V=N
   ·rw[if_pos UG] at hO;have f1:(V.toList==N.toList)=true:=by rw[UG];exact kG _
    have f2:(V.data.toList==N.data.toList)=true:=by rw[UG];exact kG _
    clear SY UG;go_enter Tryz.func144,Tryz.ntmps144;go_upto_region 10 with(first | (go_at_call 166;refine wS.out.mono ?_;rintro e w1 ⟨rfl,hB⟩;have HB1:=zh hB;clear hB) | fail);refine yD (S:=(fun _=>True)) (by kernel_rfl) trivial (fun zs=>?_);refine' tk 0 rfl zs ?_;refine' tk 1 rfl zs ?_;refine' tk 2 rfl zs ?_;refine' tk 3 rfl zs ?_;refine' tk 4 rfl zs ?_;refine' tk 5 rfl zs ?_;refine' tk 6 rfl zs ?_;refine' tk 7 rfl zs ?_;refine' tk 8 rfl zs ?_;refine td 9 rfl (fun K hK=>?_);go_simp;go_at_call 167;refine(HT.out _ HB1.out.drew).mono ?_;rintro e w3 ⟨rfl,hB⟩;have HB3:=zh (HB1.out.drew.trans (hB.mono HB1.out.size));clear hB;go_wp2_with fail;refine hK.out _ _ (trivial) (fun zs=>?_);clear hK K;try simp only[sA,gA]
    refine' tk 10 rfl zs ?_;refine wZ (by kernel_rfl) ?_ _;clear zs;go_wp2_with (first | (go_at_call 168;refine(HX.out _).mono ?_;rintro e w4 ⟨rfl,hB⟩;have HB4:=zh (HB3.out.trans (hB.mono HB3.out.size));clear hB) | (go_at_call 169;refine(HN.out _ HB4.out).mono ?_;rintro e w5 ⟨rfl,hB⟩;have uh:=zh (HB4.out.trans (hB.mono HB4.out.size));clear hB) | fail);go_ret2;exact⟨by rw[hO.out];exact congrArg (fun x=>Ending.returned (.tuple #[.string x,.int .i64 0])) (Aw Y).symm,uh.out⟩
   ·rw[if_neg UG] at hO;have f1:(V.toList==N.toList)=false:=jh UG;have f2:(V.data.toList==N.data.toList)=false:=Xk UG;clear SY UG;go_enter Tryz.func144,Tryz.ntmps144;go_upto_region 10 with(first | (go_at_call 166;refine wS.out.mono ?_;rintro e w1 ⟨rfl,hB⟩;have HB1:=zh hB;clear hB) | fail);refine yD (S:=(fun _=>True)) (by kernel_rfl) trivial (fun zs=>?_);refine' tk 0 rfl zs ?_;refine' tk 1 rfl zs ?_;refine' tk 2 rfl zs ?_;refine' tk 3 rfl zs ?_;refine' tk 4 rfl zs ?_;refine' tk 5 rfl zs ?_;refine' tk 6 rfl zs ?_;refine' tk 7 rfl zs ?_;refine' tk 8 rfl zs ?_;refine td 9 rfl (fun K hK=>?_);go_simp;go_at_call 167;refine(HT.out _ HB1.out.drew).mono ?_;rintro e w3 ⟨rfl,hB⟩;have HB3:=zh (HB1.out.drew.trans (hB.mono HB1.out.size));clear hB;go_wp2_with fail;refine hK.out _ _ (trivial) (fun zs=>?_);clear hK K;try simp only[sA,gA]
    refine' tk 10 rfl zs ?_;refine wZ (by kernel_rfl) ?_ _;clear zs;go_wp2_with (first | (go_at_call 168;refine(HX.out _).mono ?_;rintro e w4 ⟨rfl,hB⟩;have HB4:=zh (HB3.out.trans (hB.mono HB3.out.size));clear hB) | (go_at_call 169;refine(HN.out _ HB4.out).mono ?_;rintro e w5 ⟨rfl,hB⟩;have uh:=zh (HB4.out.trans (hB.mono HB4.out.size));clear hB) | fail);go_ret2;exact⟨by rw[hO.out];rfl,uh.out⟩
  ·rw[if_neg SY] at hO;have agV:¬ TT=G:=fun h=>SY h.symm
   have e1:(TT.toList==G.toList)=false:=jh agV;have e2:(TT.data.toList==G.data.toList)=false:=Xk agV;clear SY agV;go_enter Tryz.func144,Tryz.ntmps144;go_upto_region 10 with(first | (go_at_call 166;refine wS.out.mono ?_;rintro e w1 ⟨rfl,hB⟩;have HB1:=zh hB;clear hB) | fail);refine yD (S:=(fun _=>True)) (by kernel_rfl) trivial (fun zs=>?_);refine' tk 0 rfl zs ?_;refine' tk 1 rfl zs ?_;refine' tk 2 rfl zs ?_;refine' tk 3 rfl zs ?_;refine' tk 4 rfl zs ?_;refine' tk 5 rfl zs ?_;refine' tk 6 rfl zs ?_;refine' tk 7 rfl zs ?_;refine' tk 8 rfl zs ?_;refine td 9 rfl (fun K hK=>?_);go_simp;go_at_call 167;refine(HT.out _ HB1.out.drew).mono ?_;rintro e w3 ⟨rfl,hB⟩;have HB3:=zh (HB1.out.drew.trans (hB.mono HB1.out.size));clear hB;go_wp2_with fail;refine hK.out _ _ (trivial) (fun zs=>?_);clear hK K;try simp only[sA,gA]
   refine' tk 10 rfl zs ?_;refine wZ (by kernel_rfl) ?_ _;clear zs;go_wp2_with fail;go_ret2;exact⟨by rw[hO.out];rfl,HB3.out⟩
end Go.Proofs.YtpghocekofdpbaaGreatDoor
