import Derived.Test.YtpghocekofdpbaaGreatDoorQr30
set_option maxRecDepth 100000
set_option maxHeartbeats 3200000
namespace Go.Proofs.YtpghocekofdpbaaGreatDoor
open Go.RowKit Go.Shelf
attribute [local go_sem] Oper.semAt_some
theorem ji (x y:ByteArray):bl (x++y)=bl x++bl y:=by
 unfold bl;rw[ByteArray.data_append,Array.toList_append]
theorem Ii (l:List UInt8) (n:Nat):(txt l).extract 0 n=txt (l.take n):=by
 rw[<-Aw ((txt l).extract 0 n)]
 congr 1
 unfold bl txt;rw[ByteArray.data_extract];simp
theorem QU (w:World) (key:ByteArray) (hk:key.size=32) (hK:lV w 1):
  Calls Tryz.prog 119 #[.string key] w fun e w'=>e= .returned (.tuple #[.string (txt (tX (bl key))),.string (txt (nZ (bl key))),.int .i64 0])/\Below w.heap.size w w':=by
 have H1:Hid (Calls Tryz.prog 41 #[.string key,.string ⟨#[101,110,99]⟩] w fun e w'=>e= .returned (.string (txt (tX (bl key))))/\Below w.heap.size w w'):=BI w key ⟨#[101,110,99]⟩ hK (by omega) (by decide);have H2:Hid (∀ wx,Below w.heap.size w wx->Calls Tryz.prog 41 #[.string key,.string ⟨#[109,97,99]⟩] wx fun e w'=>e= .returned (.string (txt (nZ (bl key))))/\Below wx.heap.size wx w'):=fun wx hB=>BI wx key ⟨#[109,97,99]⟩ (hK.below hB) (by omega) (by decide)
 clear hK;go_enter Tryz.func119,Tryz.ntmps119;go_wp2_with (first | (go_at_call_of 41 (Value.string ⟨#[101,110,99]⟩);refine H1.out.mono ?_;rintro e w1 ⟨rfl,hB1⟩;have HB1:=zh hB1;clear hB1) | (go_at_call_of 41 (Value.string ⟨#[109,97,99]⟩);refine(H2.out _ HB1.out).mono ?_;rintro e w2 ⟨rfl,hB2⟩;have HB2:=zh (HB1.out.trans (hB2.mono HB1.out.size));clear hB2) | fail)
 go_ret3
 exact⟨rfl,HB2.out⟩
theorem IG (w:World) (key:ByteArray) (n g k c:Nat) (l:List ByteArray) (hl:l.length=k) (h2:2<=k) (hkc:k<=c) (anF:k<=100) (hx:∀ x ∈ l,x.size<=2000000) (hA:sG w (some ⟨g,0,none⟩) l) (hn:n<=32) (hkey:key.size<10000000000) (hK:lV w 1):
  Calls Tryz.prog 121 #[.string key,.int .i64 n,.slice (some ⟨g,0,none⟩) k c] w fun e w'=>e= .returned (.string (txt ((nJ (bl key) (qh l)).take n)))/\Below w.heap.size w w':=by
 have HJ:=zh (aaz w g k c l hl h2 hkc anF hx hA);have hcl:=Pq l hx;have HM:Hid (∀ wx,Below w.heap.size w wx->Calls Tryz.prog 41 #[.string key,.string (txt (qh l))] wx fun e w'=>e= .returned (.string (txt (nJ (bl key) (qh l))))/\Below wx.heap.size wx w'):=fun wx hB=>
  BI wx key (txt (qh l)) (hK.below hB) hkey (by rw[fP];omega)
 have hms:Hid ((txt (nJ (bl key) (qh l))).size=32):=by unfold Hid;rw[fP,jK]
 have hxt:=zh (Ii (nJ (bl key) (qh l)) n);clear hx hA hK hcl;generalize txt (nJ (bl key) (qh l))=M at *;have n1:(0:Int)<=(n:Int):=by omega
 have n2:(n:Int)<=(M.size:Int):=by have:=hms.out;omega
 go_enter Tryz.func121,Tryz.ntmps121;go_wp2_with (first | (go_at_call 151;refine HJ.out.mono ?_;rintro e w1 ⟨rfl,hB1⟩;have HB1:=zh hB1;clear hB1) | (go_at_call 41;refine(HM.out _ HB1.out).mono ?_;rintro e w2 ⟨rfl,hB2⟩;have HB2:=zh (HB1.out.trans (hB2.mono HB1.out.size));clear hB2) | fail);go_ret;exact⟨by rw[<-hxt.out];rfl,HB2.out⟩
theorem LY (w:World) (l:List ByteArray):sG (w.alloc (.cells (l.map Value.string).toArray 9)) (some ⟨w.heap.size,0,none⟩) l:=by
 refine .inr ⟨w.heap.size,0,rfl,by rw[oz];exact Nat.lt_succ_self _,fun i x hx=>?_⟩;rw[(ak.new w 9 (l.map Value.string).toArray).cell,AZ,Ti,sD,hx];rfl
theorem afI (wx:World) (M a b c:ByteArray) (n:Nat) (hn:n<=32) (hK:lV wx 1) (hM:M.size<10000000000) (ha:a.size<=2000000) (hb:b.size<=2000000) (hc:c.size<=2000000):
  Calls Tryz.prog 121 #[.string M,.int .i64 n,.slice (some ⟨wx.heap.size,0,none⟩) 3 3] (wx.alloc (.cells #[.string a,.string b,.string c] 9)) fun e w'=>e= .returned (.string (txt ((nJ (bl M) (bl a++bl b++bl c)).take n)))/\Below wx.heap.size wx w':=by
 have hB:=(bK wx.heap.size wx).alloc (aF _) (.cells #[.string a,.string b,.string c] 9);have h:=IG (wx.alloc (.cells #[.string a,.string b,.string c] 9)) M n wx.heap.size 3 3 [a,b,c] rfl (by decide) (by decide) (by decide) (by intro x hx;simp at hx;rcases hx with rfl | rfl | rfl<;>assumption) (LY wx [a,b,c]) hn hM (hK.below hB);refine h.mono ?_;rintro e w' ⟨he,hB2⟩;refine⟨?_,hB.trans (hB2.mono hB.size)⟩;rw[he];unfold qh;simp[Em]
theorem afJ (wx:World) (M a b c d:ByteArray) (n:Nat) (hn:n<=32) (hK:lV wx 1) (hM:M.size<10000000000) (ha:a.size<=2000000) (hb:b.size<=2000000) (hc:c.size<=2000000) (hd:d.size<=2000000):
  Calls Tryz.prog 121 #[.string M,.int .i64 n,.slice (some ⟨wx.heap.size,0,none⟩) 4 4] (wx.alloc (.cells #[.string a,.string b,.string c,.string d] 9)) fun e w'=>e= .returned (.string (txt ((nJ (bl M) (bl a++bl b++bl c++bl d)).take n)))/\Below wx.heap.size wx w':=by
 have hB:=(bK wx.heap.size wx).alloc (aF _) (.cells #[.string a,.string b,.string c,.string d] 9);have h:=IG (wx.alloc (.cells #[.string a,.string b,.string c,.string d] 9)) M n wx.heap.size 4 4 [a,b,c,d] rfl (by decide) (by decide) (by decide) (by intro x hx;simp at hx;rcases hx with rfl | rfl | rfl | rfl<;>assumption) (LY wx [a,b,c,d]) hn hM (hK.below hB);refine h.mono ?_;rintro e w' ⟨he,hB2⟩;refine⟨?_,hB.trans (hB2.mono hB.size)⟩;rw[he];unfold qh;simp[Em]
theorem QV (w:World) (key ad text:ByteArray) (hk:key.size=32) (had:ad.size<=1000000) (ht:text.size<=1000000) (hK:lV w 1):
  Calls Tryz.prog 84 #[.string key,.string ad,.string text] w fun e w'=>e= .returned (.tuple #[.string (txt (pX (bl key) (bl ad) (bl text))),.int .i64 0])/\Below w.heap.size w w':=by
 have wS:=zh (QU w key hk hK);obtain⟨E,hE⟩:∃ E,txt (tX (bl key))=E:=⟨_,rfl⟩;obtain⟨M,hM⟩:∃ M,txt (nZ (bl key))=M:=⟨_,rfl⟩;have YO:bl E=tX (bl key):=by rw[<-hE];rfl
 have YP:bl M=nZ (bl key):=by rw[<-hM];rfl
 have hEs:E.size=32:=by rw[<-aG,YO];exact jK _ _
 have hMs:M.size=32:=by rw[<-aG,YP];exact jK _ _
 rw[hE,hM] at wS;obtain⟨C,hC⟩:∃ C,txt (dB (bl ad))=C:=⟨_,rfl⟩;have hCb:bl C=dB (bl ad):=by rw[<-hC];rfl
 have hCs:C.size<=1000009:=by rw[<-aG,hCb];have:=jg (bl ad);rw[aG] at this;omega
 obtain⟨N,hN⟩:∃ N,txt (gW (bl M) (bl ad) (bl text))=N:=⟨_,rfl⟩;have hNb:bl N=gW (bl M) (bl ad) (bl text):=by rw[<-hN];rfl
 have hNs:N.size=12:=by rw[<-aG,hNb];exact AO _ _ _
 obtain⟨X,hX⟩:∃ X,txt (lS (bl E) 1 (bl N) (bl text))=X:=⟨_,rfl⟩;have Gf:bl X=lS (bl E) 1 (bl N) (bl text):=by rw[<-hX];rfl
 have UE:X.size<=1000000:=by rw[<-aG,Gf,lW,aG];exact ht
 obtain⟨T,hT⟩:∃ T,txt (tY (bl M) (bl N) (bl ad) (bl X))=T:=⟨_,rfl⟩;have hTb:bl T=tY (bl M) (bl N) (bl ad) (bl X):=by rw[<-hT];rfl
 have z1:N.size<=12:=by omega
 have z2:T.size<=16:=by rw[<-aG,hTb,QT];exact aF _
 have hfin:Hid (N++X++T=txt (pX (bl key) (bl ad) (bl text))):=by
  unfold Hid;rw[<-Aw (N++X++T),ji,ji,hTb,Gf,hNb,YO,YP];rfl
 have HBY:Hid (∀ wx,Calls Tryz.prog 120 #[.string ad] wx fun e w'=>∃ v,e= .returned v/\(convert 66 9 v).run Tryz.prog w'= .ok (.string C) w'/\Below wx.heap.size wx w'):=fun wx=>by
  refine(y8 wx ad (by omega)).mono ?_;rintro e w' ⟨v,rfl,hR,hB⟩;exact⟨v,rfl,by rw[<-hC];exact jk hR,hB⟩
 have HC1:Hid (∀ wx,Below w.heap.size w wx->Calls Tryz.prog 121 #[.string M,.int .i64 12,.slice (some ⟨wx.heap.size,0,none⟩) 3 3] (wx.alloc (.cells #[.string ⟨#[110,111,110,99,101]⟩,.string C,.string text] 9)) fun e w'=>e= .returned (.string N)/\Below wx.heap.size wx w'):=fun wx hB=>by
  have h:=afI wx M ⟨#[110,111,110,99,101]⟩ C text 12 (by decide) (hK.below hB) (by omega) (by decide) (by omega) (by omega);rw[hCb] at h;rw[<-hN];exact h
 have HX1:Hid (∀ wx,Calls Tryz.prog 122 #[.string E,.int .u32 1,.string N,.string text] wx fun e w'=>e= .returned (.tuple #[.string X,.int .i64 0])/\Below wx.heap.size wx w'):=fun wx=>by
  have h:=V5 wx E N text 1 hEs hNs (by omega);rw[hX] at h;exact h
 have HC2:Hid (∀ wx,Below w.heap.size w wx->Calls Tryz.prog 121 #[.string M,.int .i64 16,.slice (some ⟨wx.heap.size,0,none⟩) 4 4] (wx.alloc (.cells #[.string ⟨#[116,97,103]⟩,.string N,.string C,.string X] 9)) fun e w'=>e= .returned (.string T)/\Below wx.heap.size wx w'):=fun wx hB=>by
  have h:=afJ wx M ⟨#[116,97,103]⟩ N C X 16 (by decide) (hK.below hB) (by omega) (by decide) (by omega) (by omega) (by omega);rw[hCb] at h;rw[<-hT];exact h
 have a1:decide ((1048576:Int)<(ad.size:Int))=false:=dF (by omega);have a2:decide ((1048576:Int)<(text.size:Int))=false:=dF (by omega);have a3:decide (1048576<ad.size)=false:=dF (by omega);have a4:decide (1048576<text.size)=false:=dF (by omega);clear hE hM hC hN hX hT YO YP hCb hNb Gf hTb hEs hMs hCs hNs hK;go_enter Tryz.func84,Tryz.ntmps84;go_wp2_with (first
  | (go_at_call 119;refine wS.out.mono ?_;rintro e w1 ⟨rfl,hB⟩;have HB1:=zh hB;clear hB)
  | (go_at_call 120;refine(HBY.out _).mono ?_;rintro e w2 ⟨v2,rfl,hcv2,hB⟩;have HB2:=zh (HB1.out.trans (hB.mono HB1.out.size));clear hB)
  | (go_at_call_of 121 (Value.int IntKind.i64 16);refine(HC2.out _ HB4.out).mono ?_;rintro e w5 ⟨rfl,hB⟩;have uh:=zh (HB4.out.trans (hB.mono HB4.out.size));clear hB)
  | (go_at_call 122;refine(HX1.out _).mono ?_;rintro e w4 ⟨rfl,hB⟩;have HB4:=zh (HB3.out.trans (hB.mono HB3.out.size));clear hB)
  | (go_at_call_of 121 (Value.int IntKind.i64 12);refine(HC1.out _ HB2.out).mono ?_;rintro e w3 ⟨rfl,hB⟩;have HB3:=zh (HB2.out.trans (hB.mono HB2.out.size));clear hB)
  | fail)
 go_ret2;exact⟨by rw[<-hfin.out];rfl,uh.out⟩
theorem NU (y:ByteArray) (a b:Nat) (_hb:b<=y.size):bl (y.extract a b)=((bl y).drop a).take (b-a):=by
 unfold bl;rw[ByteArray.data_extract,Array.toList_extract,List.extract_eq_take_drop]
theorem yw {x y:ByteArray} (h:bl x=bl y):x=y:=ByteArray.ext (Array.ext' h)
theorem Ih (k ad b:List UInt8) (E M G V N X T Y:ByteArray) (h28:¬ b.length<28) (hE:bl E=tX k) (hM:bl M=nZ k) (hN:bl N=b.take 12) (hX:bl X=(b.drop 12).take (b.length-28)) (hT:bl T=b.drop (b.length-16))
  (hG:txt (tY (bl M) (bl N) ad (bl X))=G) (hY:txt (lS (bl E) 1 (bl N) (bl X))=Y) (hV:txt (gW (bl M) ad (bl Y))=V):
  dw k ad b=if G=T then (if V=N then (bl Y,0) else ([],8)) else ([],8):=by
 have hYb:bl Y=lS (bl E) 1 (bl N) (bl X):=by rw[<-hY,lU]
 have hGb:bl G=tY (bl M) (bl N) ad (bl X):=by rw[<-hG,lU]
 have hVb:bl V=gW (bl M) ad (bl Y):=by rw[<-hV,lU]
 unfold dw;rw[if_neg h28];simp only;rw[<-hT,<-hX,<-hN,<-hE,<-hM,<-hYb,<-hGb,<-hVb];have e1:(bl G=bl T)=(G=T):=propext ⟨yw,fun h=>congrArg bl h⟩;have e2:(bl V=bl N)=(V=N):=propext ⟨yw,fun h=>congrArg bl h⟩;simp only[e1,e2]
theorem open_any (w:World) (key ad blob:ByteArray) (hk:key.size=32) (had:ad.size<=1000000) (hb:blob.size<=1000000) (hK:lV w 1):
  Calls Tryz.prog 109 #[.string key,.string ad,.string blob] w fun e w'=>e= .returned (.tuple #[.string (txt (dw (bl key) (bl ad) (bl blob)).1),.int .i64 ((dw (bl key) (bl ad) (bl blob)).2:Nat)])/\Below w.heap.size w w':=by
 have wS:=zh (QU w key hk hK);obtain⟨E,hE⟩:∃ E,txt (tX (bl key))=E:=⟨_,rfl⟩;obtain⟨M,hM⟩:∃ M,txt (nZ (bl key))=M:=⟨_,rfl⟩;have YO:bl E=tX (bl key):=by rw[<-hE];rfl
 have YP:bl M=nZ (bl key):=by rw[<-hM];rfl
 have hEs:E.size=32:=by rw[<-aG,YO];exact jK _ _
 have hMs:M.size=32:=by rw[<-aG,YP];exact jK _ _
 rw[hE,hM] at wS;have a1:decide ((1048576:Int)<(ad.size:Int))=false:=dF (by omega);have a2:decide ((1048604:Int)<(blob.size:Int))=false:=dF (by omega);by_cases h28:blob.size<28
 ·have a5:decide ((blob.size:Int)<28)=true:=pW (by omega);have a6:decide (blob.size<28)=true:=pW h28;have hfin:Hid (dw (bl key) (bl ad) (bl blob)=([],5)):=by unfold Hid dw;rw[if_pos (by rw[aG];exact h28)]
  clear hE hM YO YP hEs hMs hK;go_enter Tryz.func109,Tryz.ntmps109;go_wp2_with (first | (go_at_call 119;refine wS.out.mono ?_;rintro e w1 ⟨rfl,hB⟩;have HB1:=zh hB;clear hB) | fail);go_ret2;exact⟨by rw[hfin.out];rfl,HB1.out⟩
 ·have a5:decide ((blob.size:Int)<28)=false:=dF (by omega);have a6:decide (blob.size<28)=false:=dF h28;obtain⟨C,hC⟩:∃ C,txt (dB (bl ad))=C:=⟨_,rfl⟩;have hCb:bl C=dB (bl ad):=by rw[<-hC];rfl
  have hCs:C.size<=1000009:=by rw[<-aG,hCb];have:=jg (bl ad);rw[aG] at this;omega
  obtain⟨D,hD⟩:∃ D,blob.size-16=D:=⟨_,rfl⟩;have d1:(blob.size:Int)-16=(D:Int):=by omega
  have d2:(12:Int)<=(D:Int):=by omega
  have d3:(D:Int)<=(blob.size:Int):=by omega
  have d4:(0:Int)<=(D:Int):=by omega
  have d5:(12:Int)<=(blob.size:Int):=by omega
  have hNb:bl (blob.extract 0 12)=(bl blob).take 12:=by rw[NU _ _ _ (by omega)];rfl
  have Gf:bl (blob.extract 12 D)=((bl blob).drop 12).take ((bl blob).length-28):=by rw[NU _ _ _ (by omega),aG,<-hD];congr 1
  have hTb:bl (blob.extract D blob.size)=(bl blob).drop ((bl blob).length-16):=by rw[jD _ _ (by omega),aG,<-hD]
  have hNs:(blob.extract 0 12).size=12:=by rw[<-aG,hNb,ou,aG];omega
  have UE:(blob.extract 12 D).size<=1000000:=by rw[<-aG,Gf,ou,aG];omega
  obtain⟨G,hG⟩:∃ G,txt (tY (bl M) (bl (blob.extract 0 12)) (bl ad) (bl (blob.extract 12 D)))=G:=⟨_,rfl⟩;obtain⟨Y,hY⟩:∃ Y,txt (lS (bl E) 1 (bl (blob.extract 0 12)) (bl (blob.extract 12 D)))=Y:=⟨_,rfl⟩;have hYs:Y.size<=1000000:=by rw[<-hY,fP,lW,aG];exact UE
  obtain⟨V,hV⟩:∃ V,txt (gW (bl M) (bl ad) (bl Y))=V:=⟨_,rfl⟩;have HBY:Hid (∀ wx,Calls Tryz.prog 120 #[.string ad] wx fun e w'=>∃ v,e= .returned v/\(convert 66 9 v).run Tryz.prog w'= .ok (.string C) w'/\Below wx.heap.size wx w'):=fun wx=>by
   refine(y8 wx ad (by omega)).mono ?_;rintro e w' ⟨v,rfl,hR,hB⟩;exact⟨v,rfl,by rw[<-hC];exact jk hR,hB⟩
  have HC1:Hid (∀ wx,Below w.heap.size w wx->Calls Tryz.prog 121 #[.string M,.int .i64 12,.slice (some ⟨wx.heap.size,0,none⟩) 3 3] (wx.alloc (.cells #[.string ⟨#[110,111,110,99,101]⟩,.string C,.string Y] 9)) fun e w'=>e= .returned (.string V)/\Below wx.heap.size wx w'):=fun wx hB=>by
   have h:=afI wx M ⟨#[110,111,110,99,101]⟩ C Y 12 (by decide) (hK.below hB) (by omega) (by decide) (by omega) (by omega);rw[hCb] at h;rw[<-hV];exact h
  have HX1:Hid (∀ wx,Calls Tryz.prog 122 #[.string E,.int .u32 1,.string (blob.extract 0 12),.string (blob.extract 12 D)] wx fun e w'=>e= .returned (.tuple #[.string Y,.int .i64 0])/\Below wx.heap.size wx w'):=fun wx=>by
   have h:=V5 wx E (blob.extract 0 12) (blob.extract 12 D) 1 hEs hNs (by omega);rw[hY] at h;exact h
  have HC2:Hid (∀ wx,Below w.heap.size w wx->Calls Tryz.prog 121 #[.string M,.int .i64 16,.slice (some ⟨wx.heap.size,0,none⟩) 4 4] (wx.alloc (.cells #[.string ⟨#[116,97,103]⟩,.string (blob.extract 0 12),.string C,.string (blob.extract 12 D)] 9)) fun e w'=>e= .returned (.string G)/\Below wx.heap.size wx w'):=fun wx hB=>by
   have h:=afJ wx M ⟨#[116,97,103]⟩ (blob.extract 0 12) C (blob.extract 12 D) 16 (by decide) (hK.below hB) (by omega) (by decide) (by omega) (by omega) (by omega);rw[hCb] at h;rw[<-hG];exact h
  have hO:Hid (dw (bl key) (bl ad) (bl blob)=if G=blob.extract D blob.size then (if V=blob.extract 0 12 then (bl Y,0) else ([],8)) else ([],8)):=
   Ih (bl key) (bl ad) (bl blob) E M G V (blob.extract 0 12) (blob.extract 12 D) (blob.extract D blob.size) Y (by rw[aG];exact h28) YO YP hNb Gf hTb hG hY hV
  have g1:∀ wx,(Instr.slice 9 (.string blob) (some (.int .i64 12)) (some (.int .i64 (D:Int))) none).run Tryz.prog wx= .ok (.string (blob.extract 12 D)) wx:=fun wx=>by
   simp[go_sem,d2,d3]
  clear hE hM hC hD hG hY hV YO YP hCb hNb Gf hTb hEs hMs hCs hNs UE hK hYs;go_enter Tryz.func109,Tryz.ntmps109;go_wp2_with (first
   | (go_at_call 119;refine wS.out.mono ?_;rintro e w1 ⟨rfl,hB⟩;have HB1:=zh hB;clear hB)
   | (go_at_call 120;refine(HBY.out _).mono ?_;rintro e w2 ⟨v2,rfl,hcv2,hB⟩;have HB2:=zh (HB1.out.trans (hB.mono HB1.out.size));clear hB)
   | fail)
  go_region
  go_wp2_with fail;refine yD (S:=(fun _=>True)) (by kernel_rfl) trivial (fun zs=>?_);refine' tk 0 rfl zs ?_;refine' tk 1 rfl zs ?_;refine' tk 2 rfl zs ?_;refine' tk 3 rfl zs ?_;refine' tk 6 rfl zs ?_;refine' tk 7 rfl zs ?_;refine' tk 8 rfl zs ?_;refine td 4 rfl (fun K hK=>?_);go_simp;refine hK.out _ _ (trivial) (fun zs=>?_);clear hK K;try simp only[sA,gA]
  refine td 5 rfl (fun K hK=>?_);go_simp;go_at_call 121;refine(HC2.out _ (by first | exact HB2.out.drew.drew | exact HB2.out.drew | exact HB2.out)).mono ?_;rintro e w9 ⟨rfl,oC⟩;have JC:=zh (HB2.out.drew.drew.trans (oC.mono HB2.out.size));clear oC;go_wp2_with fail;refine hK.out _ _ (trivial) (fun zs=>?_);clear hK K;try simp only[sA,gA]
  refine' tk 9 rfl zs ?_;refine wZ (by kernel_rfl) ?_ _;clear zs;by_cases SY:G=blob.extract D blob.size
  ·have t1:(!G.toList==(blob.extract D blob.size).toList)=false:=by rw[QW SY];rfl
   rw[if_pos SY] at hO;rw[t1];by_cases UG:V=blob.extract 0 12
   ·have t2:Hid ((!V.toList==(blob.extract 0 12).toList)=false):=by unfold Hid;exact(by rw[QW UG];rfl)
    rw[if_pos UG] at hO;have hOH:=zh hO;have hY:Hid (txt (bl Y)=Y):=Aw Y;clear SY UG hO;go_upto_if 71 with(first
    | (go_at_call 122;refine(HX1.out _).mono ?_;rintro e w10 ⟨rfl,hB⟩;have JZ:=zh (JC.out.trans (hB.mono JC.out.size));clear hB)
    | (go_at_call 121;refine(HC1.out _ JZ.out).mono ?_;rintro e ZU ⟨rfl,hB⟩;have QX:=zh (JZ.out.trans (hB.mono JZ.out.size));clear hB)
    | fail)
    rw[t2.out];go_wp2_with fail;go_ret2;exact⟨by rw[hOH.out.out];show _=Ending.returned (.tuple #[.string (txt (bl Y)),_]);rw[hY.out];rfl,QX.out⟩
   ·have t2:Hid ((!V.toList==(blob.extract 0 12).toList)=true):=by unfold Hid;exact(by rw[Xr UG];rfl)
    rw[if_neg UG] at hO;have hOH:=zh hO;clear SY UG hO;go_upto_if 71 with(first
    | (go_at_call 122;refine(HX1.out _).mono ?_;rintro e w10 ⟨rfl,hB⟩;have JZ:=zh (JC.out.trans (hB.mono JC.out.size));clear hB)
    | (go_at_call 121;refine(HC1.out _ JZ.out).mono ?_;rintro e ZU ⟨rfl,hB⟩;have QX:=zh (JZ.out.trans (hB.mono JZ.out.size));clear hB)
    | fail)
    rw[t2.out];go_wp2_with fail;go_ret2;exact⟨by rw[hOH.out.out];rfl,QX.out⟩
  ·have t1:(!G.toList==(blob.extract D blob.size).toList)=true:=by rw[Xr SY];rfl
   rw[if_neg SY] at hO;rw[t1];have hOH:=zh hO;clear SY hO;go_wp2_with fail;go_ret2;exact⟨by rw[hOH.out.out];rfl,JC.out⟩
end Go.Proofs.YtpghocekofdpbaaGreatDoor
