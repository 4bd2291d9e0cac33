import Derived.Test.YtpghocekofdpbaaGreatDoorQr35
set_option maxRecDepth 100000
set_option maxHeartbeats 4000000
namespace Go.Proofs.YtpghocekofdpbaaGreatDoor
open Go.RowKit Go.Shelf
attribute [local go_sem] Oper.semAt_some
theorem mV (w:World):Calls Tryz.prog 61 #[] w fun e w'=>e= .returned (.string zero32)/\Below w.heap.size w w':=by
 go_enter Tryz.func61,Tryz.ntmps61;go_wp2_with (first | (go_at_call 95;refine(aff _).mono ?_;rintro e w1 ⟨rfl,hB1⟩));go_ret;exact⟨rfl,hB1⟩
theorem FB (w:World) (root:ByteArray) (h1:root.size=32) (h2:root≠zero32):Calls Tryz.prog 57 #[.string root] w fun e w'=>e= .returned (.bool true)/\Below w.heap.size w w':=by
 have d1:((root.size:Int)==32)=true:=by rw[h1];rfl
 have d1':(root.size==32)=true:=by rw[h1];rfl
 have d2:(root.toList==zero32.toList)=false:=jh h2;have d3:(root.toList !=zero32.toList)=true:=by show(!(root.toList==zero32.toList))=true;rw[d2];rfl
 obtain⟨Z,hZ⟩:∃ Z,zero32=Z:=⟨_,rfl⟩;have HE:=zh (mV);rw[hZ] at d2 d3 HE;clear hZ h2;go_enter Tryz.func57,Tryz.ntmps57;go_wp2_with (first | (go_at_call 61;refine(HE.out _).mono ?_;rintro e w1 ⟨rfl,hB1⟩));go_ret;exact⟨rfl,hB1⟩
theorem XD (w:World) (n:Nat) (hn:n<9223372036854775808):Calls Tryz.prog 42 #[.int .i64 n] w fun e w'=>∃ v,e= .returned v/\(convert 66 9 v).run Tryz.prog w'= .ok (.string (txt (fK n))) w'/\Below w.heap.size w w':=by
 refine(OC w n hn).mono ?_;rintro e w' ⟨v,rfl,hR,hB⟩;exact⟨v,rfl,jk hR,hB⟩
theorem uV (n:Nat):(txt (fK n)).size<=9:=by rw[fP];exact F6 n
theorem zG (w:World) (chain blob:ByteArray) (n:Nat) (hn:n<9223372036854775808) (hc:chain.size<10000000000) (hb:blob.size<=1000000) (hK:lV w 1):
  Calls Tryz.prog 11 #[.string chain,.int .i64 n,.string blob] w fun e w'=>e= .returned (.string (dG chain n blob))/\Below w.heap.size w w':=by
 have HI:=zh (XD w n hn);have hIs:=uV n;obtain⟨I,hI⟩:∃ I,txt (fK n)=I:=⟨_,rfl⟩;rw[hI] at HI hIs;obtain⟨T,hT⟩:∃ T,I++blob=T:=⟨_,rfl⟩;have hTs:T.size<=1000009:=by rw[<-hT,ByteArray.size_append];omega
 have hA:∀ wx,(Op.stringOp .add I blob).run Tryz.prog wx= .ok (.string T) wx:=fun wx=>by rw[<-hT];exact run_string_add_sum wx _ _ (by omega)
 have hfin:Hid (txt (nJ (bl chain) (bl T))=dG chain n blob):=by unfold Hid dG;rw[<-hT,ji,<-hI,lU]
 have HM:Hid (∀ wx,Below w.heap.size w wx->Calls Tryz.prog 41 #[.string chain,.string T] wx fun e w'=>e= .returned (.string (dG chain n blob))/\Below wx.heap.size wx w'):=fun wx hB=>by
  have h:=BI wx chain T (hK.below hB) hc (by omega);rw[hfin.out] at h;exact h
 clear hI hT hfin hK hb hc hn hIs hTs;generalize dG chain n blob=L at *;go_enter Tryz.func11,Tryz.ntmps11;go_wp2_with (first | (go_at_call 42;refine HI.out.mono ?_;rintro e w1 ⟨v,rfl,hcv,hB1⟩;have HB1:=zh hB1;clear hB1) | (go_at_call 41;refine(HM.out _ HB1.out).mono ?_;rintro e w2 ⟨rfl,hB2⟩;have HB2:=zh (HB1.out.trans (hB2.mono HB1.out.size));clear hB2) | fail);go_ret;exact⟨rfl,HB2.out⟩
def acQ (n:Int):Int:=if n<0\/7971<n then 0 else Sec.aj (n.toNat+29)
theorem ZH (w:World) (n:Int):Calls Tryz.prog 9 #[.int .i64 n] w fun e w'=>e= .returned (.int .i64 (acQ n))/\w=w':=by
 unfold acQ;by_cases h0:n<0
 ·have d0:decide (n<0)=true:=pW h0;rw[if_pos (.inl h0)];go_enter Tryz.func9,Tryz.ntmps9;go_wp2_with fail;go_ret;exact⟨rfl,rfl⟩
 ·have d0:decide (n<0)=false:=dF h0;by_cases h1:7971<n
  ·have d1:decide (7971<n)=true:=pW h1;rw[if_pos (.inr h1)];go_enter Tryz.func9,Tryz.ntmps9;go_wp2_with fail;go_ret;exact⟨rfl,rfl⟩
  ·have d1:decide (7971<n)=false:=dF h1;rw[if_neg (by omega)];obtain⟨m,hm⟩:∃ m:Int,n+28=m:=⟨_,rfl⟩;obtain⟨p,hp⟩:∃ p:Int,m+1=p:=⟨_,rfl⟩;have w1:wrap64 (n+28)=m:=by unfold wrap64;omega
   have w2:wrap64 (m+1)=p:=by unfold wrap64;omega
   have HC:=Sec.count_any p w;have e:Sec.nV p=Sec.aj (n.toNat+29):=by
    unfold Sec.nV;rw[if_pos (by omega)]
    congr 2
    omega
   rw[e] at HC;have HCH:=zh HC;clear HC e hm hp h1 h0;generalize Sec.aj (n.toNat+29)=K at *;go_enter Tryz.func9,Tryz.ntmps9;go_wp2_with (first | (go_at_call 39;refine HCH.out.mono ?_;rintro e w1 ⟨rfl,rfl⟩));go_ret;exact⟨rfl,rfl⟩
section
variable {w:World} {a:nP} {D:Dev}
theorem MS (h:aO w a D) (hd:D.down=false) {i:Nat} {s:ByteArray} (hs:D.slots[i]? =some s):Calls Tryz.prog 31 #[.pointer (some ⟨a.d,0,none⟩),.int .i64 (i:Int)] w fun e w'=>e= .returned (.tuple #[.string s,.int .i64 0])/\w=w':=by
 have h1:=DF h (i:Int);have hi:=(List.getElem?_eq_some_iff.1 hs).1;have hin:FK D.slots (i:Int):=⟨by omega,by omega⟩;rw[if_neg (by rw[hd];decide),if_pos hin,if_neg (by rw[hd];decide),if_pos hin,Int.toNat_natCast,En,hs] at h1;exact h1
def acR (s0 s1 s2:ByteArray) (k:Nat):Array Value:= #[.string (if 0<k then s0 else ⟨#[]⟩),.string (if 1<k then s1 else ⟨#[]⟩),.string (if 2<k then s2 else ⟨#[]⟩)]
theorem yE (h:aO w a D) (hd:D.down=false) {s0 s1 s2:ByteArray} (hs:D.slots= [s0,s1,s2]):
  Calls Tryz.prog 64 #[.pointer (some ⟨a.d,0,none⟩)] w fun e w'=>e= .returned (.tuple #[.agg #[.string s0,.string s1,.string s2],.int .i64 0])/\Below w.heap.size w w':=by
 have HL:Hid (∀ wx (i:Nat) (s:ByteArray),Below w.heap.size w wx->D.slots[i]? =some s->Calls Tryz.prog 31 #[.pointer (some ⟨a.d,0,none⟩),.int .i64 (i:Int)] wx fun e w'=>e= .returned (.tuple #[.string s,.int .i64 0])/\wx=w'):=fun wx i s hB hi=>MS (h.below hB) hd hi
 have L0:Hid (∀ wx,Below w.heap.size w wx->Calls Tryz.prog 31 #[.pointer (some ⟨a.d,0,none⟩),.int .i64 0] wx fun e w'=>e= .returned (.tuple #[.string s0,.int .i64 0])/\wx=w'):=fun wx hB=>HL.out wx 0 s0 hB (by rw[hs];rfl)
 have L1:Hid (∀ wx,Below w.heap.size w wx->Calls Tryz.prog 31 #[.pointer (some ⟨a.d,0,none⟩),.int .i64 1] wx fun e w'=>e= .returned (.tuple #[.string s1,.int .i64 0])/\wx=w'):=fun wx hB=>HL.out wx 1 s1 hB (by rw[hs];rfl)
 have L2:Hid (∀ wx,Below w.heap.size w wx->Calls Tryz.prog 31 #[.pointer (some ⟨a.d,0,none⟩),.int .i64 2] wx fun e w'=>e= .returned (.tuple #[.string s2,.int .i64 0])/\wx=w'):=fun wx hB=>HL.out wx 2 s2 hB (by rw[hs];rfl)
 clear h hd hs HL;go_enter Tryz.func64,Tryz.ntmps64;go_upto_region 2 with fail;refine aX (P:=fun W=>Code.wp _ _ _ _ W) (fun W0 hW0=>?_);have B0:Hid (Below w.heap.size w W0):=by unfold Hid;rw[<-hW0];exact((bK _ _).alloc (aF _) _).alloc (by simp) _
 have R0:Hid (ak W0 w.heap.size 96 #[.string ⟨#[]⟩,.string ⟨#[]⟩,.string ⟨#[]⟩]):=by unfold Hid;rw[<-hW0];exact(ak.new _ _ _).alloc _
 have A0:Hid (ak W0 (w.heap.size+1) 96 (acR s0 s1 s2 0)):=by
  unfold Hid;have:=ak.new (w.alloc (.cells #[.string ⟨#[]⟩,.string ⟨#[]⟩,.string ⟨#[]⟩] 96)) 96 (acR s0 s1 s2 0);rw[oz] at this;rw[<-hW0];exact this
 obtain⟨ra,era⟩:∃ g,w.heap.size=g:=⟨_,rfl⟩;obtain⟨ab,eab⟩:∃ g,w.heap.size+1=g:=⟨_,rfl⟩;have hne:Hid (ra≠ab):=by unfold Hid;omega
 have hra:Hid (w.heap.size<=ra):=Nat.le_of_eq era;have hab:Hid (w.heap.size<=ab):=by unfold Hid;omega
 rw[eab] at A0;rw[era] at R0;try rw[eab]
 try rw[era]
 clear hW0 era eab;go_wp2_with fail;go_loopw [8] (fun v8 wr=>∃ k:Nat,k<=3/\v8= .int .i64 (k:Int)/\Hid (Below w.heap.size w wr)/\Hid (ak wr ra 96 #[.string ⟨#[]⟩,.string ⟨#[]⟩,.string ⟨#[]⟩])/\Hid (ak wr ab 96 (acR s0 s1 s2 k))) (fun v8 _=>3-(intOf v8).toNat)
 case atStart=>exact⟨0,by decide,rfl,B0.out,R0.out,A0.out⟩
 case round=>
  obtain⟨k,hk,rfl,hB,hR,hA⟩:=hrel;clear B0 R0 A0;have f0:=hA.out.frozen 0;have f1:=hA.out.frozen 1;have f2:=hA.out.frozen 2;obtain rfl | rfl | rfl | rfl:k=0\/k=1\/k=2\/k=3:=by omega
  ·have c0:wr.cell? ⟨ab,0,none⟩=some (.string ⟨#[]⟩):=hA.out.cell 0;go_wp2_with fail;refine(L0.out _ hB.out).mono ?_;rintro e w1 ⟨rfl,rfl⟩;go_wp2_with fail;go_roundw
   case rel=>exact⟨1,by decide,by go_num,hB.out.setCell (p:=⟨ab,0,none⟩) hab.out _,hR.out.other (a:=⟨ab,0,none⟩) hne.out _,hA.out.aB 0 _⟩
   case measure=>simp[intOf]
  ·have c0:wr.cell? ⟨ab,1,none⟩=some (.string ⟨#[]⟩):=hA.out.cell 1;go_wp2_with fail;refine(L1.out _ hB.out).mono ?_;rintro e w1 ⟨rfl,rfl⟩;go_wp2_with fail;go_roundw
   case rel=>exact⟨2,by decide,by go_num,hB.out.setCell (p:=⟨ab,1,none⟩) hab.out _,hR.out.other (a:=⟨ab,1,none⟩) hne.out _,hA.out.aB 1 _⟩
   case measure=>simp[intOf]
  ·have c0:wr.cell? ⟨ab,2,none⟩=some (.string ⟨#[]⟩):=hA.out.cell 2;go_wp2_with fail;refine(L2.out _ hB.out).mono ?_;rintro e w1 ⟨rfl,rfl⟩;go_wp2_with fail;go_roundw
   case rel=>exact⟨3,by decide,by go_num,hB.out.setCell (p:=⟨ab,2,none⟩) hab.out _,hR.out.other (a:=⟨ab,2,none⟩) hne.out _,hA.out.aB 2 _⟩
   case measure=>simp[intOf]
  ·have c0:wr.cell? ⟨ab,0,none⟩=some (.string s0):=hA.out.cell 0;have c1:wr.cell? ⟨ab,1,none⟩=some (.string s1):=hA.out.cell 1;have c2:wr.cell? ⟨ab,2,none⟩=some (.string s2):=hA.out.cell 2;have e0:wr.cell? ⟨ra,0,none⟩=some (.string ⟨#[]⟩):=hR.out.cell 0;have e1:wr.cell? ⟨ra,1,none⟩=some (.string ⟨#[]⟩):=hR.out.cell 1;have e2:wr.cell? ⟨ra,2,none⟩=some (.string ⟨#[]⟩):=hR.out.cell 2;have g0:=hR.out.frozen 0;have g1:=hR.out.frozen 1;have g2:=hR.out.frozen 2;go_wp2_with fail;exact bU (dA (P:=Tryz.prog) rfl _ _ ra 96 #[.string s0,.string s1,.string s2] _ rfl (((hR.out.aB 0 _).aB 1 _).aB 2 _) Tryz.underlying96 rfl (by kernel_rfl)) rfl ⟨rfl,((hB.out.setCell (p:=⟨ra,0,none⟩) hra.out _).setCell (p:=⟨ra,1,none⟩) hra.out _).setCell (p:=⟨ra,2,none⟩) hra.out _⟩
end
theorem LW (s:ByteArray) (a b:Nat) (h1:a<=b) (h2:b<=s.size) (wx:World):(Instr.slice 9 (.string s) (some (.int .i64 (a:Int))) (some (.int .i64 (b:Int))) none).run Tryz.prog wx= .ok (.string (s.extract a b)) wx:=by
 have h3:¬ (a:Int)<0:=by omega
 have h4:¬ (b:Int)<0:=by omega
 have h5:¬ s.size<b:=by omega
 have h6:¬ b<a:=by omega
 simp[Instr.slice,Instr.sliceBounds,Instr.sliceBound,asIntOf,run_underlying Tryz.underlying9];rw[if_pos h2,if_pos h1]
theorem zx (s:ByteArray) (K:Nat) (h:K<=s.size) (wx:World):(Instr.slice 9 (.string s) (some (.int .i64 (K:Int))) none none).run Tryz.prog wx= .ok (.string (s.extract K s.size)) wx:=by
 simp[Instr.slice,Instr.sliceBounds,Instr.sliceBound,asIntOf,run_underlying Tryz.underlying9];intro hc;omega
theorem qL (s:ByteArray) (a b:Nat):bl (s.extract a b)=((bl s).drop a).take (b-a):=by
 unfold bl;rw[ByteArray.data_extract,Array.toList_extract,List.extract_eq_take_drop]
def pY (p:Part):Array Value:= #[.int .u8 p.kind,.string p.start,.string p.text]
def Df (p:Part):Value:= .agg (pY p)
theorem Jl (w:World) (root blob:ByteArray) (n:Nat) (hn:n<9223372036854775808) (hr:root.size<10000000000) (hb:blob.size<=1000000) (hK:lV w 1):
  Calls Tryz.prog 70 #[.string root,.int .i64 n,.string blob] w fun e w'=>e= .returned (Df (dH root n blob))/\Below w.heap.size w w':=by
 have hO:Hid (dH root n blob=if (dw (kQ root) (fK n) (bl blob)).2=0 then Iq (dw (kQ root) (fK n) (bl blob)).1 else iW):=rfl;have HD:Hid (∀ wx,Below w.heap.size w wx->Calls Tryz.prog 85 #[.string root,.string ⟨#[106,111,117,114,110,97,108]⟩,.slice none 0 0] wx fun e w'=>e= .returned (.string (txt (kQ root)))/\Below wx.heap.size wx w'):=fun wx hB=>
  Au wx root Ir none 0 0 [] rfl (by decide) (fun x hx=>by cases hx) (.inl rfl) (hK.below hB) hr (by decide)
 have HI:=zh (fun wx=>XD wx n hn);have HO:Hid (∀ wx,Below w.heap.size w wx->Calls Tryz.prog 109 #[.string (txt (kQ root)),.string (txt (fK n)),.string blob] wx fun e w'=>e= .returned (.tuple #[.string (txt (dw (kQ root) (fK n) (bl blob)).1),.int .i64 ((dw (kQ root) (fK n) (bl blob)).2:Nat)])/\Below wx.heap.size wx w'):=fun wx hB=>
  open_any wx (txt (kQ root)) (txt (fK n)) blob (by rw[fP,BX]) (by have:=uV n;omega) hb (hK.below hB)
 obtain⟨P,hP⟩:∃ P,dH root n blob=P:=⟨_,rfl⟩;rw[hP] at hO ⊢;obtain⟨t,ht⟩:∃ t,(dw (kQ root) (fK n) (bl blob)).1=t:=⟨_,rfl⟩;obtain⟨c,hc⟩:∃ c,(dw (kQ root) (fK n) (bl blob)).2=c:=⟨_,rfl⟩;rw[ht,hc] at HO hO;obtain⟨K,hKe⟩:∃ K,txt (kQ root)=K:=⟨_,rfl⟩;obtain⟨I,hIe⟩:∃ I,txt (fK n)=I:=⟨_,rfl⟩;obtain⟨S,hS⟩:∃ S,txt t=S:=⟨_,rfl⟩;obtain⟨E,hE⟩:∃ E:Int,(c:Int)=E:=⟨_,rfl⟩;rw[hKe] at HD HO;rw[hIe] at HI HO;rw[hS,hE] at HO;have hSt:Hid (bl S=t):=by unfold Hid;rw[<-hS];rfl
 have hEc:=zh hE;clear hP ht hc hKe hIe hS hE hK hn hr hb;go_enter Tryz.func70,Tryz.ntmps70;go_upto_region 1 with fail;refine aX (P:=fun W=>Code.wp _ _ _ _ W) (fun W0 hW0=>?_);have B0:Hid (Below w.heap.size w W0):=by unfold Hid;rw[<-hW0];exact(bK _ _).alloc (aF _) _
 have R0:Hid (ak W0 w.heap.size 104 #[.int .u8 0,.string ⟨#[]⟩,.string ⟨#[]⟩]):=by unfold Hid;rw[<-hW0];exact ak.new _ _ _
 obtain⟨ra,era⟩:∃ g,w.heap.size=g:=⟨_,rfl⟩;have hra:Hid (w.heap.size<=ra):=Nat.le_of_eq era;rw[era] at R0;try rw[era]
 clear hW0 era;go_upto_region 2 with(first
  | (go_at_call 85;refine(HD.out _ B0.out).mono ?_;rintro e w1 ⟨rfl,hB⟩;have B1:=zh (B0.out.trans (hB.mono B0.out.size));have R1:=zh (R0.out.below hB R0.out.lt);clear hB)
  | (go_at_call 42;refine(HI.out _).mono ?_;rintro e w2 ⟨v2,rfl,hcv2,hB⟩;have B2:=zh (B1.out.trans (hB.mono B1.out.size));have R2:=zh (R1.out.below hB R1.out.lt);clear hB)
  | (go_at_call 109;refine(HO.out _ B2.out).mono ?_;rintro e w3 ⟨rfl,hB⟩;have B3:=zh (B2.out.trans (hB.mono B2.out.size));have R3:=zh (R2.out.below hB R2.out.lt);clear hB))
 clear B0 B1 B2 R0 R1 R2 HD HI HO;have c0:w3.cell? ⟨ra,0,none⟩=some (.int .u8 0):=R3.out.cell 0;have c1:w3.cell? ⟨ra,1,none⟩=some (.string ⟨#[]⟩):=R3.out.cell 1;have c2:w3.cell? ⟨ra,2,none⟩=some (.string ⟨#[]⟩):=R3.out.cell 2;have f0:=R3.out.frozen 0;have f1:=R3.out.frozen 1;have f2:=R3.out.frozen 2;by_cases hc:c=0
 case neg=>
  have FN:P=iW:=by rw[hO.out,if_neg hc]
  subst FN;have d1:(E !=0)=true:=by rw[bne_iff_ne,<-hEc.out];omega
  have d1':¬ E=0:=by rw[<-hEc.out];omega
  clear hc hO hEc;go_wp2_with fail;exact bU (bF (P:=Tryz.prog) rfl _ _ ra 104 (pY iW) _ rfl (((R3.out.aB 0 _).aB 1 _).aB 2 _) Tryz.underlying104 rfl (by kernel_rfl)) rfl ⟨rfl,((B3.out.setCell (p:=⟨ra,0,none⟩) hra.out _).setCell (p:=⟨ra,1,none⟩) hra.out _).setCell (p:=⟨ra,2,none⟩) hra.out _⟩
 case pos=>
 have hPl:P=Iq t:=by rw[hO.out,if_pos hc]
 obtain rfl:E=0:=by rw[<-hEc.out,hc];rfl
 clear hO hEc hc;cases t with
 | nil=>
  have FN:P=iW:=hPl;subst FN;have e1:(S.toList== [])=true:=by rw[ByteArray.toList_eq];show(bl S== [])=true;rw[hSt.out];rfl
  clear hPl;go_wp2_with fail;exact bU (bF (P:=Tryz.prog) rfl _ _ ra 104 (pY iW) _ rfl (((R3.out.aB 0 _).aB 1 _).aB 2 _) Tryz.underlying104 rfl (by kernel_rfl)) rfl ⟨rfl,((B3.out.setCell (p:=⟨ra,0,none⟩) hra.out _).setCell (p:=⟨ra,1,none⟩) hra.out _).setCell (p:=⟨ra,2,none⟩) hra.out _⟩
 | cons x s=>
  have e1:(S.toList== [])=false:=by rw[ByteArray.toList_eq];show(bl S== [])=false;rw[hSt.out];rfl
  have hz:S.size=s.length+1:=by rw[<-aG,hSt.out];rfl
  obtain⟨y,hy,hix⟩:=aal S (j:=0) (by omega);have hyx:y=x:=by
   have h1:(bl S)[0]? =some y:=hy;rw[hSt.out] at h1;exact(Option.some.inj h1).symm
  subst hyx;have i0:∀ wx,(Instr.index 9 (.string S) (.int .i64 0)).run Tryz.prog wx= .ok (.int .u8 y.toNat) wx:=hix;have g1:∀ wx,(Instr.slice 9 (.string S) (some (.int .i64 1)) none none).run Tryz.prog wx= .ok (.string (S.extract 1 S.size)) wx:=fun wx=>zx S 1 (by omega) wx
  have hx1:S.extract 1 S.size=txt s:=by
   apply yw;rw[qL,hSt.out,lU,hz];show(s.take _)=s
   rw[uo (by omega)]
  rw[hx1] at g1;clear hix hy hx1;by_cases JX:y=82
  case pos=>
   have FN:P=⟨82,⟨#[]⟩,txt s⟩:=by rw[hPl,iL,if_pos JX]
   subst FN;have d2:((y.toNat:Int)==82)=true:=by rw[JX];rfl
   clear hPl JX;go_wp2_with fail;exact bU (bF (P:=Tryz.prog) rfl _ _ ra 104 (pY ⟨82,⟨#[]⟩,txt s⟩) _ rfl (((R3.out.aB 0 _).aB 1 _).aB 2 _) Tryz.underlying104 rfl (by kernel_rfl)) rfl ⟨rfl,((B3.out.setCell (p:=⟨ra,0,none⟩) hra.out _).setCell (p:=⟨ra,1,none⟩) hra.out _).setCell (p:=⟨ra,2,none⟩) hra.out _⟩
  case neg=>
  have d2:((y.toNat:Int)==82)=false:=by
   rw[FI];intro h;exact JX (UInt8.toNat_inj.1 (by show y.toNat=82;omega))
  by_cases Iu:y=73
  case neg=>
   have FN:P=iW:=by rw[hPl,iL,if_neg JX,if_neg (fun h=>Iu h.1)]
   subst FN;have d3:((y.toNat:Int)==73)=false:=by
    rw[FI];intro h;exact Iu (UInt8.toNat_inj.1 (by show y.toNat=73;omega))
   clear hPl JX Iu;go_wp2_with fail;exact bU (bF (P:=Tryz.prog) rfl _ _ ra 104 (pY iW) _ rfl (((R3.out.aB 0 _).aB 1 _).aB 2 _) Tryz.underlying104 rfl (by kernel_rfl)) rfl ⟨rfl,((B3.out.setCell (p:=⟨ra,0,none⟩) hra.out _).setCell (p:=⟨ra,1,none⟩) hra.out _).setCell (p:=⟨ra,2,none⟩) hra.out _⟩
  case pos=>
  have d3:((y.toNat:Int)==73)=true:=by rw[Iu];rfl
  by_cases h32:32<=s.length
  case neg=>
   have FN:P=iW:=by rw[hPl,iL,if_neg JX,if_neg (fun h=>h32 h.2)]
   subst FN;have d4:decide ((32:Int)<(S.size:Int))=false:=dF (by omega);have d4':decide (32<S.size)=false:=dF (by omega);clear hPl JX Iu hz;go_wp2_with fail;exact bU (bF (P:=Tryz.prog) rfl _ _ ra 104 (pY iW) _ rfl (((R3.out.aB 0 _).aB 1 _).aB 2 _) Tryz.underlying104 rfl (by kernel_rfl)) rfl ⟨rfl,((B3.out.setCell (p:=⟨ra,0,none⟩) hra.out _).setCell (p:=⟨ra,1,none⟩) hra.out _).setCell (p:=⟨ra,2,none⟩) hra.out _⟩
  case pos=>
  have FN:P=⟨73,txt (s.take 32),txt (s.drop 32)⟩:=by rw[hPl,iL,if_neg JX,if_pos ⟨Iu,h32⟩]
  subst FN;have d4:decide ((32:Int)<(S.size:Int))=true:=pW (by omega);have d4':decide (32<S.size)=true:=pW (by omega);have g2:∀ wx,(Instr.slice 9 (.string S) (some (.int .i64 1)) (some (.int .i64 33)) none).run Tryz.prog wx= .ok (.string (S.extract 1 33)) wx:=fun wx=>LW S 1 33 (by decide) (by omega) wx
  have g3:∀ wx,(Instr.slice 9 (.string S) (some (.int .i64 33)) none none).run Tryz.prog wx= .ok (.string (S.extract 33 S.size)) wx:=fun wx=>zx S 33 (by omega) wx
  have hx2:S.extract 1 33=txt (s.take 32):=by
   apply yw;rw[qL,hSt.out,lU];rfl
  have hx3:S.extract 33 S.size=txt (s.drop 32):=by
   apply yw;rw[qL,hSt.out,lU,hz];show((s.drop 32).take _)=s.drop 32
   rw[uo (by rw[rX];omega)]
  rw[hx2] at g2;rw[hx3] at g3;clear hPl JX Iu h32 hx2 hx3 g1;obtain⟨X,hX⟩:∃ X,txt (s.take 32)=X:=⟨_,rfl⟩;obtain⟨Y,hY⟩:∃ Y,txt (s.drop 32)=Y:=⟨_,rfl⟩;rw[hX] at g2;rw[hY] at g3;have hXY:Hid (pY ⟨73,txt (s.take 32),txt (s.drop 32)⟩=pY ⟨73,X,Y⟩):=by unfold Hid;rw[hX,hY]
  clear hX hY hz;go_wp2_with fail
  go_region
  all_goals go_wp2_with fail
  all_goals exact bU (bF (P:=Tryz.prog) rfl _ _ ra 104 (pY ⟨73,X,Y⟩) _ rfl ((((R3.out.aB 0 (.int .u8 73)).aB 1 (.string X)).aB 2 (.string Y)).drew) Tryz.underlying104 rfl (by kernel_rfl)) rfl ⟨by unfold Df;rw[hXY.out],(((B3.out.setCell (p:=⟨ra,0,none⟩) hra.out (.int .u8 73)).setCell (p:=⟨ra,1,none⟩) hra.out (.string X)).setCell (p:=⟨ra,2,none⟩) hra.out (.string Y)).drew⟩
theorem MW (w:World) (n:Nat) (hn:n<9223372036854775808):Calls Tryz.prog 42 #[.int .i64 n] w fun e w'=>∃ v,e= .returned v/\(∀ wz,Below w'.heap.size w' wz->(convert 66 9 v).run Tryz.prog wz= .ok (.string (txt (fK n))) wz)/\Below w.heap.size w w':=by
 refine(OC w n hn).mono ?_;rintro e w' ⟨v,rfl,hR,hB⟩;exact⟨v,rfl,fun wz hz=>jk (hR.below hz),hB⟩
def KL (w:World) (x:uX) (u:Value):Prop:=∀ w',bH w w' x u->lV w' 1
theorem KL.at_ {w:World} {x:uX} {u:Value} (h:KL w x u):lV w 1:=h w (bH.refl w)
theorem KL.on {w w':World} {x:uX} {u:Value} (h:KL w x u) (hF:bH w w' x u):KL w' x u:=fun w2 h2=>h w2 (hF.trans h2)
def wrS (V:mJ) (B:ByteArray):Zq->ByteArray
 | .ok n _ _=>dG V.chain n B
 | _=>⟨#[]⟩
def wrE:Zq->Int
 | .err c=>c
 | .down _=>14
 | .ok _ _ _=>0
def OE (w:World) (x:uX) (h:Nat) (V:mJ) (D:Dev) (p u:Value) (B:ByteArray) (r:Zq) (e:Ending) (w':World):Prop:=
 e= .returned (.tuple #[.string (wrS V B r),.int .i64 (wrE r)])/\bH w w' x u/\(∃ cb,ak w' x.vb 79 #[.pointer (some ⟨x.a.d,0,none⟩),.pointer (some ⟨x.jb,0,none⟩),.string V.root,.string V.chain,p,u,.bool cb])/\match r with
 | .err _=>kH w' x h V D p u
 | .down E=>aO w' x.a E
 | .ok _ J' E=>kH w' x h { V with J:=J' } E p u
section
variable {w w' w2:World} {x:uX} {h b:Nat} {V:mJ} {D E:Dev} {p u:Value}
theorem SG (k:kH w x h V D p u) (hu:nM D) (hJ:vk h V.J D.M b) (hb:b<=255) (hsp:V.J.dL=false) (hll:V.J.l.length<=1048576) (hch:V.chain.size=32) (root text:ByteArray) (hr:root.size=32) (ht:text.size<=7972) (hD:D.M.length<=4096) (OD:KL w x u):
  Calls Tryz.prog 49 #[.pointer (some ⟨x.vb,0,none⟩),.string root,.string text,.func (.func 50) #[.pointer (some ⟨x.jb,0,none⟩)] #[]] w (OE w x h V D p u (aV root V.J.next text) (gK h (aV root V.J.next text) V.J D)):=by
 have hK:=OD.at_;have hm:=hJ.most hb;have hmv:Sec.bn=4611686018427387904:=rfl;have hn:V.J.next<9223372036854775808:=by omega
 clear hmv hm;have HD:Hid (∀ wx,Below w.heap.size w wx->Calls Tryz.prog 85 #[.string root,.string ⟨#[106,111,117,114,110,97,108]⟩,.slice none 0 0] wx fun e w'=>e= .returned (.string (txt (kQ root)))/\Below wx.heap.size wx w'):=fun wx hB=>
  Au wx root Ir none 0 0 [] rfl (by decide) (fun x hx=>by cases hx) (.inl rfl) (hK.below hB) (by omega) (by decide)
 have HI:=zh (fun wx=>MW wx V.J.next hn);have HN:Hid (∀ wx,Below w.heap.size w wx->Calls Tryz.prog 86 #[.pointer (some ⟨x.jb,0,none⟩)] wx fun e w'=>e= .returned (.int .i64 (V.J.next:Int))/\wx=w'):=fun wx hB=>by
  obtain⟨v,hv⟩:=k.OZ;exact KY (hv.below hB)
 have HS:Hid (∀ wx,Below w.heap.size w wx->Calls Tryz.prog 84 #[.string (txt (kQ root)),.string (txt (fK V.J.next)),.string text] wx fun e w'=>e= .returned (.tuple #[.string (aV root V.J.next text),.int .i64 0])/\Below wx.heap.size wx w'):=fun wx hB=>
  QV wx (txt (kQ root)) (txt (fK V.J.next)) text (by rw[fP,BX]) (by have:=uV V.J.next;omega) (by omega) (hK.below hB)
 have hBs:(aV root V.J.next text).size<=8000:=by rw[nD];omega
 have hcs:V.chain.size<10000000000\/True:= .inr trivial;have HT:Hid (∀ wx,Below w.heap.size w wx->Calls Tryz.prog 50 #[.pointer (some ⟨x.jb,0,none⟩),.string (aV root V.J.next text)] wx (XJ wx x.a x.jb h V.J D (gK h (aV root V.J.next text) V.J D))):=fun wx hB=>by
  obtain⟨v,hv⟩:=k.OZ;exact SC (k.dev.below hB) hu (hv.below hB) hJ hb hsp _ hBs hD hll
 have HL:Hid (∀ wx,bH w wx x u->∀ n:Nat,n<9223372036854775808->Calls Tryz.prog 11 #[.string V.chain,.int .i64 (n:Int),.string (aV root V.J.next text)] wx fun e w'=>e= .returned (.string (dG V.chain n (aV root V.J.next text)))/\Below wx.heap.size wx w'):=fun wx hF n hn=>
  zG wx V.chain _ n hn (by rw[hch];decide) (by omega) (OD wx hF)
 have Xm:Hid (V.J.next<9223372036854775808):=hn;have hrn:Hid (∀ n J' E,gK h (aV root V.J.next text) V.J D= .ok n J' E->n=V.J.next):=by
  intro n J' E e;unfold gK at e;split at e
  ·cases e
  ·split at e
   ·cases e
   ·cases e;rfl
 have hrc:Hid (∀ c,gK h (aV root V.J.next text) V.J D= .err c->c=15):=by
  intro c e;unfold gK at e;split at e
  ·cases e;rfl
  ·split at e<;>cases e
 obtain⟨B,hB⟩:∃ B,aV root V.J.next text=B:=⟨_,rfl⟩;rw[hB] at HS HT HL hrn hrc ⊢;obtain⟨r,hr0⟩:∃ r,gK h B V.J D=r:=⟨_,rfl⟩;rw[hr0] at HT hrn hrc ⊢;obtain⟨K,hKe⟩:∃ K,txt (kQ root)=K:=⟨_,rfl⟩;obtain⟨I,hIe⟩:∃ I,txt (fK V.J.next)=I:=⟨_,rfl⟩;rw[hKe] at HD HS;rw[hIe] at HI HS;obtain⟨N,hN⟩:∃ N,V.J.next=N:=⟨_,rfl⟩;rw[hN] at HI HN Xm hrn;obtain⟨c0,c1,c2,c3,c4,c5,c6⟩:=k.cells;have KK:=zh k;clear hB hr0 hKe hIe hN hK OD hn hr ht hD hu hJ hb hBs hcs k hch hsp hll;go_enter Tryz.func49,Tryz.ntmps49;go_upto_region 1 with fail
 go_cut [10,11] from 10 to 48 (fun v10 v11 wx=>v10= .string B/\v11= .int .i64 0/\Hid (Below w.heap.size w wx))
 case first=>
  go_region_with
   (first
    | (go_at_call 84;(first | (refine(HS.out _ ZN.out).mono ?_) | (refine(HS.out _ qw.out).mono ?_) | (refine(HS.out _ SH.out).mono ?_));rintro e wz ⟨rfl,hBs⟩;(first | (have ZI:=zh (ZN.out.trans (hBs.mono ZN.out.size))) | (have ZI:=zh (qw.out.trans (hBs.mono qw.out.size))) | (have ZI:=zh (SH.out.trans (hBs.mono SH.out.size))));have y1:=(KK.out.blk.below ZI.out KK.out.blk.lt).cell 1)
    | (go_at_call 85;have hmk:=SH;clear hmk;refine(HD.out _ SH.out).mono ?_;rintro e w1 ⟨rfl,hB1⟩;have ZN:=zh (SH.out.trans (hB1.mono SH.out.size));have hc1:=hcv.out w1 hB1;have y1:=(KK.out.blk.below ZN.out KK.out.blk.lt).cell 1;clear hB1)
    | (go_at_call 85;refine(HD.out _ (bK w.heap.size w).drew).mono ?_;rintro e w1 ⟨rfl,hB1⟩;have qw:=zh ((bK w.heap.size w).drew.trans (hB1.mono (bK w.heap.size w).drew.size));have y1:=(KK.out.blk.below qw.out KK.out.blk.lt).cell 1;clear hB1)
    | (go_at_call 86;have hmk:=qw;clear hmk;refine(HN.out _ qw.out).mono ?_;rintro e w3 ⟨rfl,rfl⟩)
    | (go_at_call 86;refine(HN.out _ (bK w.heap.size w).drew).mono ?_;rintro e w3 ⟨rfl,rfl⟩)
    | (go_at_call 42;have hmk:=qw;clear hmk;refine(HI.out _).mono ?_;rintro e w2 ⟨v2,rfl,hcv0,hB1⟩;have hcv:=zh hcv0;have hc1:=hcv.out w2 (bK _ _);have ZN:=zh (qw.out.trans (hB1.mono qw.out.size));have y1:=(KK.out.blk.below ZN.out KK.out.blk.lt).cell 1;clear hB1 hcv0)
    | (go_at_call 42;refine(HI.out _).mono ?_;rintro e w2 ⟨v2,rfl,hcv0,hB1⟩;have hcv:=zh hcv0;have hc1:=hcv.out w2 (bK _ _);have SH:=zh ((bK w.heap.size w).drew.trans (hB1.mono (bK w.heap.size w).drew.size));have y1:=(KK.out.blk.below SH.out KK.out.blk.lt).cell 1;clear hB1 hcv0))
  all_goals go_wp2_with fail
  all_goals go_meet
  all_goals exact⟨rfl,rfl,ZI.out⟩
 case rest=>
 obtain⟨rfl,rfl,hcut⟩:=hcut;have HB1:=zh hcut;clear hcut c0 c1 c2 c3 c4 c5 c6 HS HD HI HN;go_wp2_with fail;refine(HT.out _ HB1.out).mono ?_;rintro e w1 ⟨hF,hpost⟩;have HF:=zh ((bH.bD (x:=x) (u:=u) HB1.out).trans (bH.ofJ hF));cases r with
 | err c=>
  obtain⟨rfl,hd,hj⟩:=hpost;obtain rfl:=hrc.out c rfl;have K1:=(KK.out.below HB1.out).SE hF hd hj;have K1H:Hid (kH w1 x h V D p u):=K1;clear hd hj K1 hF HT HL;go_wp2_with fail;refine(Jt K1H.out 15 (by decide)).mono ?_;rintro e w2 ⟨rfl,rfl⟩;go_wp2_with fail;go_ret2;exact⟨rfl,HF.out.set 6 _,⟨false,K1H.out.same.blk⟩,K1H.out.same⟩
 | down E=>
  obtain⟨rfl,hd⟩:=hpost;obtain⟨vj,hvj⟩:=(KK.out.below HB1.out).OZ;have hblk:Hid (ak w1 x.vb 79 #[.pointer (some ⟨x.a.d,0,none⟩),.pointer (some ⟨x.jb,0,none⟩),.string V.root,.string V.chain,p,u,.bool false]):=
   (hF.blk (KK.out.below HB1.out).dev hvj (KK.out.below HB1.out).blk (fun e=>by cases e) (fun e=>by cases e) (fun e=>by cases e) (fun e=>by cases e) (fun e=>by cases e)).trans (KK.out.below HB1.out).blk
  have HD:=zh hd;clear hd hvj hF HT HL;go_wp2_with fail;refine(Ej hblk.out false rfl).mono ?_;rintro e w2 ⟨rfl,rfl⟩;go_wp2_with fail;go_ret2;exact⟨rfl,HF.out.set 6 _,⟨true,hblk.out.aB 6 _⟩,eP HD.out hblk.out (by decide) (au _ _ _ _)⟩
 | ok n J' E=>
  obtain⟨rfl,hd,hj⟩:=hpost;obtain rfl:=hrn.out n J' E rfl;have K1:=(KK.out.below HB1.out).SE hF hd hj;have K1H:=zh K1;obtain⟨d0,d1,d2,d3,d4,d5,d6⟩:=K1.cells;have HL1:=zh (HL.out w1 HF.out n Xm.out);clear hd hj K1 hF HT HL;go_wp2_with fail;refine HL1.out.mono ?_;rintro e w2 ⟨rfl,hB2⟩;have K2:=zh (K1H.out.below hB2);have F2:=zh (HF.out.trans (bH.bD hB2));clear hB2;go_wp2_with fail;go_ret2;exact⟨rfl,F2.out,⟨false,K2.out.blk⟩,K2.out⟩
theorem RZ (k:kH w x h V D p u) (hu:nM D) (hJ:vk h V.J D.M b) (hb:b<=255) (hch:V.chain.size=32) (root text:ByteArray) (hr:root.size=32) (ht:text.size<=7972) (hD:D.M.length<=4096) (OD:KL w x u):
  Calls Tryz.prog 49 #[.pointer (some ⟨x.vb,0,none⟩),.string root,.string text,.func (.func 94) #[.pointer (some ⟨x.jb,0,none⟩)] #[]] w (OE w x h V D p u (aV root V.J.next text) (fA h (aV root V.J.next text) V.J D)):=by
 have hK:=OD.at_;have hm:=hJ.most hb;have hmv:Sec.bn=4611686018427387904:=rfl;have hn:V.J.next<9223372036854775808:=by omega
 clear hmv hm;have HD:Hid (∀ wx,Below w.heap.size w wx->Calls Tryz.prog 85 #[.string root,.string ⟨#[106,111,117,114,110,97,108]⟩,.slice none 0 0] wx fun e w'=>e= .returned (.string (txt (kQ root)))/\Below wx.heap.size wx w'):=fun wx hB=>
  Au wx root Ir none 0 0 [] rfl (by decide) (fun x hx=>by cases hx) (.inl rfl) (hK.below hB) (by omega) (by decide)
 have HI:=zh (fun wx=>MW wx V.J.next hn);have HN:Hid (∀ wx,Below w.heap.size w wx->Calls Tryz.prog 86 #[.pointer (some ⟨x.jb,0,none⟩)] wx fun e w'=>e= .returned (.int .i64 (V.J.next:Int))/\wx=w'):=fun wx hB=>by
  obtain⟨v,hv⟩:=k.OZ;exact KY (hv.below hB)
 have HS:Hid (∀ wx,Below w.heap.size w wx->Calls Tryz.prog 84 #[.string (txt (kQ root)),.string (txt (fK V.J.next)),.string text] wx fun e w'=>e= .returned (.tuple #[.string (aV root V.J.next text),.int .i64 0])/\Below wx.heap.size wx w'):=fun wx hB=>
  QV wx (txt (kQ root)) (txt (fK V.J.next)) text (by rw[fP,BX]) (by have:=uV V.J.next;omega) (by omega) (hK.below hB)
 have hBs:(aV root V.J.next text).size<=8000:=by rw[nD];omega
 have hcs:V.chain.size<10000000000\/True:= .inr trivial;have HT:Hid (∀ wx,Below w.heap.size w wx->Calls Tryz.prog 94 #[.pointer (some ⟨x.jb,0,none⟩),.string (aV root V.J.next text)] wx (XJ wx x.a x.jb h V.J D (fA h (aV root V.J.next text) V.J D))):=fun wx hB=>by
  obtain⟨v,hv⟩:=k.OZ;exact Kr (k.dev.below hB) hu (hv.below hB) hJ hb _ hBs hD
 have HL:Hid (∀ wx,bH w wx x u->∀ n:Nat,n<9223372036854775808->Calls Tryz.prog 11 #[.string V.chain,.int .i64 (n:Int),.string (aV root V.J.next text)] wx fun e w'=>e= .returned (.string (dG V.chain n (aV root V.J.next text)))/\Below wx.heap.size wx w'):=fun wx hF n hn=>
  zG wx V.chain _ n hn (by rw[hch];decide) (by omega) (OD wx hF)
 have Xm:Hid (V.J.next<9223372036854775808):=hn;have hrn:Hid (∀ n J' E,fA h (aV root V.J.next text) V.J D= .ok n J' E->n=V.J.next):=by
  intro n J' E e;unfold fA at e;split at e
  ·cases e
  ·split at e
   ·cases e
   ·cases e;rfl
 have hrc:Hid (∀ c,fA h (aV root V.J.next text) V.J D= .err c->c=15):=by
  intro c e;unfold fA at e;split at e
  ·cases e;rfl
  ·split at e<;>cases e
 obtain⟨B,hB⟩:∃ B,aV root V.J.next text=B:=⟨_,rfl⟩;rw[hB] at HS HT HL hrn hrc ⊢;obtain⟨r,hr0⟩:∃ r,fA h B V.J D=r:=⟨_,rfl⟩;rw[hr0] at HT hrn hrc ⊢;obtain⟨K,hKe⟩:∃ K,txt (kQ root)=K:=⟨_,rfl⟩;obtain⟨I,hIe⟩:∃ I,txt (fK V.J.next)=I:=⟨_,rfl⟩;rw[hKe] at HD HS;rw[hIe] at HI HS;obtain⟨N,hN⟩:∃ N,V.J.next=N:=⟨_,rfl⟩;rw[hN] at HI HN Xm hrn;obtain⟨c0,c1,c2,c3,c4,c5,c6⟩:=k.cells;have KK:=zh k;clear hB hr0 hKe hIe hN hK OD hn hr ht hD hu hJ hb hBs hcs k hch;go_enter Tryz.func49,Tryz.ntmps49;go_upto_region 1 with fail
 go_cut [10,11] from 10 to 48 (fun v10 v11 wx=>v10= .string B/\v11= .int .i64 0/\Hid (Below w.heap.size w wx))
 case first=>
  go_region_with
   (first
    | (go_at_call 84;(first | (refine(HS.out _ ZN.out).mono ?_) | (refine(HS.out _ qw.out).mono ?_) | (refine(HS.out _ SH.out).mono ?_));rintro e wz ⟨rfl,hBs⟩;(first | (have ZI:=zh (ZN.out.trans (hBs.mono ZN.out.size))) | (have ZI:=zh (qw.out.trans (hBs.mono qw.out.size))) | (have ZI:=zh (SH.out.trans (hBs.mono SH.out.size))));have y1:=(KK.out.blk.below ZI.out KK.out.blk.lt).cell 1)
    | (go_at_call 85;have hmk:=SH;clear hmk;refine(HD.out _ SH.out).mono ?_;rintro e w1 ⟨rfl,hB1⟩;have ZN:=zh (SH.out.trans (hB1.mono SH.out.size));have hc1:=hcv.out w1 hB1;have y1:=(KK.out.blk.below ZN.out KK.out.blk.lt).cell 1;clear hB1)
    | (go_at_call 85;refine(HD.out _ (bK w.heap.size w).drew).mono ?_;rintro e w1 ⟨rfl,hB1⟩;have qw:=zh ((bK w.heap.size w).drew.trans (hB1.mono (bK w.heap.size w).drew.size));have y1:=(KK.out.blk.below qw.out KK.out.blk.lt).cell 1;clear hB1)
    | (go_at_call 86;have hmk:=qw;clear hmk;refine(HN.out _ qw.out).mono ?_;rintro e w3 ⟨rfl,rfl⟩)
    | (go_at_call 86;refine(HN.out _ (bK w.heap.size w).drew).mono ?_;rintro e w3 ⟨rfl,rfl⟩)
    | (go_at_call 42;have hmk:=qw;clear hmk;refine(HI.out _).mono ?_;rintro e w2 ⟨v2,rfl,hcv0,hB1⟩;have hcv:=zh hcv0;have hc1:=hcv.out w2 (bK _ _);have ZN:=zh (qw.out.trans (hB1.mono qw.out.size));have y1:=(KK.out.blk.below ZN.out KK.out.blk.lt).cell 1;clear hB1 hcv0)
    | (go_at_call 42;refine(HI.out _).mono ?_;rintro e w2 ⟨v2,rfl,hcv0,hB1⟩;have hcv:=zh hcv0;have hc1:=hcv.out w2 (bK _ _);have SH:=zh ((bK w.heap.size w).drew.trans (hB1.mono (bK w.heap.size w).drew.size));have y1:=(KK.out.blk.below SH.out KK.out.blk.lt).cell 1;clear hB1 hcv0))
  all_goals go_wp2_with fail
  all_goals go_meet
  all_goals exact⟨rfl,rfl,ZI.out⟩
 case rest=>
 obtain⟨rfl,rfl,hcut⟩:=hcut;have HB1:=zh hcut;clear hcut c0 c1 c2 c3 c4 c5 c6 HS HD HI HN;go_wp2_with fail;refine(HT.out _ HB1.out).mono ?_;rintro e w1 ⟨hF,hpost⟩;have HF:=zh ((bH.bD (x:=x) (u:=u) HB1.out).trans (bH.ofJ hF));cases r with
 | err c=>
  obtain⟨rfl,hd,hj⟩:=hpost;obtain rfl:=hrc.out c rfl;have K1:=(KK.out.below HB1.out).SE hF hd hj;have K1H:Hid (kH w1 x h V D p u):=K1;clear hd hj K1 hF HT HL;go_wp2_with fail;refine(Jt K1H.out 15 (by decide)).mono ?_;rintro e w2 ⟨rfl,rfl⟩;go_wp2_with fail;go_ret2;exact⟨rfl,HF.out.set 6 _,⟨false,K1H.out.same.blk⟩,K1H.out.same⟩
 | down E=>
  obtain⟨rfl,hd⟩:=hpost;obtain⟨vj,hvj⟩:=(KK.out.below HB1.out).OZ;have hblk:Hid (ak w1 x.vb 79 #[.pointer (some ⟨x.a.d,0,none⟩),.pointer (some ⟨x.jb,0,none⟩),.string V.root,.string V.chain,p,u,.bool false]):=
   (hF.blk (KK.out.below HB1.out).dev hvj (KK.out.below HB1.out).blk (fun e=>by cases e) (fun e=>by cases e) (fun e=>by cases e) (fun e=>by cases e) (fun e=>by cases e)).trans (KK.out.below HB1.out).blk
  have HD:=zh hd;clear hd hvj hF HT HL;go_wp2_with fail;refine(Ej hblk.out false rfl).mono ?_;rintro e w2 ⟨rfl,rfl⟩;go_wp2_with fail;go_ret2;exact⟨rfl,HF.out.set 6 _,⟨true,hblk.out.aB 6 _⟩,eP HD.out hblk.out (by decide) (au _ _ _ _)⟩
 | ok n J' E=>
  obtain⟨rfl,hd,hj⟩:=hpost;obtain rfl:=hrn.out n J' E rfl;have K1:=(KK.out.below HB1.out).SE hF hd hj;have K1H:=zh K1;obtain⟨d0,d1,d2,d3,d4,d5,d6⟩:=K1.cells;have HL1:=zh (HL.out w1 HF.out n Xm.out);clear hd hj K1 hF HT HL;go_wp2_with fail;refine HL1.out.mono ?_;rintro e w2 ⟨rfl,hB2⟩;have K2:=zh (K1H.out.below hB2);have F2:=zh (HF.out.trans (bH.bD hB2));clear hB2;go_wp2_with fail;go_ret2;exact⟨rfl,F2.out,⟨false,K2.out.blk⟩,K2.out⟩
end
structure Later (w:World) (p u p' u':Value):Prop where
 own:∀ k,u'.ownBlock=some k->u.ownBlock=some k\/w.heap.size<=k
 img:∀ g i,p'= .pointer (some ⟨g,i,none⟩)->p'=p\/w.heap.size<=g
theorem Later.refl (w:World) (p u:Value):Later w p u p u:=⟨fun _ e=> .inl e,fun _ _ _=> .inl rfl⟩
theorem Later.up {w w1:World} {p u p' u':Value} (h:Later w1 p u p' u') (hs:w.heap.size<=w1.heap.size):Later w p u p' u':=
 ⟨fun k e=>(h.own k e).imp id (fun q=>fU hs q),fun g i e=>(h.img g i e).imp id (fun q=>fU hs q)⟩
def eU (w:World) (x:uX) (h:Nat) (p u:Value) (r:uZ) (e:Ending) (w':World):Prop:=
 e= .returned (.int .i64 r.1)/\bH w w' x u/\aO w' x.a r.2.2/\∀ V',r.2.1=some V'->∃ lo p' u',kH w' { x with lo:=lo } h V' r.2.2 p' u'/\Later w p u p' u'
theorem eU.mk {w:World} {x:uX} {h:Nat} {p u:Value} {r:uZ} {e:Ending} {w':World} (h1:e= .returned (.int .i64 r.1)) (h2:bH w w' x u) (h3:aO w' x.a r.2.2) (h4:∀ V',r.2.1=some V'->∃ lo p' u',kH w' { x with lo:=lo } h V' r.2.2 p' u'/\Later w p u p' u'):eU w x h p u r e w':=⟨h1,h2,h3,h4⟩
section
variable {w w' w3:World} {x:uX} {h b:Nat} {V:mJ} {D E:Dev} {p u u':Value}
theorem kH.aoM (k:kH w x h V D p u) {j:Nat} (e:u.ownBlock=some j):∃ cs,ak w j 9 cs:=by
 rcases k.row.2 with⟨rfl,_⟩ | ⟨g,cap,cur,rfl,_,hb,_⟩
 ·cases e
 ·cases e;exact⟨_,hb⟩
theorem bH.to {w2:World} (hF:bH w' w2 x u') (hs:w.heap.size<=w'.heap.size) (ho:∀ k,u'.ownBlock=some k->u.ownBlock=some k\/w.heap.size<=k):∀ k,k<w.heap.size->k≠x.a.d->k≠x.a.g->k≠x.a.sb->k≠x.a.fb->k≠x.jb->k≠x.vb->u.ownBlock≠some k->w2.heap[k]? =w'.heap[k]? :=by
 intro k hk h1 h2 h3 h4 h5 h6 h7;refine hF.rest k (rY hk hs) h1 h2 h3 h4 h5 h6 (fun e=>?_);rcases ho k e with e2 | e2
 ·exact h7 e2
 ·omega
theorem bH.on {w2:World} (hG:bH w w' x u) (hF:bH w' w2 x u') (ho:∀ k,u'.ownBlock=some k->u.ownBlock=some k\/w.heap.size<=k):bH w w2 x u:=
 ⟨hF.os.trans hG.os,hF.tape.trans hG.tape,hF.output.trans hG.output,fU hG.size hF.size,fun k hk h1 h2 h3 h4 h5 h6 h7=>(bH.to hF hG.size ho k hk h1 h2 h3 h4 h5 h6 h7).trans (hG.rest k hk h1 h2 h3 h4 h5 h6 h7)⟩
theorem kH.push (k:kH w x h V D p u) (hg:w.grownBy w3 u.ownBlock) {t ch:ByteArray} (hr:w3.ownsRow x.lo 9 1 u' (V.texts.length+1) (strCells (V.texts++ [t]))):
  kH ((w3.setCell ⟨x.vb,3,none⟩ (.string ch)).setCell ⟨x.vb,5,none⟩ u') x h { V with chain:=ch,texts:=V.texts++ [t] } D p u'/\ak w3 x.vb 79 #[.pointer (some ⟨x.a.d,0,none⟩),.pointer (some ⟨x.jb,0,none⟩),.string V.root,.string V.chain,p,u,.bool false]:=by
 obtain⟨vj,hv⟩:=k.OZ;have hne:∀ j T cs,ak w j T cs->T≠9->some j≠u.ownBlock:=by
  intro j T cs hb hT e;obtain⟨cs2,hb2⟩:=k.aoM e.symm;exact hb.gY hb2 hT rfl
 have hb:=k.blk.grown hg (hne _ _ _ k.blk (by decide));have hd:aO w3 x.a D:=by
  cases hu:u.ownBlock with
  | none=>rw[hu] at hg;exact PW k.dev hg
  | some j=>
   rw[hu] at hg;obtain⟨_,q1⟩:=k.dev.aiQ;obtain⟨_,q2⟩:=k.dev.JJ;obtain⟨_,q4⟩:=k.dev.JK;exact k.dev.off hg ⟨fun e=>hne _ _ _ k.dev.blk (by decide) (by rw[hu,e]),fun e=>hne _ _ _ q1 (by decide) (by rw[hu,e]),fun e=>hne _ _ _ q2 (by decide) (by rw[hu,e]),k.own j hu,fun e=>hne _ _ _ q4 (by decide) (by rw[hu,e])⟩
 have hjb:=hv.blk.grown hg (hne _ _ _ hv.blk (by decide));have hjr:w3.ownsRow 0 134 2 vj V.J.l.length (dQ V.J.l):=by
  refine gI hv.row (fun j cs _ hbj=>hg.block j hbj.lt (hne _ _ _ hbj (by decide)))
 have hi:yI w3 p V.image x.a:=by
  refine yI.keep (V:=V) k.img (fun g T cs hbg _ _ _ hp=>?_);refine hg.block g hbg.lt (fun e=>?_);obtain⟨i,hp⟩:=hp;have h1:=k.Rw g i hp;have h2:=(k.row.lt g e.symm).1;omega
 refine⟨?_,hb⟩;have g1:=au w3 x.vb 3 (.string ch);have hb1:=hb.aB 3 (.string ch);have g2:=au (w3.setCell ⟨x.vb,3,none⟩ (.string ch)) x.vb 5 u';have hgg:=bG g1 g2;have hd1:aO (w3.setCell ⟨x.vb,3,none⟩ (.string ch)) x.a D:=eP hd hb (by decide) g1;refine⟨eP hd1 hb1 (by decide) g2,⟨vj,hjb.grown hgg (fun e=>hb.gY hjb (by decide) (Option.some.inj e).symm),hjr.kept hgg (.inr (aA hjr hb (by decide)))⟩,hb1.aB 5 u',?_,?_,k.acV,k.Rw,?_⟩
 ·refine yI.keep (V:=V) hi (fun g T cs hbg hT _ _ _=>?_);refine hgg.block g hbg.lt (fun e=>?_);have e2:g=x.vb:=Option.some.inj e;rcases hT with rfl | rfl
  ·exact hb.gY hbg (by decide) e2.symm
  ·exact hb.gY hbg (by decide) e2.symm
 ·have hr2:=hr.kept hgg (.inr (aA hr hb (by decide)));have hl:(V.texts++ [t]).length=V.texts.length+1:=by rw[kM];rfl
  show World.ownsRow _ x.lo 9 1 u' (V.texts++ [t]).length _
  rw[hl];exact hr2
 ·have:=k.Y8;have:=hgg.size;have:=hg.size;omega
theorem bH.str {w0:World} (hF:bH w w' x u) (k:kH w0 x h V D p u) (hw:∀ j T cs,ak w0 j T cs->ak w j T cs) {g:Nat} {cs:Array Value} (hb:ak w g 9 cs) (h1:g≠x.a.sb) (h2:u.ownBlock≠some g):ak w' g 9 cs:=by
 obtain⟨vj,hv⟩:=k.OZ;obtain⟨_,q2⟩:=k.dev.JJ;obtain⟨_,q4⟩:=k.dev.JK;exact(hF.rest g hb.lt (fun e=>(hw _ _ _ k.dev.blk).gY hb (by decide) e.symm) (fun e=>(hw _ _ _ q2).gY hb (by decide) e.symm) h1 (fun e=>(hw _ _ _ q4).gY hb (by decide) e.symm) (fun e=>(hw _ _ _ hv.blk).gY hb (by decide) e.symm) (fun e=>(hw _ _ _ k.blk).gY hb (by decide) e.symm) h2).trans hb
theorem OO (l:List ByteArray) (t:ByteArray):strCells (l++ [t])=strCells l++ [.string t]:=by simp[strCells]
theorem Ro (k:kH w x h V D p u) (I:jy h V D b) (hb:b<=255) (t:ByteArray) (ht:t.size<=7971) (hD:D.M.length<=4096) (hll:V.J.l.length<=1048576) (htx:V.texts.length<=1048576) (OD:KL w x u):
  Calls Tryz.prog 16 #[.pointer (some ⟨x.vb,0,none⟩),.string t] w (eU w x h p u (dX h V D t)):=by
 have hck:=wO k t 7971;rw[if_neg (by omega)] at hck;have HCK:=zh hck;have hrs:(jQ t).size<=7972:=by rw[Ed];omega
 have HW:Hid (∀ wx,Below w.heap.size w wx->Calls Tryz.prog 49 #[.pointer (some ⟨x.vb,0,none⟩),.string V.root,.string (jQ t),.func (.func 50) #[.pointer (some ⟨x.jb,0,none⟩)] #[]] wx (OE wx x h V D p u (aV V.root V.J.next (jQ t)) (gK h (aV V.root V.J.next (jQ t)) V.J D))):=fun wx hB=>
  SG (k.below hB) I.on I.CJ hb I.dL hll I.chain V.root (jQ t) I.root.1 hrs hD (OD.on (bH.bD hB))
 have hun:dX h V D t=match gK h (aV V.root V.J.next (jQ t)) V.J D with
  | .err c=>(c,some V,D)
  | .down D'=>(14,none,D')
  | .ok n J' D'=>dR (dG V.chain n (aV V.root V.J.next (jQ t))) ⟨J',V.root,dG V.chain n (aV V.root V.J.next (jQ t)),V.image,V.texts++ [t]⟩ D':=by
  unfold dX;rw[if_neg (by omega)];rfl
 rw[hun];obtain⟨B,hB⟩:∃ B,aV V.root V.J.next (jQ t)=B:=⟨_,rfl⟩;rw[hB] at HW ⊢;obtain⟨T,hT⟩:∃ T,jQ t=T:=⟨_,rfl⟩;have hA:∀ wx,(Op.stringOp .add ⟨#[82]⟩ t).run Tryz.prog wx= .ok (.string T) wx:=fun wx=>by rw[<-hT];exact run_string_add_sum wx _ _ (by show 1+t.size<=_;omega)
 rw[hT] at HW;have hcases:(∃ c,gK h B V.J D= .err c/\c=15)\/(∃ D',gK h B V.J D= .down D')\/(∃ n J' D',gK h B V.J D= .ok n J' D'/\nM D'/\D'.slots.length=3):=by
  have hs3:D.slots.length=3:=by rw[I.slots];rfl
  rcases lH (h:=h) (D:=D) B V.J with⟨_,a⟩ | ⟨_,_,a⟩ | ⟨_,hl,a⟩
  ·exact .inl ⟨15,a,rfl⟩
  ·exact .inr (.inl ⟨_,a⟩)
  ·exact .inr (.inr ⟨_,_,_,a,Fe I.on hl,hs3⟩)
 obtain⟨r,hr⟩:∃ r,gK h B V.J D=r:=⟨_,rfl⟩;rw[hr] at HW hcases ⊢;have KK:=zh k;obtain⟨c0,c1,c2,c3,c4,c5,c6⟩:=k.cells;have HC:=zh hcases;have HX:=zh htx;have hsz:Hid (w.heap.size=w.heap.size):=rfl;clear hck hun hB hT hr k I hb ht hD hll htx OD hcases hrs;go_enter Tryz.func16,Tryz.ntmps16;go_wp2_with (first | (go_at_call 48;refine HCK.out.mono ?_;rintro e w1 ⟨rfl,rfl⟩))
 go_region_held3 (fun W=>W.cell? ⟨x.vb,2,none⟩=some (.string V.root)/\W.cell? ⟨x.vb,1,none⟩=some (.pointer (some ⟨x.jb,0,none⟩))) (go_keep)
  (first | (go_at_call 49;refine(HW.out _ (bK w.heap.size w).drew).mono ?_;rintro e w1 ⟨rfl,hF,⟨cb,hbk⟩,hpost⟩;have y1:=hbk.cell 1;have y2:=hbk.cell 2))
 have HF:=zh ((bH.bD (x:=x) (u:=u) ((bK w.heap.size w).drew)).trans hF);clear y1 y2 c0 c1 c2 c3 c4 c5 c6 hF HW HCK hA;rcases HC.out with⟨c,rfl,rfl⟩ | ⟨D',rfl⟩ | ⟨n,J',D',rfl,hon,hs3⟩
 ·have K1:Hid (kH w1 x h V D p u):=hpost;clear hpost hbk;go_wp2_with fail;go_ret;exact eU.mk rfl HF.out K1.out.dev (fun V' e=>by cases e;exact⟨x.lo,p,u,K1.out,Later.refl _ _ _⟩)
 ·have K1:Hid (aO w1 x.a D'):=hpost;clear hpost hbk;go_wp2_with fail;go_ret;exact eU.mk rfl HF.out K1.out (fun _ e=>by cases e)
 ·have K1:Hid (kH w1 x h { V with J:=J' } D' p u):=hpost;obtain⟨L,hL⟩:∃ L,dG V.chain n B=L:=⟨_,rfl⟩;have hLs:Hid (L.size=32):=by unfold Hid;rw[<-hL];exact AU _ _ _
  have hws:wrS V B (.ok n J' D')=L:=hL;have hwe:wrE (.ok n J' D')=0:=rfl;obtain⟨i0,hi,hz0,hz1,hz2⟩:=info_parts iw;obtain⟨N,hN⟩:∃ N,V.texts.length=N:=⟨_,rfl⟩;have hrow:=K1.out.row;have hrow':w1.ownsRow x.lo 9 1 u N (strCells V.texts):=by rw[<-hN];exact hrow
  have hlo:=K1.out.Y8;have hle:Hid (N+1<=maxLen/\(N+1)*16<=140737488355328):=by have:=HX.out;unfold Hid maxLen;omega
  obtain⟨d0,d1,d2,d3,d4,d5,d6⟩:=K1.out.cells;have HR:=zh hrow';have HLo:=zh hlo;have HN:=zh hN;have Hon:=zh hon;have Hs3:=zh hs3;have HLe:=zh hL;rw[hws,hwe];clear hpost hbk hrow hrow' hlo hN hws hwe hon hs3 hL;go_upto_region 7 with fail;go_wp2_with (at_builtin;refine wpList_append_own_at _ rfl _ _ 35 rfl x.lo 9 i0 _ 1 16 Tryz.underlying35 hi hz0 hz1 hz2 rfl (by decide) u N (strCells V.texts) rfl (HR.out.alloc _) ⟨w1.heap.size,0,none⟩ 1 1 [.string t] rfl rfl ?q1 ?q2 ?q3 ?q4 ?q5 ?_);try (case q1=>exact gG (ak.new w1 9 #[.string t]))
  case q2=>simp[Value.oneCell']
  case q3=>exact hle.out.1
  case q4=>exact hle.out.2
  case q5=>have:=HLo.out;simp;omega
  intro v' w3 hr3 hg3 hn3 ho3;obtain⟨A9,c9,rfl⟩:=Sec.aJ hr3;obtain⟨v',hv'⟩:∃ v',v'=Value.slice A9 (N+1) c9:=⟨_,rfl⟩;rw[<-hv'] at hr3 ho3;rw[<-OO,<-HN.out] at hr3;have hB1:Below w1.heap.size w1 (w1.alloc (.cells #[.string t] 9)):=(bK _ _).alloc (aF _) _;have K2:=K1.out.below hB1;obtain⟨K3,hb3⟩:=kH.push (ch:=L) K2 hg3 hr3;have y3:=hb3.cell 3;have y5:=hb3.cell 5;have f3:=hb3.frozen 3;have f5:=hb3.frozen 5;have K3H:=zh K3;have F3:=zh (((HF.out.trans (bH.bD hB1)).grown hg3 |>.set 3 (.string L)).set 5 v');have hown:Hid (∀ k,v'.ownBlock=some k->u.ownBlock=some k\/w.heap.size<=k):=by
   intro k e;rcases ho3 with e2 | e2
   ·exact .inl (e2.symm.trans e)
   ·rw[e2] at e;cases e
    right
    have:=HF.out.size;omega
  rw[hv'] at K3H F3;clear hr3 hg3 hn3 ho3 K2 K3 hb3 hB1 K1 HR d0 d1 d2 d3 d4 d5 d6;go_wp2_with fail;refine(mD K3H.out Hon.out 1 (by rw[Hs3.out];decide) L hLs.out).mono ?_;rintro e w4 ⟨rfl,EX,hd4,hv4⟩;have Fin:=zh (And.intro EX (And.intro hd4 hv4));clear EX hd4 hv4;go_wp2_with fail;go_ret;have F4:=F3.out.on Fin.out.1 (by rw[<-hv'];exact hown.out);have hL:=HLe.out;subst hL;rcases mg Hon.out (1,dG V.chain n B) with e0 | e0
  ·refine eU.mk ?_ F4 ?_ ?_
   ·show _=Ending.returned (.int .i64 (dR (dG V.chain n B) ⟨J',V.root,dG V.chain n B,V.image,V.texts++ [t]⟩ D').1)
    unfold dR;rw[if_pos e0,e0];rfl
   ·show aO w4 x.a (dR (dG V.chain n B) ⟨J',V.root,dG V.chain n B,V.image,V.texts++ [t]⟩ D').2.2
    unfold dR;rw[if_pos e0];exact Fin.out.2.1
   ·show ∀ V',(dR (dG V.chain n B) ⟨J',V.root,dG V.chain n B,V.image,V.texts++ [t]⟩ D').2.1=some V'->_
    unfold dR;rw[if_pos e0];intro V' e;cases e;exact⟨x.lo,p,_,Fin.out.2.2 e0,⟨by rw[<-hv'];exact hown.out,fun _ _ _=> .inl rfl⟩⟩
  ·have e1:¬ (D'.slot (1,dG V.chain n B)).1=0:=by rw[e0];decide
   refine eU.mk ?_ F4 ?_ ?_
   ·show _=Ending.returned (.int .i64 (dR (dG V.chain n B) ⟨J',V.root,dG V.chain n B,V.image,V.texts++ [t]⟩ D').1)
    unfold dR;rw[if_neg e1,e0];rfl
   ·show aO w4 x.a (dR (dG V.chain n B) ⟨J',V.root,dG V.chain n B,V.image,V.texts++ [t]⟩ D').2.2
    unfold dR;rw[if_neg e1];exact Fin.out.2.1
   ·show ∀ V',(dR (dG V.chain n B) ⟨J',V.root,dG V.chain n B,V.image,V.texts++ [t]⟩ D').2.1=some V'->_
    unfold dR;rw[if_neg e1];intro V' e;cases e
end
end Go.Proofs.YtpghocekofdpbaaGreatDoor
