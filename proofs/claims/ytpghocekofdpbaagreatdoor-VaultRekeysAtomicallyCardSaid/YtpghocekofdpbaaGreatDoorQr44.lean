import Derived.Test.YtpghocekofdpbaaGreatDoorQr43
set_option maxRecDepth 1000000
set_option maxHeartbeats 4000000
namespace Go.Proofs.YtpghocekofdpbaaGreatDoor
section
open Go.RowKit Go.Shelf
attribute [local go_sem] Oper.semAt_some
def J9 (n f:Nat):mJ:=⟨bT (n/2) (List.replicate n Sec.blank),bV f,zero32,none,[]⟩
def Oe (n f:Nat):Dev:= { dN n 3 2 with slots:= [bV f,zero32,zero32] }
theorem Vk (n f:Nat):(dN n 3 2).slot (0,bV f)=(0,Oe n f):=by
 unfold Dev.slot Dev.jq;rfl
theorem ab7 (n:Nat):nM (dN n 3 2):=⟨rfl,by show -1<=(-1:Int)/\(-1:Int)<=9223372036854775807;decide⟩
theorem ab8 (n f:Nat) (h:2<=n):jy (n/2) (J9 n f) (Oe n f) 1:=by
 have hi:=yR n (n/2) (by omega) (by omega);have hj:=L9 n (n/2) (by omega) (by omega);refine⟨⟨rfl,by show -1<=(-1:Int)/\(-1:Int)<=9223372036854775807;decide⟩,hj.open_ (by decide),rfl,rfl,⟨ny f,nC f⟩,rd0,?_,rfl,rfl,rfl⟩;have hl:=(mP hi).2.2;show jR _ (bT (n/2) (List.replicate n Sec.blank)).l=_
 rw[hl];rfl
section
variable {w:World}
theorem Y6 {a:nP} {D:Dev} (hd:aO w a D) (hn:D.M.length=1):Calls Tryz.prog 65 #[.pointer (some ⟨a.d,0,none⟩)] w fun e w'=>e= .returned (.tuple #[.pointer none,.int .i64 1])/\Below w.heap.size w w':=by
 have HS:=zh (Et hd);rw[hn] at HS;have hq:Int.tdiv ((1:Nat):Int) 2=0:=by decide
 clear hd hn;go_enter Tryz.func65,Tryz.ntmps65;go_wp2_with (first | (go_at_call 103;refine HS.out.mono ?_;rintro e w1 ⟨rfl,rfl⟩));have hJ0:Hid (JO w (((w.alloc (.cells #[.pointer (some ⟨a.d,0,none⟩),.int .i64 0,.int .i64 0,.int .i64 0,.int .i64 1,.slice none 0 0,.bool false,.bool false] 126)).alloc (.cells #[.pointer (some ⟨w.heap.size,0,none⟩)] 76)).alloc (.cells #[.slice none 0 0] 35)) a 0 1 0 (.slice none 0 0) []):=by
  have b1:=(bK _ w).alloc (aF _) (.cells #[.pointer (some ⟨a.d,0,none⟩),.int .i64 0,.int .i64 0,.int .i64 0,.int .i64 1,.slice none 0 0,.bool false,.bool false] 126);have b2:=b1.alloc b1.size (.cells #[.pointer (some ⟨w.heap.size,0,none⟩)] 76);have b3:=b2.alloc b2.size (.cells #[.slice none 0 0] 35);refine⟨((ak.new w _ _).alloc _).alloc _,?_,?_,Ju _ _ _ _,b3⟩
  ·have:=(ak.new (w.alloc (.cells #[.pointer (some ⟨a.d,0,none⟩),.int .i64 0,.int .i64 0,.int .i64 0,.int .i64 1,.slice none 0 0,.bool false,.bool false] 126)) 76 #[.pointer (some ⟨w.heap.size,0,none⟩)]).alloc (.cells #[.slice none 0 0] 35);rw[oz] at this;exact this
  ·have:=ak.new ((w.alloc (.cells #[.pointer (some ⟨a.d,0,none⟩),.int .i64 0,.int .i64 0,.int .i64 0,.int .i64 1,.slice none 0 0,.bool false,.bool false] 126)).alloc (.cells #[.pointer (some ⟨w.heap.size,0,none⟩)] 76)) 35 #[.slice none 0 0];rw[oz,oz] at this;exact this
 generalize (((w.alloc (.cells #[.pointer (some ⟨a.d,0,none⟩),.int .i64 0,.int .i64 0,.int .i64 0,.int .i64 1,.slice none 0 0,.bool false,.bool false] 126)).alloc (.cells #[.pointer (some ⟨w.heap.size,0,none⟩)] 76)).alloc (.cells #[.slice none 0 0] 35))=w0 at *;go_loopw [25] (fun i wr=>i= .int .i64 0/\Hid (JO w wr a 0 1 0 (.slice none 0 0) [])) (fun _ _=>0)
 case atStart=>exact⟨rfl,hJ0⟩
 case round=>
  obtain⟨rfl,hJ⟩:=hrel;have c1:=hJ.out.c.cell 0;have c4:=hJ.out.j.cell 1;go_wp2_with fail;go_ret2;exact⟨rfl,hJ.out.b⟩
theorem Rq {a:nP} {D:Dev} (hd:aO w a D) (hn:D.M.length=1) (hdn:D.down=false) (hs:D.slots= [zero32,zero32,zero32]) (root:ByteArray):Calls Tryz.prog 46 #[.pointer (some ⟨a.d,0,none⟩),.string root] w fun e w'=>e= .returned (.tuple #[.pointer none,.int .i64 1])/\Below w.heap.size w w':=by
 have HV:Hid (Calls Tryz.prog 64 #[.pointer (some ⟨a.d,0,none⟩)] w fun e w'=>e= .returned (.tuple #[.agg #[.string zero32,.string zero32,.string zero32],.int .i64 0])/\Below w.heap.size w w'):=yE hd hdn hs;have HO:Hid (∀ wx,Below w.heap.size w wx->Calls Tryz.prog 65 #[.pointer (some ⟨a.d,0,none⟩)] wx fun e w'=>e= .returned (.tuple #[.pointer none,.int .i64 1])/\Below wx.heap.size wx w'):=fun wx hB=>Y6 (hd.below hB) hn
 obtain⟨Z,hZ⟩:∃ Z,zero32=Z:=⟨_,rfl⟩;rw[hZ] at HV;clear hd hn hdn hs hZ;go_enter Tryz.func46,Tryz.ntmps46;go_wp2_with (first
  | (go_at_call 64;refine HV.out.mono ?_;rintro e w1 ⟨rfl,hB1⟩;obtain⟨wA,hwA⟩:∃ wA,w1.alloc (.cells #[.string Z,.string Z,.string Z] 96)=wA:=⟨_,rfl⟩;have Vl:Hid (Below w.heap.size w wA):=(by rw[<-hwA];exact hB1.alloc hB1.size _);clear hB1)
  | (go_at_call 65;refine(HO.out _ Vl.out).mono ?_;rintro e w2 ⟨rfl,hB2⟩;have HB2:=zh hB2;clear hB2))
 go_ret2;exact⟨rfl,Vl.out.trans (HB2.out.mono Vl.out.size)⟩
theorem Y7 (n:Int) (f:Nat) (hf:f<256) (h:n<2):Calls Tryz.prog 13 #[.int .i64 n,.int .u8 f] w fun e w'=>e= .returned (.tuple #[.pointer none,.bool false])/\Below w.heap.size w w':=by
 by_cases h1:n<1
 ·have HD:=zh (aay w n 3 2 (by omega));clear h h1;go_enter Tryz.func13,Tryz.ntmps13;go_wp2_with (first | (go_at_call 45;refine HD.out.mono ?_;rintro e w1 ⟨rfl,hB⟩));go_ret2;exact⟨rfl,hB⟩
 ·obtain rfl:n=((1:Nat):Int):=by omega
  have HD:=zh (Wn w 1 3 2 (by decide) (by decide) (by decide));have HR:Hid (∀ wx,Calls Tryz.prog 26 #[.int .u8 f] wx fun e w'=>e= .returned (.string (bV f))/\Below wx.heap.size wx w'):=fun wx=>zA wx f hf
  generalize bV f=R at HR;clear h h1 hf;go_enter Tryz.func13,Tryz.ntmps13;go_wp2_with (first
   | (go_at_call 45;refine HD.out.mono ?_;rintro e w1 ⟨a,rfl,hd,_,hB⟩;have HDv:=zh hd;have HB1:=zh hB;clear hd hB)
   | (go_at_call 26;refine(HR.out _).mono ?_;rintro e w2 ⟨rfl,hB⟩;have HB2:=zh hB;clear hB)
   | (go_at_call 46;refine(Rq (HDv.out.below HB2.out) rfl rfl rfl R).mono ?_;rintro e w3 ⟨rfl,hB⟩;have HB3:=zh hB;clear hB))
  go_ret2;have h12:=HB1.out.trans (HB2.out.mono HB1.out.size);exact⟨rfl,h12.trans (HB3.out.mono h12.size)⟩
structure ab9 (W w w':World) (h:Nat) (V:mJ) (D:Dev) (x:uX) (pb:Nat) (p u:Value):Prop where
 st:uY W w' x pb h V D 1 p u
 bel:Below w.heap.size w w'
 back:CG w.heap.size x u
 at_:w.heap.size<=pb
 none:p= .pointer none
theorem Rt {W:World} (hW:Below W.heap.size W w) (n f:Nat) (hn:2<=n/\n<=24) (hf:f<256):Calls Tryz.prog 13 #[.int .i64 n,.int .u8 f] w fun e w'=>∃ x pb p u,e= .returned (.tuple #[.pointer (some ⟨pb,0,none⟩),.bool true])/\ab9 W w w' (n/2) (J9 n f) (Oe n f) x pb p u:=by
 have HD:=zh (Wn w n 3 2 (by omega) (by decide) (by decide));have HR:Hid (∀ wx,Calls Tryz.prog 26 #[.int .u8 f] wx fun e w'=>e= .returned (.string (bV f))/\Below wx.heap.size wx w'):=fun wx=>zA wx f hf
 have hi:=yR n (n/2) (by omega) (by omega);have HC:Hid (∀ (wx:World) (a:nP),aO wx a (dN n 3 2)->Calls Tryz.prog 46 #[.pointer (some ⟨a.d,0,none⟩),.string (bV f)] wx fun e w'=>zB wx a (n/2) (0,some (J9 n f),Oe n f) e w'):=fun wx a hd=>by
  have hM:(dN n 3 2).M=List.replicate n Sec.blank:=rfl;have hlen:(dN n 3 2).M.length=n:=FT ..;have h:=Ru hd (ab7 n) (by rw[hM];exact hi.fine) (by rw[hM];exact hi.clean) (n/2) (by rw[hlen]) (by omega) (by rw[hlen];omega) rfl (bV f) (ny f) (nC f) (by rw[hM];exact(mP hi).2.2);rw[Vk,if_pos rfl] at h;exact h
 have HI:=zh (ab8 n f hn.1);have HL:Hid ((Oe n f).M.length=n):=FT ..;have Hn:=zh hn;have HW:=zh hW;have HT:Hid ((J9 n f).image=none/\(J9 n f).texts= []):=⟨rfl,rfl⟩;generalize J9 n f=V at HC HI HT ⊢;generalize Oe n f=D at HC HI HL ⊢;generalize bV f=R at HR HC;clear hn hf hi hW;go_enter Tryz.func13,Tryz.ntmps13;go_wp2_with (first
  | (go_at_call 45;refine HD.out.mono ?_;rintro e w1 ⟨a,rfl,hd,hs,hB⟩;have HDv:=zh hd;have HSz:=zh hs;have HB1:=zh hB;clear hd hB hs)
  | (go_at_call 26;refine(HR.out _).mono ?_;rintro e w2 ⟨rfl,hB⟩;have HB2:=zh hB;clear hB))
 refine(HC.out _ a (HDv.out.below HB2.out)).mono ?_;intro e w3 hO;obtain⟨hL,hd3,hor⟩:=hO;rcases hor with⟨h0,_⟩ | ⟨V1,x,p,u,hV1,hxa,rfl,wJ,hj,hv,hlo⟩
 ·cases h0
 ·cases hV1;have Vm:=HB1.out.trans (HB2.out.mono HB1.out.size);have hB3:Below w.heap.size w w3:=iP.below hL Vm Vm.size HSz.out.1 HSz.out.2.1 HSz.out.2.2.1 HSz.out.2.2.2;have hs2:=Vm.size;have hs3:=hB3.size;have hbk:Hid (CG w.heap.size x u):=⟨by rw[hxa];exact HSz.out.1,by rw[hxa];exact HSz.out.2.1,by rw[hxa];exact HSz.out.2.2.1,by rw[hxa];exact HSz.out.2.2.2,fU hs2 hj,fU hs2 hv,fun k e=>by have:=(wJ.row.lt k e).1;omega⟩;have hp0:Hid (p= .pointer none):=by
   rcases wJ.img with⟨_,e2⟩ | ⟨_,_,_,_,_,e1,_⟩
   ·exact e2
   ·rw[HT.out.1] at e1;cases e1
  have hB4:Hid (Below w3.heap.size w3 (w3.alloc (.cells #[.pointer (some ⟨x.a.d,0,none⟩),.pointer (some ⟨x.vb,0,none⟩),.slice none 0 0] 37))):=(bK _ _).alloc (aF _) _;have hbp:Hid (ak (w3.alloc (.cells #[.pointer (some ⟨x.a.d,0,none⟩),.pointer (some ⟨x.vb,0,none⟩),.slice none 0 0] 37)) w3.heap.size 37 #[.pointer (some ⟨x.a.d,0,none⟩),.pointer (some ⟨x.vb,0,none⟩),.slice none 0 0]):=ak.new _ _ _;have hWs:=HW.out.size;have hbW:Hid (CG W.heap.size x u):=⟨fU hWs hbk.out.d,fU hWs hbk.out.g,fU hWs hbk.out.sb,fU hWs hbk.out.fb,fU hWs hbk.out.jb,fU hWs hbk.out.vb,fun k e=>fU hWs (hbk.out.u k e)⟩;have Fin:Hid (ab9 W w (w3.alloc (.cells #[.pointer (some ⟨x.a.d,0,none⟩),.pointer (some ⟨x.vb,0,none⟩),.slice none 0 0] 37)) (n/2) V D x w3.heap.size p u):=by
   refine⟨⟨wJ.below hB4.out,HI.out,hbp.out,?_,hbW.out,by rw[HL.out];exact Hn.out.2,by rw[HL.out],fU hWs hs3⟩,hB3.trans (hB4.out.mono hs3),hbk.out,hs3,hp0.out⟩;have h3:=hB3.trans (hB4.out.mono hs3);exact HW.out.trans (h3.mono hWs)
  have Hxa:=zh hxa;clear hL hd3 wJ hj hv hlo Vm hB3 hs2 hs3 hWs hxa;go_wp2_with fail;go_ret2;refine⟨x,_,p,u,rfl,?_⟩;rw[<-Hxa.out];exact Fin.out
end
end
section
open Sec (aj)
def Fq:ByteArray:=⟨#[96,183,199,1,178,246,168,18,152,15,190,81,57,105,156,14,164,205,4,180,14,248,193,179,140,2,95,216,220,92]⟩
def Jf:ByteArray:=⟨#[134,208,224,19,11,247,185,222,171,68,74,127,39,222,92,188,125,24,182,235,29,121,120,136,206,11,188,23,109,132]⟩
def acB:ByteArray:=⟨#[158,58,252,65,165,233,249,56,78,148,162,58,138,121,229,160,228,224,180,21,203,87,35,112,118,249,65,125,33,176]⟩
def Jg:ByteArray:=⟨#[179,220,16,177,141,3,37,14,167,148,52,221,23,52,3,109,114,3,50,116,188,249,233,164,118,78,196,188,69,83,34,137]⟩
def Jh:ByteArray:=⟨#[99,39,228,27,87,255,2,240,197,67,72,221,101,95,221,255,253,43,196,159,180,166,139,213,48,45,217,159,33,96,125,134]⟩
def yG:ByteArray:=⟨#[59,249,83,36,29,188,54,34,183,19,112,60,70,145,23,74,66,95,73,203,246,188,200,170,245,56,111,228,61,128,70,162]⟩
def acC:ByteArray:=⟨#[134,198,78,225,40,147,166,246,73,155,96,225,217,187,170,220,213,251,198,209,31,69,205,97,179,140,203,80,18,123,28,81,9,200,135,153,251,157,26,198,232,174,62,214,208,223,10,150,74,132,0,203,185,167,84,118,231,125,131,52,255,73,55,128,73,100]⟩
def Ji:ByteArray:=⟨#[81,25,9,155,170,100,35,156,91,25,254,168,83,113,174,27,138,21,251,199,210,87,20,189,235,145,103,158,208,230,60,211]⟩
def acD:ByteArray:=⟨#[223,55,33,156,163,76,60,110,70,154,205,236,192,176,13,214,85,56,238,136,158,252,200,24,9,38,215,66,224,202,227,24,53,28,24,235,112,71,42,46,168,121,106,189,17,51,113,41,196,73,174,244,121,61,216,8,157,198,99,5,41,239,79,235]⟩
def wU:ByteArray:=⟨#[5,85,202,75,31,11,136,187,221,214,190,147,138,101,153,188,236,132,68,209,44,46,165,118,119,101,25,149,121,248,169,122]⟩
def RU:ByteArray:=⟨#[167,191,43,207,55,204,28,178,65,141,151,34,73,119,214,107,57,22,73,127,181,131,66,86,54,47,170,213,8,254,126,111]⟩
theorem CZ:kQ (bV 5)= [48,188,123,192,172,236,181,125,218,120,136,238,145,192,9,235,239,188,55,195,171,44,240,102,173,211,2,217,110,120,165,107]:=by kernel_rfl
theorem acE:kQ (bV 9)= [91,170,204,121,225,9,235,152,147,103,74,162,79,119,150,30,14,208,90,52,245,12,157,23,3,180,221,93,171,63,78,20]:=by kernel_rfl
theorem Oz:tX [48,188,123,192,172,236,181,125,218,120,136,238,145,192,9,235,239,188,55,195,171,44,240,102,173,211,2,217,110,120,165,107]= [158,206,18,71,220,23,143,127,23,201,50,119,110,121,135,87,192,167,224,87,170,6,174,223,36,145,33,217,241,248,42,97]:=by kernel_rfl
theorem OA:nZ [48,188,123,192,172,236,181,125,218,120,136,238,145,192,9,235,239,188,55,195,171,44,240,102,173,211,2,217,110,120,165,107]= [138,26,230,224,97,248,18,169,135,102,221,64,237,38,118,135,24,58,187,88,221,244,45,54,216,207,132,166,104,76,74,62]:=by kernel_rfl
theorem ahn:tX [91,170,204,121,225,9,235,152,147,103,74,162,79,119,150,30,14,208,90,52,245,12,157,23,3,180,221,93,171,63,78,20]= [89,47,140,102,161,190,169,75,65,140,174,135,68,9,191,185,78,54,152,199,17,112,246,90,167,167,215,127,37,30,93,125]:=by kernel_rfl
theorem aho:nZ [91,170,204,121,225,9,235,152,147,103,74,162,79,119,150,30,14,208,90,52,245,12,157,23,3,180,221,93,171,63,78,20]= [33,79,226,40,33,24,27,118,25,3,228,132,174,178,219,0,192,67,67,186,45,41,29,196,18,75,46,148,183,100,247,33]:=by kernel_rfl
theorem rW {root ahp b:ByteArray} {no:Nat} {k e m n c g:List UInt8} (h1:kQ root=k) (h2:tX k=e) (h3:nZ k=m) (h4:gW m (fK no) (bl ahp)=n) (h5:lS e 1 n (bl ahp)=c) (h6:tY m n (fK no) c=g) (h7:txt (n++c++g)=b):aV root no ahp=b:=by
 unfold aV pX;rw[h1];dsimp only;rw[h2,h3,h4,h5,h6];exact h7
theorem aeE:gW [138,26,230,224,97,248,18,169,135,102,221,64,237,38,118,135,24,58,187,88,221,244,45,54,216,207,132,166,104,76,74,62] (fK 1) (bl (jQ ⟨#[97]⟩))= [96,183,199,1,178,246,168,18,152,15,190,81]:=by kernel_rfl
theorem aeF:lS [158,206,18,71,220,23,143,127,23,201,50,119,110,121,135,87,192,167,224,87,170,6,174,223,36,145,33,217,241,248,42,97] 1 [96,183,199,1,178,246,168,18,152,15,190,81] (bl (jQ ⟨#[97]⟩))= [57,105]:=by kernel_rfl
theorem aeG:tY [138,26,230,224,97,248,18,169,135,102,221,64,237,38,118,135,24,58,187,88,221,244,45,54,216,207,132,166,104,76,74,62] [96,183,199,1,178,246,168,18,152,15,190,81] (fK 1) [57,105]= [156,14,164,205,4,180,14,248,193,179,140,2,95,216,220,92]:=by kernel_rfl
theorem acF:aV (bV 5) 1 (jQ ⟨#[97]⟩)=Fq:=rW CZ Oz OA aeE aeF aeG (by rfl)
theorem acG:dG zero32 1 Fq=Jg:=by kernel_rfl
theorem aeH:gW [138,26,230,224,97,248,18,169,135,102,221,64,237,38,118,135,24,58,187,88,221,244,45,54,216,207,132,166,104,76,74,62] (fK 2) (bl (jQ ⟨#[98]⟩))= [134,208,224,19,11,247,185,222,171,68,74,127]:=by kernel_rfl
theorem aeI:lS [158,206,18,71,220,23,143,127,23,201,50,119,110,121,135,87,192,167,224,87,170,6,174,223,36,145,33,217,241,248,42,97] 1 [134,208,224,19,11,247,185,222,171,68,74,127] (bl (jQ ⟨#[98]⟩))= [39,222]:=by kernel_rfl
theorem aeJ:tY [138,26,230,224,97,248,18,169,135,102,221,64,237,38,118,135,24,58,187,88,221,244,45,54,216,207,132,166,104,76,74,62] [134,208,224,19,11,247,185,222,171,68,74,127] (fK 2) [39,222]= [92,188,125,24,182,235,29,121,120,136,206,11,188,23,109,132]:=by kernel_rfl
theorem acH:aV (bV 5) 2 (jQ ⟨#[98]⟩)=Jf:=rW CZ Oz OA aeH aeI aeJ (by rfl)
theorem acI:dG Jg 2 Jf=Jh:=by kernel_rfl
theorem aeK:gW [138,26,230,224,97,248,18,169,135,102,221,64,237,38,118,135,24,58,187,88,221,244,45,54,216,207,132,166,104,76,74,62] (fK 3) (bl (jQ ⟨#[99]⟩))= [158,58,252,65,165,233,249,56,78,148,162,58]:=by kernel_rfl
theorem aeL:lS [158,206,18,71,220,23,143,127,23,201,50,119,110,121,135,87,192,167,224,87,170,6,174,223,36,145,33,217,241,248,42,97] 1 [158,58,252,65,165,233,249,56,78,148,162,58] (bl (jQ ⟨#[99]⟩))= [138,121]:=by kernel_rfl
theorem aeM:tY [138,26,230,224,97,248,18,169,135,102,221,64,237,38,118,135,24,58,187,88,221,244,45,54,216,207,132,166,104,76,74,62] [158,58,252,65,165,233,249,56,78,148,162,58] (fK 3) [138,121]= [229,160,228,224,180,21,203,87,35,112,118,249,65,125,33,176]:=by kernel_rfl
theorem ahq:aV (bV 5) 3 (jQ ⟨#[99]⟩)=acB:=rW CZ Oz OA aeK aeL aeM (by rfl)
theorem ahr:dG Jh 3 acB=yG:=by kernel_rfl
theorem aeN:gW [138,26,230,224,97,248,18,169,135,102,221,64,237,38,118,135,24,58,187,88,221,244,45,54,216,207,132,166,104,76,74,62] (fK 1) (bl (kY zero32 ⟨#[105,109,97,103,101]⟩))= [134,198,78,225,40,147,166,246,73,155,96,225]:=by kernel_rfl
theorem aeO:lS [158,206,18,71,220,23,143,127,23,201,50,119,110,121,135,87,192,167,224,87,170,6,174,223,36,145,33,217,241,248,42,97] 1 [134,198,78,225,40,147,166,246,73,155,96,225] (bl (kY zero32 ⟨#[105,109,97,103,101]⟩))= [217,187,170,220,213,251,198,209,31,69,205,97,179,140,203,80,18,123,28,81,9,200,135,153,251,157,26,198,232,174,62,214,208,223,10,150,74,132]:=by kernel_rfl
theorem aeP:tY [138,26,230,224,97,248,18,169,135,102,221,64,237,38,118,135,24,58,187,88,221,244,45,54,216,207,132,166,104,76,74,62] [134,198,78,225,40,147,166,246,73,155,96,225] (fK 1) [217,187,170,220,213,251,198,209,31,69,205,97,179,140,203,80,18,123,28,81,9,200,135,153,251,157,26,198,232,174,62,214,208,223,10,150,74,132]= [0,203,185,167,84,118,231,125,131,52,255,73,55,128,73,100]:=by kernel_rfl
theorem ahs:aV (bV 5) 1 (kY zero32 ⟨#[105,109,97,103,101]⟩)=acC:=rW CZ Oz OA aeN aeO aeP (by rfl)
theorem aht:dG zero32 1 acC=Ji:=by kernel_rfl
theorem aeQ:gW [33,79,226,40,33,24,27,118,25,3,228,132,174,178,219,0,192,67,67,186,45,41,29,196,18,75,46,148,183,100,247,33] (fK 2) (bl (kY Ji ⟨#[110,101,119]⟩))= [223,55,33,156,163,76,60,110,70,154,205,236]:=by kernel_rfl
theorem aeR:lS [89,47,140,102,161,190,169,75,65,140,174,135,68,9,191,185,78,54,152,199,17,112,246,90,167,167,215,127,37,30,93,125] 1 [223,55,33,156,163,76,60,110,70,154,205,236] (bl (kY Ji ⟨#[110,101,119]⟩))= [192,176,13,214,85,56,238,136,158,252,200,24,9,38,215,66,224,202,227,24,53,28,24,235,112,71,42,46,168,121,106,189,17,51,113,41]:=by kernel_rfl
theorem aeS:tY [33,79,226,40,33,24,27,118,25,3,228,132,174,178,219,0,192,67,67,186,45,41,29,196,18,75,46,148,183,100,247,33] [223,55,33,156,163,76,60,110,70,154,205,236] (fK 2) [192,176,13,214,85,56,238,136,158,252,200,24,9,38,215,66,224,202,227,24,53,28,24,235,112,71,42,46,168,121,106,189,17,51,113,41]= [196,73,174,244,121,61,216,8,157,198,99,5,41,239,79,235]:=by kernel_rfl
theorem ahu:aV (bV 9) 2 (kY Ji ⟨#[110,101,119]⟩)=acD:=rW acE ahn aho aeQ aeR aeS (by rfl)
theorem ahv:dG Ji 2 acD=wU:=by kernel_rfl
theorem ahw:dG wU 3 ⟨#[120]⟩=RU:=by kernel_rfl
theorem OB:yG≠Jh/\yG≠Jg/\RU≠wU:=by decide
def wV:mJ:=⟨J0,bV 5,zero32,none,[]⟩
def RV:mJ:=⟨⟨0,1,2,[(1,Fq)],false⟩,bV 5,Jg,none,[⟨#[97]⟩]⟩
def yH:mJ:=⟨⟨0,2,3,[(1,Fq),(2,Jf)],false⟩,bV 5,Jh,none,[⟨#[97]⟩,⟨#[98]⟩]⟩
def afV:mJ:=⟨⟨0,3,4,[(1,Fq),(2,Jf),(3,acB)],false⟩,bV 5,yG,none,[⟨#[97]⟩,⟨#[98]⟩,⟨#[99]⟩]⟩
def XA:mJ:=⟨⟨1,2,2,[(1,acC)],false⟩,bV 5,Ji,some ⟨#[105,109,97,103,101]⟩,[]⟩
def RX:mJ:=⟨⟨0,2,3,[(2,acD)],false⟩,bV 9,wU,some ⟨#[110,101,119]⟩,[]⟩
section
variable {h b:Nat} {V:mJ} {D:Dev}
def Ei (V:mJ) (t:ByteArray):mJ:=⟨⟨V.J.ay,V.J.used+aj (aV V.root V.J.next (jQ t)).size,V.J.next+1,V.J.l++ [(V.J.next,aV V.root V.J.next (jQ t))],false⟩,V.root,dG V.chain V.J.next (aV V.root V.J.next (jQ t)),V.image,V.texts++ [t]⟩
def zN (V:mJ) (root t:ByteArray):mJ:=⟨⟨1-V.J.ay,aj (aV root V.J.next (kY V.chain t)).size,V.J.next+1,[(V.J.next,aV root V.J.next (kY V.chain t))],false⟩,root,dG V.chain V.J.next (aV root V.J.next (kY V.chain t)),some t,[]⟩
theorem Fv {c:ByteArray} (h0:(dR c V D).1=0):dR c V D=(0,some V,(dR c V D).2.2):=by
 unfold dR at h0 ⊢;split
 ·rfl
 ·rename_i h1;rw[if_neg h1] at h0;cases h0
theorem Zx (h0:(rU V D).1=0):rU V D=(0,some V,(rU V D).2.2):=by
 unfold rU at h0 ⊢;split
 ·rfl
 ·rename_i h1;rw[if_neg h1] at h0;cases h0
theorem Fz (I:jy h V D b) (hb:b<255) (hl:D.left= -1) (t:ByteArray) (ht:t.size<=7971) (hr:V.J.used+aj (t.size+29)<=h):
  dX h V D t=(0,some (Ei V t),(dX h V D t).2.2)/\jy h (Ei V t) (dX h V D t).2.2 (b+1):=by
 have hsz:(aV V.root V.J.next (jQ t)).size=t.size+29:=by rw[nD,Ed]
 have hun:∃ D',dX h V D t=dR (dG V.chain V.J.next (aV V.root V.J.next (jQ t))) (Ei V t) D':=by
  unfold dX;rw[if_neg (by omega)];rcases lH (h:=h) (D:=D) (aV V.root V.J.next (jQ t)) V.J with⟨a,_⟩ | ⟨_,a,_⟩ | ⟨_,_,e⟩
  ·rw[hsz] at a;omega
  ·have:=a.1;omega
  ·rw[e];exact⟨_,rfl⟩
 rcases Jd I hb t ht with⟨a,_⟩ | ⟨_,e0,⟨V',e1,e2,_⟩,_⟩ | ⟨a,_⟩
 ·omega
 ·obtain⟨D',e⟩:=hun;rw[e] at e0;have h2:=Fv e0;rw[<-e] at h2;refine⟨h2,?_⟩;rw[h2] at e1;cases e1;exact e2
 ·omega
theorem C9 (hl:D.left= -1) (root t:ByteArray) (hc:V.chain.size=32) (hr:aj (t.size+61)<=h):∃ D',dY h V D root t=(0,some (zN V root t),D'):=by
 have hsz:(aV root V.J.next (kY V.chain t)).size=t.size+61:=by rw[nD,Ee,hc];omega
 unfold dY;rcases kJ (h:=h) (D:=D) (aV root V.J.next (kY V.chain t)) V.J with⟨a,_⟩ | ⟨_,a,_⟩ | ⟨_,_,e⟩
 ·rw[hsz] at a;omega
 ·have:=a.1;omega
 ·rw[e];exact⟨_,rfl⟩
theorem Kq (I:jy h V D b) (hb:b<255) (hl:D.left= -1) (t:ByteArray) (ht:t.size<=7939) (hr:aj (t.size+61)<=h):
  dK h V D t=(0,some (zN V V.root t),(dK h V D t).2.2)/\jy h (zN V V.root t) (dK h V D t).2.2 (b+1):=by
 have hun:∃ c D',dK h V D t=dR c (zN V V.root t) D':=by
  obtain⟨D',e⟩:=C9 hl V.root t I.chain hr;unfold dK;rw[if_neg (by omega),e];exact⟨_,_,rfl⟩
 rcases CW I hb t ht with⟨a,_⟩ | ⟨_,e0,⟨V',e1,e2,_⟩⟩ | ⟨a,_⟩
 ·omega
 ·obtain⟨c,D',e⟩:=hun;rw[e] at e0;have h2:=Fv e0;rw[<-e] at h2;refine⟨h2,?_⟩;rw[h2] at e1;cases e1;exact e2
 ·omega
theorem VE (I:jy h V D b) (hb:b<255) (hl:D.left= -1) (root t:ByteArray) (hroot:root.size=32/\root≠zero32) (ht:t.size<=7939) (hr:aj (t.size+61)<=h):
  eY h V D root t=(0,some (zN V root t),(eY h V D root t).2.2)/\jy h (zN V root t) (eY h V D root t).2.2 (b+1):=by
 have hs:(D.slot (2,root)).1=0:=by
  rcases iD I.on (2,root) with⟨a,_⟩ | ⟨_,e⟩
  ·omega
  ·rw[e]
 have hun:∃ D',eY h V D root t=rU (zN V root t) D':=by
  obtain⟨D',e⟩:=C9 (oQ hl (2,root)) root t I.chain hr;unfold eY;rw[if_neg (by omega),if_neg (by rw[hs];exact fun h=>h rfl),e];exact⟨_,rfl⟩
 have h0:(eY h V D root t).1=0:=by
  obtain⟨D',e⟩:=hun;rcases Eh I hb root t hroot ht with⟨a,_⟩ | ⟨a,_⟩ | ⟨a,_⟩
  ·rw[e] at a;unfold rU at a;split at a<;>cases a
  ·exact a
  ·omega
 have h2:eY h V D root t=(0,some (zN V root t),(eY h V D root t).2.2):=by
  obtain⟨D',e⟩:=hun;rw[e] at h0;have:=Zx h0;rw[<-e] at this;exact this
 refine⟨h2,?_⟩;rcases Eh I hb root t hroot ht with⟨a,_⟩ | ⟨_,⟨V',e1,e2,_⟩⟩ | ⟨a,_⟩
 ·rw[h0] at a;cases a
 ·rw[h2] at e1;cases e1;exact e2
 ·omega
theorem Zy (I:jy h V D b) (hn:V.J.next=nS V.J.l+1):iR h D=(0,some V,D):=by
 obtain⟨R,hR,e1,e2,e3⟩:=I.read;have hj:=PI I.CJ.inv;have h1:=Gy I.CJ.inv I.CJ.low;have h2:=(open_inv I.CJ.inv).last;have hJ:bT h D.M=V.J:=by
  rw[hj] at h1 h2 ⊢;have h2':nS V.J.l<iQ ((aP D.M).take (2*h)) 1:=h2;have h1':iQ ((aP D.M).take (2*h)) 1<=V.J.next:=h1;have h3:iQ ((aP D.M).take (2*h)) 1=V.J.next:=by omega
  rw[h3,<-I.dL]
 obtain⟨hr1,hr2⟩:=I.root;unfold iR;rw[I.slots];have g0:([V.root,V.chain,zero32]:List ByteArray).getD 0 ⟨#[]⟩=V.root:=rfl;have g1:([V.root,V.chain,zero32]:List ByteArray).getD 1 ⟨#[]⟩=V.chain:=rfl;have g2:([V.root,V.chain,zero32]:List ByteArray).getD 2 ⟨#[]⟩=zero32:=rfl;rw[g0,g1,g2,hJ,if_neg (fun a=>hr2 a.1),jX hr2 hR];dsimp only;rw[hR];dsimp only;have hnd:needed [V.root,V.chain,zero32] [(0,V.root),(1,R.chain),(2,zero32)]= []:=by
  unfold needed;rw[e1];simp
 rw[hnd,if_neg (fun a=>a.1 e1.symm),e1,e2,e3];exact if_pos rfl
end
theorem AB {h:Nat} {M M':List Sec} (e:aP M=aP M'):bT h M=bT h M':=by
 unfold bT fH;rw[e]
theorem acJ:Ei wV ⟨#[97]⟩=RV:=by
 unfold Ei;rw[show wV.J.next=1 from rfl,show wV.root=bV 5 from rfl,show wV.chain=zero32 from rfl,acF,acG];rfl
theorem acK:Ei RV ⟨#[98]⟩=yH:=by
 unfold Ei;rw[show RV.J.next=2 from rfl,show RV.root=bV 5 from rfl,show RV.chain=Jg from rfl,acH,acI];rfl
theorem acL:Ei yH ⟨#[99]⟩=afV:=by
 unfold Ei;rw[show yH.J.next=3 from rfl,show yH.root=bV 5 from rfl,show yH.chain=Jh from rfl,ahq,ahr];rfl
theorem acM:zN wV wV.root ⟨#[105,109,97,103,101]⟩=XA:=by
 unfold zN;rw[show wV.J.next=1 from rfl,show wV.root=bV 5 from rfl,show wV.chain=zero32 from rfl,ahs,aht];rfl
theorem acN:zN XA (bV 9) ⟨#[110,101,119]⟩=RX:=by
 unfold zN;rw[show XA.J.next=2 from rfl,show XA.chain=Ji from rfl,ahu,ahv];rfl
theorem Zz:J9 12 5=wV:=by
 have hi:=yR 12 6 (by decide) (by decide);have hj:=L9 12 6 (by decide) (by decide);have h1:=Gy hi hj.low;have h2:=(open_inv hi).next;have he:=PI hi;unfold J9 wV;rw[show 12/2=6 from rfl];rw[he] at h1 h2 ⊢;have h3:iQ ((aP (List.replicate 12 Sec.blank)).take (2*6)) 1=1:=zap h1 h2;rw[h3];rfl
theorem ZA {D:Dev} {_:List Sec} {D0:Dev} {b:Nat} (I:jy 6 yH D0 b) (hM:aP D.M=aP D0.M) (hs:D.slots= [bV 5,yG,zero32]):
  iR 6 D=(9,none,D)/\rootOf (bV 5) zero32 (bT 6 D.M).l=some (bV 5)/\jR (bV 5) (bT 6 D.M).l=some ⟨Jh,Jg,none,[⟨#[97]⟩,⟨#[98]⟩]⟩/\(bT 6 D.M).l= [(1,Fq),(2,Jf)]:=by
 have hJ:(bT 6 D.M).l= [(1,Fq),(2,Jf)]:=by
  rw[AB hM];exact(mP I.CJ.inv).2.2
 have hr:jR (bV 5) [(1,Fq),(2,Jf)]=some ⟨Jh,Jg,none,[⟨#[97]⟩,⟨#[98]⟩]⟩:=by
  have h0:jR (bV 5) []=some rd0:=rfl;have h1:=Ef h0 1 ⟨#[97]⟩;rw[acF,show rd0.chain=zero32 from rfl,acG] at h1;have h2:=Ef h1 2 ⟨#[98]⟩;rw[acH] at h2;dsimp only at h2;rw[acI] at h2;exact h2
 have hro:=jX (s2:=zero32) (nC 5) hr;refine⟨?_,by rw[hJ];exact hro,by rw[hJ];exact hr,hJ⟩;unfold iR;rw[hs];have g0:([bV 5,yG,zero32]:List ByteArray).getD 0 ⟨#[]⟩=bV 5:=rfl;have g1:([bV 5,yG,zero32]:List ByteArray).getD 1 ⟨#[]⟩=yG:=rfl;have g2:([bV 5,yG,zero32]:List ByteArray).getD 2 ⟨#[]⟩=zero32:=rfl;rw[g0,g1,g2,hJ,if_neg (fun a=>nC 5 a.1),hro];dsimp only;rw[hr];dsimp only;exact if_pos ⟨OB.1,.inr OB.2.1⟩
end
section
open Go.RowKit Go.Shelf
attribute [local go_sem] Oper.semAt_some
structure Off (x:uX) (u:Value) (y:uX) (p2 u2:Value):Prop where
 d:y.a.d≠x.a.d
 g:y.a.g≠x.a.g
 fb:y.a.fb≠x.a.fb
 jb:y.jb≠x.jb
 vb:y.vb≠x.vb
 s:∀ k,(k=x.a.sb\/u.ownBlock=some k)->k≠y.a.sb/\u2.ownBlock≠some k/\∀ i,p2≠ .pointer (some ⟨k,i,none⟩)
section
variable {W w w' w1 w2:World} {x y:uX} {h b lo pb qb h2 b2:Nat} {V V' V2:mJ} {D E D2:Dev} {p u p' u' p2 u2:Value}
theorem bH.keeps (kx:kH w x h V D p u) (hF:bH w w' x u) {j:Nat} {t:TypeId} {cs:Array Value} (hb:ak w j t cs) (h1:t=89->j≠x.a.d) (h2:t=139->j≠x.a.g) (h3:t=9->j≠x.a.sb/\u.ownBlock≠some j) (h4:t=4->j≠x.a.fb) (h5:t=126->j≠x.jb) (h6:t=79->j≠x.vb):w'.heap[j]? =w.heap[j]? :=by
 obtain⟨_,q2⟩:=kx.dev.JJ;obtain⟨_,q3⟩:=kx.dev.Bl;obtain⟨_,q4⟩:=kx.dev.JK;obtain⟨_,hv⟩:=kx.OZ;refine hF.rest j hb.lt ?_ ?_ ?_ ?_ ?_ ?_ ?_
 ·by_cases e:t=89
  ·exact h1 e
  ·exact hb.gY kx.dev.blk e
 ·by_cases e:t=139
  ·exact h2 e
  ·exact hb.gY q2 e
 ·by_cases e:t=9
  ·exact(h3 e).1
  ·exact hb.gY q3 e
 ·by_cases e:t=4
  ·exact h4 e
  ·exact hb.gY q4 e
 ·by_cases e:t=126
  ·exact h5 e
  ·exact hb.gY hv.blk e
 ·by_cases e:t=79
  ·exact h6 e
  ·exact hb.gY kx.blk e
 ·by_cases e:t=9
  ·exact(h3 e).2
  ·exact aA kx.row hb (Ne.symm e)
theorem kH.sizes (k:kH w x h V D p u):x.a.d<w.heap.size/\x.a.g<w.heap.size/\x.a.sb<w.heap.size/\x.a.fb<w.heap.size/\x.jb<w.heap.size/\x.vb<w.heap.size/\(∀ j,u.ownBlock=some j->j<w.heap.size)/\∀ g i,p= .pointer (some ⟨g,i,none⟩)->g<w.heap.size:=by
 obtain⟨_,q2⟩:=k.dev.JJ;obtain⟨_,q3⟩:=k.dev.Bl;obtain⟨_,q4⟩:=k.dev.JK;obtain⟨_,hv⟩:=k.OZ;exact⟨k.dev.blk.lt,q2.lt,q3.lt,q4.lt,hv.blk.lt,k.blk.lt,fun j e=>(k.row.lt j e).2,fun g i e=>rY (k.Rw g i e) k.Y8⟩
end
end
section
open Go.RowKit Go.Shelf
attribute [local go_sem] Oper.semAt_some
theorem qH (s:ByteArray):s.toList=s.data.toList:=ByteArray.toList_eq s
def kL (w:World) (v:Value) (I:List ByteArray):Prop:=∃ A c,v= .slice A I.length c/\I.length<=c/\c<=maxLen/\∀ (i:Nat) (t:ByteArray),I[i]? =some t->∃ b,A=some ⟨b,0,none⟩/\b<w.heap.size/\w.cell? ⟨b,i,none⟩=some (.string t)
theorem kL.row {w:World} {base:Nat} {v:Value} {I:List ByteArray} (h:w.ownsRow base 9 1 v I.length (strCells I)):kL w v I:=by
 have h':=h;rcases h.2 with⟨rfl,h0⟩ | ⟨gb,cap,cur,rfl,_,hb,h1,h2,_,_⟩
 ·exact⟨none,0,by rw[h0],by omega,by unfold maxLen;omega,fun i t hi=>by rw[ZX h0] at hi;simp at hi⟩
 ·refine⟨_,cap,rfl,h1,h2,fun i t hi=>⟨gb,rfl,ak.lt hb,?_⟩⟩;rw[h'.cellAt i (by have:=(List.getElem?_eq_some_iff.1 hi).1;omega)];simp[strCells,hi]
theorem kL.below {w w':World} {v:Value} {I:List ByteArray} (h:kL w v I) (hB:Below w.heap.size w w'):kL w' v I:=by
 obtain⟨A,c,e,h1,h2,h3⟩:=h;refine⟨A,c,e,h1,h2,fun i t hi=>?_⟩;obtain⟨gb,e1,l1,c1⟩:=h3 i t hi;exact⟨gb,e1,rY l1 hB.size,(hB.cell (p:=⟨gb,i,none⟩) l1).trans c1⟩
theorem jG {B:Nat} {a w:World} (h:Below B a w) (n:Nat):Below B a (w.drewN n):=⟨h.os,h.tape,h.output,h.size,h.block⟩
theorem Md (w:World) (v v':Value) (I J:List ByteArray) (h0:kL w v I) (h0':kL w v' J) (hN:I.length<=1048576) (_hN':J.length<=1048576):
  Calls Tryz.prog 33 #[v,v'] w fun e w'=>e= .returned (.bool (decide (I=J)))/\Below w.heap.size w w':=by
 obtain⟨A,c,rfl,h⟩:=h0;obtain⟨A',c',rfl,h'⟩:=h0';by_cases hl:I.length=J.length
 ·have d0:((I.length:Int) !=(J.length:Int))=false:=PY (by omega);have d00:(I.length !=J.length)=false:=by simp[hl]
  have H:=zh h;have H':=zh h';have Hl:=zh hl;clear h h' hl;go_enter Tryz.func33,Tryz.ntmps33;go_wp2_with fail;go_loopw [5] (fun i wr=>∃ k:Nat,k<=I.length/\i= .int .i64 k/\Hid (I.take k=J.take k)/\Hid (Below w.heap.size w wr)) (fun i _=>I.length-(intOf i).toNat)
  case atStart=>exact⟨0,iT _,rfl,rfl,bK _ _⟩
  case round=>
   obtain⟨k,hk,rfl,ht,hB⟩:=hrel;by_cases hkl:k<I.length
   ·have hd1:decide (k<I.length)=true:=pW hkl;obtain⟨x,hx⟩:∃ x,I[k]? =some x:=⟨_,jB hkl⟩;obtain⟨y,hy⟩:∃ y,J[k]? =some y:=⟨_,jB (by have:=Hl.out;omega)⟩;obtain⟨b,rfl,l1,hc0⟩:=H.out.2.2 k x hx;obtain⟨b',rfl,l2,hc0'⟩:=H'.out.2.2 k y hy;have hc:=(hB.out.cell (p:=⟨b,k,none⟩) l1).trans hc0;have hc':=(hB.out.cell (p:=⟨b',k,none⟩) l2).trans hc0';clear hc0 hc0' l1 l2;have hkJ:k<J.length:=by have:=Hl.out;omega
    have hk0:(0:Int)<=(k:Int):=by omega
    have arO:(k:Int)<I.length:=by omega
    have arP:(k:Int)<J.length:=by omega
    have QK:=zh hkl;have Hxy:Hid (x=y->I.take (k+1)=J.take (k+1)):=fun e=>by rw[FD,FD,hx,hy,e,ht.out]
    have Hne:Hid (x≠y->I≠J):=fun e e2=>e (by rw[e2,hy] at hx;exact(Option.some.inj hx).symm)
    clear hx hy hkl;by_cases hxy:x=y
    ·have dx:(x.toList==y.toList)=true:=by rw[hxy];exact kG _
     have Hn:=zh (Hxy.out hxy);clear hxy;go_wp2_with fail
     go_quiet (fail)
     have hB2:Hid (Below w.heap.size w (wr.drewN nq)):=jG hB.out nq;clear hc hc' hB;generalize wr.drewN nq=w2 at hB2 ⊢;go_wp2_with fail;go_roundw
     case rel=>exact⟨k+1,QK.out,by go_num,Hn,hB2⟩
     case measure=>have:=QK.out;simp[intOf];omega
    ·have dx:(x.toList==y.toList)=false:=by
      rw[FI,qH,qH];exact fun e=>hxy (by apply ByteArray.ext;exact Array.ext' e)
     have Hn:=zh (Hne.out hxy);clear hxy;go_wp2_with fail
     go_quiet (fail)
     have hB2:Hid (Below w.heap.size w (wr.drewN nq)):=jG hB.out nq;clear hc hc' hB;generalize wr.drewN nq=w2 at hB2 ⊢;go_wp2_with fail;go_ret;exact⟨by rw[dF Hn.out];rfl,hB2.out⟩
   ·have hd1:decide (k<I.length)=false:=dF hkl;have Hn:Hid (I=J):=by
     have h1:=ht.out;rw[uo (by omega),uo (by have:=Hl.out;omega)] at h1;exact h1
    clear hkl hk;go_wp2_with fail;go_ret;exact⟨by rw[pW Hn.out];rfl,hB.out⟩
 ·have d0:((I.length:Int) !=(J.length:Int))=true:=nX (by omega);have d00:(I.length !=J.length)=true:=by simp[hl]
  have Hn:Hid (I≠J):=fun e=>hl (by rw[e])
  clear h h' hl;go_enter Tryz.func33,Tryz.ntmps33;go_wp2_with fail;go_ret;exact⟨by rw[dF Hn.out];rfl,bK _ _⟩
end
section
open Go.RowKit Go.Shelf
attribute [local go_sem] Oper.semAt_some
structure Opens (h:Nat) (D:Dev):Prop where
 fine:Fine D.M
 clean:Clean D.M
 half:D.M.length/2=h
 pos:1<=h
 len:D.M.length<=24
 bits:∃ s0 s1 s2 root R,D.slots= [s0,s1,s2]/\(s0.size=32/\s2.size=32)/\s0≠zero32/\rootOf s0 s2 (bT h D.M).l=some root/\jR root (bT h D.M).l=some R
 bnd:(∀ e ∈ (bT h D.M).l,e.1<9223372036854775808/\e.2.size<=1000000)/\(bT h D.M).l.length<=1048576
section
variable {h b:Nat} {D D':Dev} {V:mJ}
theorem IY {root:ByteArray} {image:Option ByteArray} {texts:List ByteArray} (L:Lies h D b root image texts) (hS:Og h D root) (hb:b<=255) (hl:D.M.length<=24) (hh:D.M.length/2=h):Opens h D:=by
 have hg:=L.good;obtain⟨hr1,hr2⟩:=L.root;obtain⟨J,R,s0,s1,s2,hJ,hR,hI,hT,hs,h1,h2⟩:=L.ok;obtain⟨_,_,hlx⟩:=mP hJ.inv;have hJo:=hJ.open_ hb;rw[hs] at hg;obtain⟨g1,g2,g3⟩:=hg;have hS':=hS;unfold Og at hS';rw[hs] at hS';have hroot:rootOf s0 s2 (bT h D.M).l=some root:=by
  rw[hlx] at hS' ⊢;rcases h2 with e | ⟨e,hne⟩
  ·rw[e] at hR hr2;rw[e];exact jX hr2 hR
  ·rcases hS' with e2 | ht
   ·have e3:root=s0:=e2;rw[e3] at hR hr2;rw[e3];exact jX hr2 hR
   ·rw[e] at hR hr2;rw[e];exact zZ hr2 hR hne ht
 exact⟨hJ.inv.fine,hJ.inv.clean,hh,hJ.inv.pos,hl,⟨s0,s1,s2,root,R,hs,⟨g1,g3⟩,g2,hroot,by rw[hlx];exact hR⟩,JInv.hbl hJo.inv (by have:=hJo.next;omega) (by omega)⟩
theorem Vq (I:jy h V D b) (hb:b<=255) (hl:D.M.length<=24) (hh:D.M.length/2=h):Opens h D:=by
 obtain⟨L,e⟩:=I.lies;exact IY L (.inl e) hb hl hh
theorem Y9 (h:Nat) (D:Dev):((iR h D).1≠0/\(iR h D).2.1=none)\/((iR h D).1=0/\∃ V,(iR h D).2.1=some V):=by
 unfold iR;split
 ·exact .inl ⟨(show(19:Int)≠0 by decide),rfl⟩
 ·split
  ·exact .inl ⟨(show(7:Int)≠0 by decide),rfl⟩
  ·split
   ·exact .inl ⟨(show(7:Int)≠0 by decide),rfl⟩
   ·split
    ·exact .inl ⟨(show(9:Int)≠0 by decide),rfl⟩
    ·split
     ·exact .inr ⟨rfl,_,rfl⟩
     ·exact .inl ⟨(show(14:Int)≠0 by decide),rfl⟩
theorem Za (h:Nat) (D:Dev):(iR h D).2.2.M=D.M:=by
 unfold iR;split
 ·rfl
 ·split
  ·rfl
  ·split
   ·rfl
   ·split
    ·rfl
    ·split<;>exact CO _ _
end
section
variable {W w w' w1 w2:World} {a:nP} {x:uX} {h b lo pb B:Nat} {V V':mJ} {D E:Dev} {p u p' u':Value}
theorem acd (hd:aO w a D) (hon:nM D) (k:Opens h D) (hK:lV w 1):Calls Tryz.prog 29 #[.pointer (some ⟨a.d,0,none⟩)] w fun e w'=>zB w a h (iR h D) e w':=by
 obtain⟨s0,s1,s2,root,R,e1,e2,e3,e4,e5⟩:=k.bits;exact Zb hd hon k.fine k.clean h k.half k.pos (by have:=k.len;omega) e1 e2 e3 e4 e5 k.bnd.1 k.bnd.2 hK
structure kW (w w':World) (a:nP) (pb:Nat):Prop where
 os:w'.os=w.os
 tape:w'.tape=w.tape
 output:w'.output=w.output
 size:w.heap.size<=w'.heap.size
 rest:∀ k,k<w.heap.size->k≠a.d->k≠a.g->k≠a.sb->k≠a.fb->k≠pb->w'.heap[k]? =w.heap[k]?
theorem kW.OX (h:dJ w w' a):kW w w' a pb:=⟨h.os,h.tape,h.output,h.size,fun k hk h1 h2 h3 h4 _=>h.rest k hk h1 h2 h3 h4⟩
theorem kW.trans (h:kW w w1 a pb) (k:kW w1 w2 a pb):kW w w2 a pb:=
 ⟨k.os.trans h.os,k.tape.trans h.tape,k.output.trans h.output,fU h.size k.size,fun j hj h1 h2 h3 h4 h5=>(k.rest j (rY hj h.size) h1 h2 h3 h4 h5).trans (h.rest j hj h1 h2 h3 h4 h5)⟩
theorem kW.set (h:kW w w1 a pb) (i:Nat) (v:Value):kW w (w1.setCell ⟨pb,i,none⟩ v) a pb:=
 ⟨h.os,h.tape,h.output,by have:=h.size;simpa [World.setCell] using this,fun j hj h1 h2 h3 h4 h5=>(Below.heap_setCell w1 ⟨pb,i,none⟩ v j (fun e=>h5 e)).trans (h.rest j hj h1 h2 h3 h4 h5)⟩
theorem kW.below {w0:World} (hF:kW w w' a pb) (hB:Below B w0 w) (h0:B<=w.heap.size) (h1:B<=a.d) (h2:B<=a.g) (h3:B<=a.sb) (h4:B<=a.fb) (h5:B<=pb):Below B w0 w':=
 ⟨hF.os.trans hB.os,hF.tape.trans hB.tape,hF.output.trans hB.output,fU hB.size hF.size,fun j hj=>(hF.rest j (rY hj h0) (by omega) (by omega) (by omega) (by omega) (by omega)).trans (hB.block j hj)⟩
theorem Far.ace {j:Nat} {cs:Array Value} (h:ak w j 37 cs):Far w (some j):=by
 intro k t' cs' hk hT e;have ne:t'≠37:=by rcases hT with rfl | rfl | rfl | rfl | rfl | rfl | rfl | rfl | rfl<;>decide
 exact hk.gY h ne (Option.some.inj e)
structure D7 (W w:World) (a:nP) (pb h:Nat) (D:Dev):Prop where
 dev:aO w a D
 pl:∃ v,ak w pb 37 #[.pointer (some ⟨a.d,0,none⟩),v,.slice none 0 0]
 bel:Below W.heap.size W w
 d:W.heap.size<=a.d
 g:W.heap.size<=a.g
 sb:W.heap.size<=a.sb
 fb:W.heap.size<=a.fb
 at_:W.heap.size<=pb
 len:D.M.length<=24
 half:D.M.length/2=h
theorem uY.q (k:uY W w x pb h V D b p u):D7 W w x.a pb h D:=⟨k.vis.dev,⟨_,k.pl⟩,k.bel,k.back.d,k.back.g,k.back.sb,k.back.fb,k.at_,k.len,k.half⟩
theorem D7.on (k:D7 W w a pb h D) (hB:Below w.heap.size w w'):D7 W w' a pb h D:=by
 obtain⟨v,hp⟩:=k.pl;exact⟨k.dev.below hB,⟨v,hp.below hB hp.lt⟩,k.bel.trans (hB.mono k.bel.size),k.d,k.g,k.sb,k.fb,k.at_,k.len,k.half⟩
theorem D7.sV (k:D7 W w a pb h D) (hF:dJ w w' a) (hd:aO w' a E) (hl:E.M.length=D.M.length):D7 W w' a pb h E:=by
 obtain⟨v,hp⟩:=k.pl;exact⟨hd,⟨v,(hF.blk k.dev hp (fun e=>by cases e) (fun e=>by cases e) (fun e=>by cases e) (fun e=>by cases e)).trans hp⟩,iP.below hF k.bel k.bel.size k.d k.g k.sb k.fb,k.d,k.g,k.sb,k.fb,k.at_,by rw[hl];exact k.len,by rw[hl];exact k.half⟩
theorem uY.fell {r:uZ} {e:Ending} (k:uY W w x pb h V D b p u) (hp:eU w x h p u r e w') (hl:r.2.2.M.length=D.M.length):D7 W w' x.a pb h r.2.2:=
 ⟨hp.2.2.1,⟨_,k.vis.box hp.2.1 k.pl (by decide)⟩,hp.2.1.below k.bel k.bel.size k.back,k.back.d,k.back.g,k.back.sb,k.back.fb,k.at_,by rw[hl];exact k.len,by rw[hl];exact k.half⟩
structure aeu (W w:World) (a:nP) (pb h:Nat) (D:Dev) (e:Ending) (w':World):Prop where
 e:e= .returned (.int .i64 (iR h D).1)
 left:kW w w' a pb
 q:D7 W w' a pb h (iR h D).2.2
 out:((iR h D).1≠0/\(iR h D).2.1=none/\ak w' pb 37 #[.pointer (some ⟨a.d,0,none⟩),.pointer none,.slice none 0 0])\/
  ∃ V x p u,(iR h D).1=0/\(iR h D).2.1=some V/\x.a=a/\kH w' x h V (iR h D).2.2 p u/\ak w' pb 37 #[.pointer (some ⟨a.d,0,none⟩),.pointer (some ⟨x.vb,0,none⟩),.slice none 0 0]/\w.heap.size<=x.jb/\w.heap.size<=x.vb/\∀ k,u.ownBlock=some k->w.heap.size<=k
theorem Rx {w0 w:World} {pv:Value} {P:List Int} {b g:Nat} (h:mO w0 pv P) (hB:Below w0.heap.size w0 w) (hbg:b≠g) (hb:b<w.heap.size) (hg:w0.heap.size<=g):
  ∃ pb po,vJ pv P.length 0 pb po/\pb≠g/\pb<w.heap.size/\∀ i x,P[i]? =some x->w.cell? ⟨pb,po+i,none⟩=some (.int .i64 x):=Ry h hB hbg hb hg
theorem IZ (k:D7 W w a pb h D) (hf:Fine D.M) (pv:Value) (P:List Int) (hP:mO W pv P):
  Calls Tryz.prog 27 #[.pointer (some ⟨a.d,0,none⟩),pv] w fun e w'=>e= .returned (.tuple #[])/\D7 W w' a pb h (D.mount P)/\dJ w w' a:=by
 obtain⟨pb',po,hr2,hpg,hpl,hcc⟩:=Rx hP k.bel k.dev.mem.ne k.dev.mem.lt.1 k.g;refine(TK k.dev hf (by have:=k.len;omega) pv P pb' po hr2 hpg hcc).mono ?_;rintro e w' ⟨rfl,h1,h2⟩;exact⟨rfl,k.sV h2 h1 (BG (M:=D.M) P),h2⟩
theorem Ea (W:World):mO W (.slice none 0 0) []:=⟨none,0,rfl,aF _,iT _,fun h=>absurd h (by decide)⟩
theorem Eb (k:D7 W w a pb h D) (hf:Fine D.M) (pv:Value) (P:List Int) (hP:mO W pv P) (hO:Opens h (D.mount P)) (hK:lV W 1):
  Calls Tryz.prog 22 #[.pointer (some ⟨pb,0,none⟩),pv] w (aeu W w a pb h (D.mount P)):=by
 obtain⟨A,c,hpv,_⟩:=id hP;have HM:=zh (IZ k hf pv P hP);have HO:Hid (∀ wx,D7 W wx a pb h (D.mount P)->Calls Tryz.prog 29 #[.pointer (some ⟨a.d,0,none⟩)] wx fun e w'=>zB wx a h (iR h (D.mount P)) e w'):=fun wx kq=>acd kq.dev (acf D P).on hO (hK.below kq.bel)
 obtain⟨vp,hp⟩:=k.pl;have HPl:=zh hp;have y0:=hp.cell 0;have HQ:=zh k;have HV:=zh (Y9 h (D.mount P));have HL:=zh (Za h (D.mount P));subst hpv;clear k hf hP hO hK hp;generalize D.mount P=DM at HM HO HV HL ⊢;obtain⟨r,hr⟩:∃ r,iR h DM=r:=⟨_,rfl⟩;rw[hr] at HO HV HL;have Hr:=zh hr;clear hr;go_enter Tryz.func22,Tryz.ntmps22;go_wp2_with fail;refine HM.out.mono ?_;rintro e w1 ⟨rfl,hq1,hl1⟩;have HQ1:=zh hq1;have HL1:=zh hl1;have hp1:Hid (ak w1 pb 37 #[.pointer (some ⟨a.d,0,none⟩),vp,.slice none 0 0]):=(hl1.blk HQ.out.dev HPl.out (fun e=>by cases e) (fun e=>by cases e) (fun e=>by cases e) (fun e=>by cases e)).trans HPl.out;have y1:=hp1.out.cell 0;clear hq1 hl1 y0;go_wp2_with fail;refine(HO.out w1 HQ1.out).mono ?_;intro e w2 hO;obtain⟨hl2,hd2,hout⟩:=hO;have hp2:Hid (ak w2 pb 37 #[.pointer (some ⟨a.d,0,none⟩),vp,.slice none 0 0]):=(hl2.blk HQ1.out.dev hp1.out (fun e=>by cases e) (fun e=>by cases e) (fun e=>by cases e) (fun e=>by cases e)).trans hp1.out;have wX:Hid (D7 W w2 a pb h r.2.2):=HQ1.out.sV hl2 hd2 (by rw[HL.out]);have f2:=hp2.out.frozen 1;have c21:=hp2.out.cell 1;have hb3:=hp2.out.aB 1 (.pointer none);have c31:=hb3.cell 1;have f3:=hb3.frozen 1;have HB3:=zh hb3;have PL:Hid (kW w w2 a pb):=(kW.OX HL1.out).trans (kW.OX hl2);have ahf:Hid (Far w2 (some pb)):=Far.ace hp2.out;have g2:Hid (w2.grownBy (w2.setCell ⟨pb,1,none⟩ (.pointer none)) (some pb)):=au w2 pb 1 _;rcases hout with⟨hn,rfl⟩ | ⟨V,x,p,u,hV,hxa,rfl,wJ,hj,hvb,hlo⟩
 ·have hne:Hid (r.1≠0):=by
   rcases HV.out with⟨h1,_⟩ | ⟨_,V,h2⟩
   ·exact h1
   ·rw[hn] at h2;cases h2
  have Hn:=zh hn;obtain⟨E0,hE0⟩:∃ E0,r.1=E0:=⟨_,rfl⟩;have d1:(E0==0)=false:=by rw[<-hE0];exact FI.2 hne.out
  rw[hE0];have HE0:=zh hE0;clear hE0 hn hl2 hd2 hb3 c31 f3 y1;go_wp2_with fail;go_ret;have hq3:D7 W (w2.setCell ⟨pb,1,none⟩ (.pointer none)) a pb h r.2.2:=⟨oP wX.out.dev g2.out ahf.out,⟨_,HB3.out⟩,(((kW.OX (dJ.refl w2)).set 1 (.pointer none)).below wX.out.bel wX.out.bel.size wX.out.d wX.out.g wX.out.sb wX.out.fb wX.out.at_),wX.out.d,wX.out.g,wX.out.sb,wX.out.fb,wX.out.at_,wX.out.len,wX.out.half⟩;have hr:=Hr.out;subst hr;exact⟨by rw[<-HE0.out];rfl,PL.out.set 1 _,hq3,.inl ⟨hne.out,Hn.out,HB3.out⟩⟩
 ·have h0:r.1=0:=by
   rcases HV.out with⟨_,h2⟩ | ⟨h1,_⟩
   ·rw[h2] at hV;cases hV
   ·exact h1
  have H0:=zh h0;have HX:=zh (And.intro hV (And.intro hxa (And.intro wJ (And.intro hj (And.intro hvb hlo)))));rw[h0];clear h0 hV hxa wJ hj hvb hlo hl2 hd2 hb3 y1;go_wp2_with fail;go_ret;have hb4:=HB3.out.aB 1 (.pointer (some ⟨x.vb,0,none⟩));have akY:Far (w2.setCell ⟨pb,1,none⟩ (.pointer none)) (some pb):=Far.ace HB3.out;have g3:=au (w2.setCell ⟨pb,1,none⟩ (.pointer none)) pb 1 (.pointer (some ⟨x.vb,0,none⟩));obtain⟨hV,hxa,wJ,hj,hvb,hlo⟩:=HX.out;have hq3:D7 W ((w2.setCell ⟨pb,1,none⟩ (.pointer none)).setCell ⟨pb,1,none⟩ (.pointer (some ⟨x.vb,0,none⟩))) a pb h r.2.2:=⟨oP (oP wX.out.dev g2.out ahf.out) g3 akY,⟨_,hb4⟩,((((kW.OX (dJ.refl w2)).set 1 (.pointer none)).set 1 _).below wX.out.bel wX.out.bel.size wX.out.d wX.out.g wX.out.sb wX.out.fb wX.out.at_),wX.out.d,wX.out.g,wX.out.sb,wX.out.fb,wX.out.at_,wX.out.len,wX.out.half⟩;have hs1:=HL1.out.size;have hr:=Hr.out;subst hr;exact⟨by rw[H0.out];rfl,(PL.out.set 1 _).set 1 _,hq3,.inr ⟨V,x,p,u,H0.out,hV,hxa,(wJ.far g2.out ahf.out).far g3 akY,hb4,fU hs1 hj,fU hs1 hvb,fun k e=>by have:=(wJ.row.lt k e).1;omega⟩⟩
end
end
open Go.RowKit Go.Shelf
open Sec (aj)
attribute [local go_sem] Oper.semAt_some
def SS (W w:World) (x:uX) (pb:Nat) (V:mJ) (b:Nat):Prop:=∃ lo D p u,uY W w { x with lo:=lo } pb 6 V D b p u/\D.left= -1
def SI (W w:World) (x:uX) (pb:Nat) (V:mJ) (b:Nat) (v:Value) (V0:mJ):Prop:=
 ∃ lo D p u D0 b0,uY W w { x with lo:=lo } pb 6 V D b p u/\D.left= -1/\jy 6 V0 D0 b0/\b0<=100/\D0.M.length=D.M.length/\Texts w v (D0.M.map Sec.now)/\∀ k,v.ownBlock=some k->k≠x.a.sb/\u.ownBlock≠some k
section
variable {W w w':World} {x:uX} {pb b:Nat} {V V' V0:mJ} {v:Value}
theorem SS.on (k:SS W w x pb V b) (hB:Below w.heap.size w w'):SS W w' x pb V b:=by
 obtain⟨lo,D,p,u,h,hl⟩:=k;exact⟨lo,D,p,u,h.on hB,hl⟩
theorem SS.bel (k:SS W w x pb V b):Below W.heap.size W w:=by
 obtain⟨lo,D,p,u,h,hl⟩:=k;exact h.bel
theorem SS.cells (k:SS W w x pb V b):w.cell? ⟨pb,0,none⟩=some (.pointer (some ⟨x.a.d,0,none⟩))/\w.cell? ⟨pb,1,none⟩=some (.pointer (some ⟨x.vb,0,none⟩)):=by
 obtain⟨lo,D,p,u,h,hl⟩:=k;exact⟨h.pl.cell 0,h.pl.cell 1⟩
theorem SI.ss (k:SI W w x pb V b v V0):SS W w x pb V b:=by
 obtain⟨lo,D,p,u,D0,b0,h,hl,_⟩:=k;exact⟨lo,D,p,u,h,hl⟩
theorem XB (hW:Below W.heap.size W w):Calls Tryz.prog 13 #[.int .i64 12,.int .u8 5] w fun e w'=>∃ x pb,e= .returned (.tuple #[.pointer (some ⟨pb,0,none⟩),.bool true])/\Hid (SS W w' x pb wV 1):=by
 refine(Rt hW 12 5 (by decide) (by decide)).mono ?_;rintro e w' ⟨x,pb,p,u,rfl,h⟩;have hs:=h.st;rw[Zz] at hs;exact⟨x,pb,rfl,x.lo,_,p,u,hs,rfl⟩
theorem RY (k:SS W w x pb V b) (hK:lV W 1) (hb:b<250) (t:ByteArray) (ht:t.size<=7971) (hr:V.J.used+aj (t.size+29)<=6) (hV:Ei V t=V'):
  Calls Tryz.prog 16 #[.pointer (some ⟨x.vb,0,none⟩),.string t] w fun e w'=>e= .returned (.int .i64 0)/\Hid (SS W w' x pb V' (b+1)):=by
 obtain⟨lo,D,p,u,h,hl⟩:=k;obtain⟨h1,h2⟩:=Fz h.inv (by omega) hl t ht hr;refine(h.commit (by omega) hK t ht).mono ?_;intro e w' hp;obtain⟨lo',p',u',hs,_⟩:=h.next hp (V':=Ei V t) (c:=b+1) (by rw[h1]) h2 (wM t);have he:=hp.1;rw[h1] at he;rw[hV] at hs;exact⟨he,lo',_,p',u',hs,Fj hl t⟩
theorem ZB (k:SI W w x pb V b v V0) (hK:lV W 1) (hb:b<250) (t:ByteArray) (ht:t.size<=7971) (hr:V.J.used+aj (t.size+29)<=6) (hV:Ei V t=V'):
  Calls Tryz.prog 16 #[.pointer (some ⟨x.vb,0,none⟩),.string t] w fun e w'=>e= .returned (.int .i64 0)/\Hid (SI W w' x pb V' (b+1) v V0):=by
 obtain⟨lo,D,p,u,D0,b0,h,hl,i0,hb0,hl0,hT,hsep⟩:=k;obtain⟨h1,h2⟩:=Fz h.inv (by omega) hl t ht hr;refine(h.commit (by omega) hK t ht).mono ?_;intro e w' hp;obtain⟨lo',p',u',hs,hla⟩:=h.next hp (V':=Ei V t) (c:=b+1) (by rw[h1]) h2 (wM t);have he:=hp.1;rw[h1] at he;rw[hV] at hs;refine⟨he,lo',_,p',u',D0,b0,hs,Fj hl t,i0,hb0,hl0.trans (wM t).symm,?_,fun k e=>?_⟩
 ·refine gI hT (fun j cs e hj=>?_);exact bH.keeps h.vis hp.2.1 hj (fun e=>by cases e) (fun e=>by cases e) (fun _=>hsep j e) (fun e=>by cases e) (fun e=>by cases e) (fun e=>by cases e)
 ·refine⟨(hsep k e).1,fun q=>?_⟩;rcases hla.own k q with e2 | e2
  ·exact(hsep k e).2 e2
  ·have:=(hT.lt k e).2;omega
theorem ZC (k:SS W w x pb V b) (hK:lV W 1) (hb:b<250) (t:ByteArray) (ht:t.size<=7939) (hr:aj (t.size+61)<=6) (hV:zN V V.root t=V'):
  Calls Tryz.prog 37 #[.pointer (some ⟨x.vb,0,none⟩),.string t] w fun e w'=>e= .returned (.int .i64 0)/\Hid (SS W w' x pb V' (b+1)):=by
 obtain⟨lo,D,p,u,h,hl⟩:=k;obtain⟨h1,h2⟩:=Kq h.inv (by omega) hl t ht hr;refine(h.compact (by omega) hK t ht).mono ?_;intro e w' hp;obtain⟨lo',p',u',hs,_⟩:=h.next hp (V':=zN V V.root t) (c:=b+1) (by rw[h1]) h2 (CY t);have he:=hp.1;rw[h1] at he;rw[hV] at hs;exact⟨he,lo',_,p',u',hs,Oy hl t⟩
theorem aeT (k:SS W w x pb V b) (hK:lV W 1) (hb:b<250) (root t:ByteArray) (hroot:root.size=32/\root≠zero32) (ht:t.size<=7939) (hr:aj (t.size+61)<=6) (hV:zN V root t=V'):
  Calls Tryz.prog 25 #[.pointer (some ⟨x.vb,0,none⟩),.string root,.string t] w fun e w'=>e= .returned (.int .i64 0)/\Hid (SS W w' x pb V' (b+1)):=by
 obtain⟨lo,D,p,u,h,hl⟩:=k;obtain⟨h1,h2⟩:=VE h.inv (by omega) hl root t hroot ht hr;refine(h.afN (by omega) hK root t hroot ht).mono ?_;intro e w' hp;obtain⟨lo',p',u',hs,_⟩:=h.next hp (V':=zN V root t) (c:=b+1) (by rw[h1]) h2 (MQ root t);have he:=hp.1;rw[h1] at he;rw[hV] at hs;exact⟨he,lo',_,p',u',hs,VA hl root t⟩
theorem I5 {D:Dev} (hc:Clean D.M) (hd:nM D) (hl:D.left= -1) (P:List Int):D.mount P=D:=by
 have h1:=hd.down;unfold Dev.mount;rw[mQ hc];obtain⟨b1,b2,b3,b4,b5,b6,b7⟩:=D;dsimp only at h1 hl;rw[h1,hl]
theorem acO (k:SS W w x pb V b) (hK:lV W 1) (hb:b<250) (hn:V.J.next=nS V.J.l+1):
  Calls Tryz.prog 22 #[.pointer (some ⟨pb,0,none⟩),.slice none 0 0] w fun e w'=>∃ x':uX,e= .returned (.int .i64 0)/\x'.a=x.a/\Hid (SS W w' x' pb V b):=by
 obtain⟨lo,D,p,u,h,hl⟩:=k;have hm:=I5 h.inv.CJ.inv.clean h.inv.on hl [];have hO:Opens 6 (D.mount []):=by rw[hm];exact Vq h.inv (by omega) h.len h.half
 refine(Eb h.q h.inv.CJ.inv.fine _ [] (Ea W) hO hK).mono ?_;intro e w' hp;have hv:=Zy h.inv hn;rw[hm] at hp;obtain⟨he,hleft,hq,hout⟩:=hp;rw[hv] at he hq hout;rcases hout with⟨h0,_⟩ | ⟨V1,x',p',u',_,hV1,hxa,wJ,hpl,hj,hvb,hu⟩
 ·exact absurd rfl h0
 ·cases hV1;have hs:=h.bel.size;have ahh:x'.a=x.a:=hxa;refine⟨x',he,ahh,x'.lo,D,p',u',⟨wJ,h.inv,by rw[hxa];exact hpl,hq.bel,?_,h.len,h.half,h.at_⟩,hl⟩;exact⟨by rw[hxa];exact hq.d,by rw[hxa];exact hq.g,by rw[hxa];exact hq.sb,by rw[hxa];exact hq.fb,fU hs hj,fU hs hvb,fun k e=>fU hs (hu k e)⟩
theorem aeU (k:SS W w x pb V b) (hb:b<=100):Calls Tryz.prog 17 #[.pointer (some ⟨x.a.d,0,none⟩)] w fun e w'=>∃ v,e= .returned v/\Hid (SI W w' x pb V b v V)/\∃ A n c,v= .slice A n c:=by
 obtain⟨lo,D,p,u,h,hl⟩:=k;refine(Gs h.vis.dev (by have:=h.len;omega)).mono ?_;rintro e w' ⟨v,rfl,h1,h2,h3⟩;have hT:Texts w' v (D.M.map Sec.now):=by
  refine⟨h1.1,?_⟩;rcases h1.2 with h4 | ⟨g,cap,cur,hv,hg,r⟩
  ·exact .inl h4
  ·exact .inr ⟨g,cap,cur,hv,iT _,r⟩
 obtain⟨A,c,hv,_⟩:=hT.parts;refine⟨v,rfl,⟨lo,D,p,u,D,b,h.on h3,hl,h.inv,hb,rfl,hT,fun j e=>?_⟩,A,_,c,hv⟩;have hj:=(h1.lt j e).1;obtain⟨_,_,s3,_,_,_,s7,_⟩:=h.vis.sizes;have s3':x.a.sb<w.heap.size:=s3;exact⟨by omega,fun q=>by have:=s7 j q;omega⟩
def SO (W w:World) (x:uX) (pb:Nat):Prop:=∃ D D0 b0,D7 W w x.a pb 6 D/\Fine D.M/\Clean D.M/\jy 6 yH D0 b0/\b0<=100/\aP D.M=aP D0.M/\D.slots= [bV 5,yG,zero32]/\D.down=false/\D.left= -1
theorem IC:∀ (I:List ByteArray) (M:List Sec),I.length=M.length->(kP I M).map Sec.now=I
 | [],[],_=>rfl
 | [],_::_,h=>by cases h
 | _::_,[],h=>by cases h
 | t::I,s::M,h=>by
  show t::(kP I M).map Sec.now=_
  rw[IC I M (by simpa using h)]
theorem BZ {I:List ByteArray} {M:List Sec} {y:Sec} (h:y ∈ kP I M):y.now ∈ I/\y.before=y.now/\y.dirty=false:=by
 unfold kP at h;obtain⟨i,hi⟩:=List.mem_iff_getElem?.1 h;rw[List.getElem?_zipWith] at hi;cases h1:I[i]? with
 | none=>rw[h1] at hi;cases hi
 | some t=>
  cases h2:M[i]? with
  | none=>rw[h1,h2] at hi;cases hi
  | some s=>
   rw[h1,h2] at hi;cases hi;exact⟨zI h1,rfl,rfl⟩
theorem QN {M M':List Sec} (h:M.map Sec.now=M'.map Sec.now):aP M=aP M':=by
 have e:∀ M:List Sec,aP M=(M.map Sec.now).map fun t=>t.data.toList:=fun M=>by
  unfold aP;rw[List.map_map];rfl
 rw[e,e,h]
theorem ZE (k:SI W w x pb afV b v yH):Calls Tryz.prog 21 #[.pointer (some ⟨x.a.d,0,none⟩),v] w fun e w'=>e= .returned (.int .i64 0)/\Hid (SO W w' x pb):=by
 obtain⟨lo,D,p,u,D0,b0,h,hl,i0,hb0,hl0,hT,hsep⟩:=k;have hlen:(D0.M.map Sec.now).length=D.M.length:=by rw[lq];exact hl0
 have hw:kR (D0.M.map Sec.now)=false:=by
  unfold kR;rw[List.any_eq_false];intro t ht;obtain⟨y,hy,rfl⟩:=List.mem_map.1 ht;have:=(i0.CJ.inv.fine y hy).1;simp[this]
 have he:dS (D0.M.map Sec.now) D.M=false:=by
  unfold dS;rw[hw,hlen];simp
 have hc:=Np h.vis.dev v (D0.M.map Sec.now) hT (by rw[hlen];have:=h.len;omega);rw[he] at hc;refine hc.mono ?_;rintro e w' ⟨rfl,hd,hF⟩;refine⟨rfl,{ D with M:=kP (D0.M.map Sec.now) D.M },D0,b0,h.q.sV hF hd (Ls _ _ hlen),fun y hy=>?_,fun y hy=>?_,i0,hb0,QN (IC _ _ hlen),h.inv.slots,h.inv.on.down,hl⟩
 ·obtain⟨h1,h2,h3⟩:=BZ hy;obtain⟨z,hz,e⟩:=List.mem_map.1 h1;have h64:=(i0.CJ.inv.fine z hz).1;rw[e] at h64;exact⟨h64,by rw[h2];exact h64,fun q=>by rw[h3] at q;cases q⟩
 ·exact(BZ hy).2.2
theorem aeV (k:SO W w x pb) (hK:lV W 1):Calls Tryz.prog 22 #[.pointer (some ⟨pb,0,none⟩),.slice none 0 0] w fun e w'=>e= .returned (.int .i64 9)/\Below W.heap.size W w':=by
 obtain⟨D,D0,b0,hq,hf,hc,i0,hb0,hM,hs,hdn,hl⟩:=k;have hm:=I5 (D:=D) hc ⟨hdn,by rw[hl];decide⟩ hl [];obtain⟨v1,v2,v3,v4⟩:= @ZA _ [] _ _ i0 hM hs;have hjo:=i0.CJ.open_ (by omega:b0<=255);have hO:Opens 6 (D.mount []):=by
  rw[hm];refine⟨hf,hc,hq.half,by decide,hq.len,⟨bV 5,yG,zero32,bV 5,_,hs,⟨ny 5,rfl⟩,nC 5,v2,v3⟩,?_⟩;rw[AB hM];exact JInv.hbl hjo.inv (by have:=hjo.next;omega) (by decide)
 refine(Eb hq hf _ [] (Ea W) hO hK).mono ?_;intro e w' hp;have he:=hp.e;rw[hm,v1] at he;exact⟨he,hp.q.bel⟩
end
end Go.Proofs.YtpghocekofdpbaaGreatDoor
