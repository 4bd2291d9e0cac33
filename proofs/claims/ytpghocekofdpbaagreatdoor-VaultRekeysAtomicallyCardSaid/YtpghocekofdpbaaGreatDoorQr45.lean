import Derived.Test.YtpghocekofdpbaaGreatDoorQr44
set_option maxRecDepth 100000
set_option maxHeartbeats 8000000
namespace Go.Proofs.YtpghocekofdpbaaGreatDoor
section
open Go.RowKit Go.Shelf
open Sec (aj)
attribute [local go_sem] Oper.semAt_some
section
variable {W w w':World} {x:uX} {pb b:Nat} {V V' V0:mJ} {v:Value}
theorem SI.on (k:SI W w x pb V b v V0) (hB:Below w.heap.size w w'):SI W w' x pb V b v V0:=by
 obtain⟨lo,D,p,u,D0,b0,h,hl,i0,hb0,hl0,hT,hs⟩:=k;exact⟨lo,D,p,u,D0,b0,h.on hB,hl,i0,hb0,hl0,ownsRow_below hT hB (aF _),hs⟩
theorem ZF (k:SS W w x pb yH b):Calls Tryz.prog 36 #[.pointer (some ⟨x.vb,0,none⟩)] w fun e w'=>∃ v,e= .returned v/\Hid (kL w' v [⟨#[97]⟩,⟨#[98]⟩])/\Hid (Below w.heap.size w w'):=by
 obtain⟨lo,D,p,u,h,hl⟩:=k;refine(CP h.vis (by decide)).mono ?_;rintro e w' ⟨v,rfl,h1,h2⟩;exact⟨v,rfl,kL.row h1,h2⟩
theorem ak9 (w:World):kL (w.alloc (.cells #[.string ⟨#[97]⟩,.string ⟨#[98]⟩] 9)) (.slice (some ⟨w.heap.size,0,none⟩) 2 2) [⟨#[97]⟩,⟨#[98]⟩]:=by
 have hb:=ak.new w 9 #[.string ⟨#[97]⟩,.string ⟨#[98]⟩];refine⟨_,2,rfl,aF _,by unfold maxLen;omega,fun i t ht=>⟨_,rfl,hb.lt,?_⟩⟩
 match i,ht with
 | 0,ht=>cases ht;exact hb.cell 0
 | 1,ht=>cases ht;exact hb.cell 1
theorem XC (k:SS W w x pb RX b):Calls Tryz.prog 18 #[.pointer (some ⟨x.vb,0,none⟩)] w fun e w'=>e= .returned (.string wU)/\w=w':=by
 obtain⟨lo,D,p,u,h,hl⟩:=k;exact VF h.vis
theorem ahx (k:SS W w x pb RX b):Calls Tryz.prog 31 #[.pointer (some ⟨x.a.d,0,none⟩),.int .i64 0] w fun e w'=>e= .returned (.tuple #[.string (bV 9),.int .i64 0])/\w=w':=by
 obtain⟨lo,D,p,u,h,hl⟩:=k;exact MS h.vis.dev h.inv.on.down (i:=0) (by rw[h.inv.slots];rfl)
theorem acP (k:SS W w x pb RX b):Calls Tryz.prog 38 #[.pointer (some ⟨x.vb,0,none⟩)] w fun e w'=>e= .returned (.tuple #[.string ⟨#[110,101,119]⟩,.bool true])/\w=w':=by
 obtain⟨lo,D,p,u,h,hl⟩:=k;exact I4 h.vis
theorem ahy (k:SS W w x pb RX b):Calls Tryz.prog 15 #[.pointer (some ⟨x.vb,0,none⟩)] w fun e w'=>e= .returned (.int .i64 4)/\Below w.heap.size w w':=by
 obtain⟨lo,D,p,u,h,hl⟩:=k;exact ZG h.vis (by decide) (by decide)
theorem ahz (w:World):Calls Tryz.prog 9 #[.int .i64 16] w fun e w'=>e= .returned (.int .i64 2)/\w=w':=ZH w 16
theorem ahA (w:World) (hK:lV w 1):Calls Tryz.prog 11 #[.string wU,.int .i64 3,.string ⟨#[120]⟩] w fun e w'=>e= .returned (.string RU)/\Below w.heap.size w w':=by
 have h:=zG w wU ⟨#[120]⟩ 3 (by decide) (by decide) (by decide) hK;rw[ahw] at h;exact h
end
theorem Rl (w:World) (hK:lV w 1):Calls Tryz.prog 8 #[] w fun e w'=>e= .returned (.bool true)/\Below w.heap.size w w':=by
 have HK:=zh hK;have HRt:Hid (∀ wx,Calls Tryz.prog 26 #[.int .u8 9] wx fun e w'=>e= .returned (.string (bV 9))/\Below wx.heap.size wx w'):=fun wx=>zA wx 9 (by decide)
 have HLk:Hid (∀ wx,Below w.heap.size w wx->Calls Tryz.prog 11 #[.string wU,.int .i64 3,.string ⟨#[120]⟩] wx fun e w'=>e= .returned (.string RU)/\Below wx.heap.size wx w'):=fun wx hB=>ahA wx (hK.below hB)
 have hr9:Hid ((bV 9).size=32/\bV 9≠zero32):=⟨ny 9,nC 9⟩;have hcc:(wU.toList==wU.toList)=true:=kG _;have hln:(RU.toList==wU.toList)=false:=by
  rw[FI,qH,qH];exact fun e=>OB.2.2 (by apply ByteArray.ext;exact Array.ext' e)
 have hsz:wU.size=32:=rfl;clear hK;go_enter Tryz.func8,Tryz.ntmps8;go_wp2_with fail;refine(XB (bK _ _)).mono ?_;rintro e w1 ⟨x,pb,rfl,H1⟩;obtain⟨y0,y1⟩:=H1.out.cells;go_wp2_with fail;refine(RY H1.out HK.out (by decide) ⟨#[97]⟩ (by decide) (by decide) acJ).mono ?_;rintro e w2 ⟨rfl,H2⟩;clear y0 y1 H1;obtain⟨y0,y1⟩:=H2.out.cells;go_wp2_with fail;refine(RY H2.out HK.out (by decide) ⟨#[98]⟩ (by decide) (by decide) acK).mono ?_;rintro e w3 ⟨rfl,H3⟩;clear y0 y1 H2;go_wp2_with fail;refine(acO H3.out HK.out (by decide) rfl).mono ?_;rintro e w4 ⟨x4,rfl,hx4,H4⟩;clear H3 hx4;obtain⟨y0,y1⟩:=H4.out.cells;go_wp2_with fail;refine(aeU H4.out (by decide)).mono ?_;rintro e w5 ⟨v5,rfl,H5,A5,n5,c5,rfl⟩;clear y0 y1 H4;obtain⟨y0,y1⟩:=H5.out.ss.cells;go_wp2_with fail;refine(ZF H5.out.ss).mono ?_;rintro e w6 ⟨v6,rfl,HT6,oq⟩;have HBa:Hid (Below w6.heap.size w6 (w6.alloc (.cells #[.string ⟨#[97]⟩,.string ⟨#[98]⟩] 9))):=(bK _ _).alloc (aF _) _;have HSm:=zh (Md _ _ _ _ _ (HT6.out.below HBa.out) (ak9 w6) (by decide) (by decide));obtain⟨A6,c6,rfl,_⟩:=id HT6.out;clear y0 y1;go_wp2_with fail;refine HSm.out.mono ?_;rintro e w7 ⟨rfl,qQ⟩;have H7:Hid (SI w w7 x4 pb yH 3 (.slice A5 n5 c5) yH):=((H5.out.on oq.out).on HBa.out).on qQ;clear H5 qQ HSm HBa oq HT6;obtain⟨y0,y1⟩:=H7.out.ss.cells;go_wp2_with fail;refine(ZB H7.out HK.out (by decide) ⟨#[99]⟩ (by decide) (by decide) acL).mono ?_;rintro e w8 ⟨rfl,H8⟩;clear y0 y1 H7;obtain⟨y0,y1⟩:=H8.out.ss.cells;go_wp2_with fail;refine(ZE H8.out).mono ?_;rintro e w9 ⟨rfl,H9⟩;clear y0 y1 H8;go_wp2_with fail;refine(aeV H9.out HK.out).mono ?_;rintro e w10 ⟨rfl,Jj⟩;have JZ:=zh Jj;clear H9 Jj;go_wp2_with fail;refine(XB JZ.out).mono ?_;rintro e ZU ⟨x,pb2,rfl,H11⟩;clear JZ;obtain⟨y0,y1⟩:=H11.out.cells;go_wp2_with fail;refine(ZC H11.out HK.out (by decide) ⟨#[105,109,97,103,101]⟩ (by decide) (by decide) acM).mono ?_;rintro e w12 ⟨rfl,Xv⟩;clear y0 y1 H11;obtain⟨y0,y1⟩:=Xv.out.cells;have qw:Hid (Below w12.heap.size w12 w12.drew):=(bK _ _).drew;go_wp2_with fail
 go_region_held3 (fun W=>W.cell? ⟨pb2,1,none⟩=some (.pointer (some ⟨x.vb,0,none⟩))) (go_keep)
  (first
   | (go_at_call 25;refine(aeT ZV.out HK.out (by decide) (bV 9) ⟨#[110,101,119]⟩ hr9.out (by decide) (by decide) acN).mono ?_;rintro e w14 ⟨rfl,H14⟩;obtain⟨u0,u1⟩:=H14.out.cells)
   | (go_at_call 26;refine(HRt.out _).mono ?_;rintro e w13 ⟨rfl,hB⟩;have ZV:=zh ((Xv.out.on qw.out).on hB);obtain⟨z0,z1⟩:=ZV.out.cells;clear hB))
 clear y0 y1 z0 z1 u0 u1 Xv ZV qw;obtain⟨y0,y1⟩:=H14.out.cells;go_wp2_with fail;refine(XC H14.out).mono ?_;rintro e w15 ⟨rfl,rfl⟩;clear y0 y1;go_wp2_with fail;refine(acO H14.out HK.out (by decide) rfl).mono ?_;rintro e w16 ⟨x16,rfl,hx16,H16⟩;clear H14 hx16;obtain⟨y0,y1⟩:=H16.out.cells;go_wp2_with fail;refine(ahx H16.out).mono ?_;rintro e w17 ⟨rfl,rfl⟩;go_wp2_with fail;refine(acP H16.out).mono ?_;rintro e w17 ⟨rfl,rfl⟩;have h99:((bV 9).toList==(bV 9).toList)=true:=kG _;generalize bV 9=R9 at *;clear y0 y1;obtain⟨y0,y1⟩:=H16.out.cells;go_wp2_with fail;refine(HRt.out _).mono ?_;rintro e w18 ⟨rfl,alb⟩;have H18:=zh (H16.out.on alb);clear y0 y1 alb H16;obtain⟨y0,y1⟩:=H18.out.cells;go_wp2_with fail;refine(XC H18.out).mono ?_;rintro e w19 ⟨rfl,rfl⟩;go_wp2_with fail;refine(ahy H18.out).mono ?_;rintro e w19 ⟨rfl,ald⟩;have H19:=zh (H18.out.on ald);clear y0 y1 ald H18;go_wp2_with fail;refine(ahz _).mono ?_;rintro e w20 ⟨rfl,rfl⟩;go_wp2_with fail;refine(HLk.out _ H19.out.bel).mono ?_;rintro e w20 ⟨rfl,ale⟩;have H20:=zh (H19.out.on ale);clear ale H19;go_wp2_with fail;go_ret;exact⟨rfl,H20.out.bel⟩
end
section
open Go.RowKit Go.Shelf
attribute [local go_sem] Oper.semAt_some
def rP (image:Option ByteArray) (v:Value):Value:= .agg #[.string (image.getD ⟨#[]⟩),.bool image.isSome,v]
section
variable {W w w':World} {x:uX} {h b pb:Nat} {V:mJ} {D:Dev} {p u:Value}
theorem Zc (k:uY W w x pb h V D b p u):
  Calls Tryz.prog 23 #[.pointer (some ⟨pb,0,none⟩)] w fun e w'=>∃ v,e= .returned (rP V.image v)/\w'.ownsRow w.heap.size 9 1 v V.texts.length (strCells V.texts)/\Below w.heap.size w w':=by
 have HI:Hid (∀ wx,Below w.heap.size w wx->Calls Tryz.prog 38 #[.pointer (some ⟨x.vb,0,none⟩)] wx fun e w'=>e= .returned (.tuple #[.string (V.image.getD ⟨#[]⟩),.bool V.image.isSome])/\wx=w'):=fun wx hB=>I4 (k.vis.below hB)
 have HR:Hid (∀ wx,Below w.heap.size w wx->Calls Tryz.prog 36 #[.pointer (some ⟨x.vb,0,none⟩)] wx fun e w'=>∃ v,e= .returned v/\w'.ownsRow wx.heap.size 9 1 v V.texts.length (strCells V.texts)/\Below wx.heap.size wx w'):=fun wx hB=>CP (k.vis.below hB) k.few.2
 have y1:=k.pl.cell 1;have hlt:=k.pl.lt;have HP:=zh k.pl;have HB0:Hid (Below w.heap.size w (w.alloc (.cells #[.string ⟨#[]⟩,.bool false,.slice none 0 0] 52))):=(bK _ _).alloc (aF _) _;have R0:Hid (ak (w.alloc (.cells #[.string ⟨#[]⟩,.bool false,.slice none 0 0] 52)) w.heap.size 52 #[.string ⟨#[]⟩,.bool false,.slice none 0 0]):=ak.new _ _ _;unfold rP;generalize V.image.getD ⟨#[]⟩=i0 at HI ⊢;generalize V.image.isSome=b0 at HI ⊢;clear k;go_enter Tryz.func23,Tryz.ntmps23;go_wp2_with fail;refine(HI.out _ HB0.out).mono ?_;rintro e w1 ⟨rfl,rfl⟩;go_wp2_with fail;refine(HR.out _ HB0.out).mono ?_;rintro e w2 ⟨v,rfl,hr,hB⟩;obtain⟨A,c,rfl⟩:=Sec.aJ hr;have HR2:=zh hr;have HB2:=zh hB;have R2:=zh (R0.out.below hB R0.out.lt);have c0:=R2.out.cell 0;have c1:=R2.out.cell 1;have c2:=R2.out.cell 2;have f0:=R2.out.frozen 0;have f1:=R2.out.frozen 1;have f2:=R2.out.frozen 2;clear hr hB;go_wp2_with fail;have q1:=R2.out.aB 0 (.string i0);have q2:=q1.aB 1 (.bool b0);have q3:=q2.aB 2 (.slice A V.texts.length c);have hrow:=lF HR2.out (show w.heap.size<=_ from HB0.out.size);have k1:=hrow.kept (au w2 w.heap.size 0 (.string i0)) (.inr (aA hrow R2.out (by decide)));have k2:=k1.kept (au _ w.heap.size 1 (.bool b0)) (.inr (aA k1 q1 (by decide)));have k3:=k2.kept (au _ w.heap.size 2 (.slice A V.texts.length c)) (.inr (aA k2 q2 (by decide)));have hbb:=(((HB0.out.trans (HB2.out.mono HB0.out.size)).setCell (p:=⟨w.heap.size,0,none⟩) (aF _) (.string i0)).setCell (p:=⟨w.heap.size,1,none⟩) (aF _) (.bool b0)).setCell (p:=⟨w.heap.size,2,none⟩) (aF _) (.slice A V.texts.length c);exact bU (bF (P:=Tryz.prog) rfl _ _ w.heap.size 52 #[.string i0,.bool b0,.slice A V.texts.length c] _ rfl q3 Tryz.underlying52 rfl (by kernel_rfl)) rfl ⟨_,rfl,k3,hbb⟩
theorem Mc (w:World) (i j:Option ByteArray) (v v':Value) (I J:List ByteArray) (h0:kL w v I) (h1:kL w v' J) (hN:I.length<=1048576) (hM:J.length<=1048576):
  Calls Tryz.prog 30 #[rP i v,rP j v'] w fun e w'=>e= .returned (.bool (decide (I=J) && (decide (i.getD ⟨#[]⟩=j.getD ⟨#[]⟩) && decide (i.isSome=j.isSome))))/\Below w.heap.size w w':=by
 have HS:Hid (∀ wx,Below w.heap.size w wx->Calls Tryz.prog 33 #[v,v'] wx fun e w'=>e= .returned (.bool (decide (I=J)))/\Below wx.heap.size wx w'):=fun wx hB=>Md wx v v' I J (h0.below hB) (h1.below hB) hN hM
 unfold rP;generalize decide (I=J)=T at HS ⊢;generalize i.getD ⟨#[]⟩=i0;generalize j.getD ⟨#[]⟩=j0;generalize i.isSome=b0;generalize j.isSome=b1;clear h0 h1 hN hM;have hb1:Hid (Below w.heap.size w (w.alloc (.cells #[.string i0,.bool b0,v] 52))):=(bK _ _).alloc (aF _) _;have HB2:Hid (Below w.heap.size w ((w.alloc (.cells #[.string i0,.bool b0,v] 52)).alloc (.cells #[.string j0,.bool b1,v'] 52))):=hb1.out.alloc hb1.out.size _;have R0:Hid (ak ((w.alloc (.cells #[.string i0,.bool b0,v] 52)).alloc (.cells #[.string j0,.bool b1,v'] 52)) w.heap.size 52 #[.string i0,.bool b0,v]):=(ak.new w _ _).alloc _;have R1:Hid (ak ((w.alloc (.cells #[.string i0,.bool b0,v] 52)).alloc (.cells #[.string j0,.bool b1,v'] 52)) (w.heap.size+1) 52 #[.string j0,.bool b1,v']):=by
  have:=ak.new (w.alloc (.cells #[.string i0,.bool b0,v] 52)) 52 #[.string j0,.bool b1,v'];rw[oz] at this;exact this
 go_enter Tryz.func30,Tryz.ntmps30;go_wp2_with fail;generalize ((w.alloc (.cells #[.string i0,.bool b0,v] 52)).alloc (.cells #[.string j0,.bool b1,v'] 52))=w0 at *;refine(HS.out _ HB2.out).mono ?_;rintro e w1 ⟨rfl,hB⟩;have HB3:=zh (HB2.out.trans (hB.mono HB2.out.size));have c00:=(R0.out.below hB R0.out.lt).cell 0;have c01:=(R0.out.below hB R0.out.lt).cell 1;have c10:=(R1.out.below hB R1.out.lt).cell 0;have c11:=(R1.out.below hB R1.out.lt).cell 1;clear hB;cases T with
 | false=>
  go_wp2_with fail;go_ret;exact⟨rfl,HB3.out⟩
 | true=>
  by_cases hij:i0=j0
  ·have e1:(i0.toList==j0.toList)=true:=by rw[hij];exact kG _
   have hd:=zh (pW hij);clear hij;go_wp2_with fail;go_ret;refine⟨?_,HB3.out⟩;rw[hd.out];cases b0<;>cases b1<;>rfl
  ·have e1:(i0.toList==j0.toList)=false:=jh hij;have hd:=zh (dF hij);clear hij;go_wp2_with fail;go_ret;exact⟨by rw[hd.out];rfl,HB3.out⟩
end
end
section
variable {h b:Nat} {V:mJ} {D:Dev}
end
section
open Go.RowKit Go.Shelf
attribute [local go_sem] Oper.semAt_some
section
open Sec (tH)
end
end
section
open Go.RowKit Go.Shelf
attribute [local go_sem] Oper.semAt_some
theorem QH (w:World) (s:ByteArray) (f:Nat) (hs:s.size=64) (hf:f+8<=64):
  Calls Tryz.prog 141 #[.string s,.int .i64 f] w fun e w'=>∃ z,e= .returned (.int .i64 z)/\w=w':=by
 have Hs:=zh hs;have hsz:(s.size:Int)=64:=by rw[hs];rfl
 clear hs;go_enter Tryz.func141,Tryz.ntmps141;go_wp2_with fail;go_loopw [5,6] (fun n k wr=>∃ (z:Int) (j:Nat),n= .int .i64 z/\j<=8/\k= .int .i64 ((j:Int)-1)/\wr=w) (fun _ k _=>(intOf k+1).toNat)
 case atStart=>exact⟨0,8,rfl,by decide,rfl,rfl⟩
 case round=>
  obtain⟨z,j,rfl,hj,rfl,rfl⟩:=hrel;cases j with
  | zero=>
   go_wp2_with fail;all_goals go_ret
   all_goals exact⟨_,rfl,rfl⟩
  | succ j=>
   have hj1:(f:Int)+(j:Int)<64:=by omega
   go_wp2_with fail
   ·go_ret;exact⟨_,rfl,rfl⟩
   case roundEnd=>
    refine⟨⟨_,j,rfl,by omega,rfl,trivial⟩,?_⟩;simp[intOf]
end
open Go.RowKit Go.Shelf
open Sec (tH oD joinL GX)
attribute [local go_sem] Oper.semAt_some
theorem UL (g o c n u:Nat) (hu:u<=n) (hc:n<=c):∃ A',(0<n-u->A'=some ⟨g,o+u,none⟩)/\∀ w:World,(Instr.slice 35 (.slice (some ⟨g,o,none⟩) n c) (some (.int .i64 (u:Int))) none none).run Tryz.prog w= .ok (.slice A' (n-u) (c-u)) w:=by
 by_cases e:c=u
 ·have en:n=u:=by omega
  subst e en;refine⟨some ⟨g,o,none⟩,fun h=>absurd h (by omega),fun w=>?_⟩;simp[go_sem]
 ·refine⟨_,fun _=>rfl,fun w=>?_⟩;have e1:¬ n<u:=by omega
  have e2:¬ c<u:=by omega
  simp[go_sem,hu,e]
def fQ (xs:List (Nat×Nat×List UInt8)):List ByteArray:=xs.map fun x=>⟨x.2.2.toArray⟩
def numsOf (xs:List (Nat×Nat×List UInt8)):List Nat:=xs.map fun x=>x.2.1
theorem EU (xs:List (Nat×Nat×List UInt8)) (x:Nat×Nat×List UInt8):fQ (xs++ [x])=fQ xs++ [⟨x.2.2.toArray⟩]:=by unfold fQ;rw[Gh];rfl
theorem EW (xs:List (Nat×Nat×List UInt8)) (x:Nat×Nat×List UInt8):numsOf (xs++ [x])=numsOf xs++ [x.2.1]:=by unfold numsOf;rw[Gh];rfl
theorem Ij (xs:List (Nat×Nat×List UInt8)):(fQ xs).length=xs.length:=lq ..
theorem Az (xs:List (Nat×Nat×List UInt8)):(numsOf xs).length=xs.length:=lq ..
structure FS (w wr:World) (vl vn:Value) (ts:List ByteArray) (ns:List Nat) (u:Nat):Prop where
 res:ak wr w.heap.size 201 #[.slice none 0 0,.slice none 0 0,.int .i64 0]
 f:ak wr (w.heap.size+1) 201 #[vl,vn,.int .i64 u]
 rl:wr.ownsRow (w.heap.size+1) 9 1 vl ts.length (strCells ts)
 rn:wr.ownsRow (w.heap.size+1) 3 1 vn ns.length (intCells ns)
 b:Below w.heap.size w wr
section
variable {w wr w' w4:World} {vl vn v':Value} {ts:List ByteArray} {ns:List Nat} {u:Nat}
theorem FS.on (h:FS w wr vl vn ts ns u) (hB:Below wr.heap.size wr w'):FS w w' vl vn ts ns u:=
 ⟨h.res.below hB h.res.lt,h.f.below hB h.f.lt,ownsRow_below h.rl hB (aF _),ownsRow_below h.rn hB (aF _),h.b.trans (hB.mono h.b.size)⟩
theorem FS.lt (h:FS w wr vl vn ts ns u):w.heap.size+1<wr.heap.size:=h.f.lt
theorem zo {j:Nat} {e:TypeId} {n:Nat} {v:Value} {l:List Value} (hr:wr.ownsRow (w.heap.size+1) e 1 v n l) (hb:ak wr j 201 #[vl,vn,.int .i64 (u:Nat)]) (he:e≠201) (i:Nat) (x:Value):(wr.setCell ⟨j,i,none⟩ x).ownsRow (w.heap.size+1) e 1 v n l:=
 hr.kept (au wr j i x) (.inr (aA hr hb he))
theorem FS.app1 (h:FS w wr vl vn ts ns u) {t:ByteArray} (hown:w4.ownsRow (w.heap.size+1) 9 1 v' (ts.length+1) (strCells ts++ [.string t])) (hg:wr.grownBy w4 vl.ownBlock):
  FS w (w4.setCell ⟨w.heap.size+1,0,none⟩ v') v' vn (ts++ [t]) ns u/\ak w4 (w.heap.size+1) 201 #[vl,vn,.int .i64 u]:=by
 have ne:∀ j T cs,ak wr j T cs->T≠9->some j≠vl.ownBlock:=fun j T cs hb hT=>(aA h.rl hb (Ne.symm hT)).symm
 have hf:=h.f.grown hg (ne _ _ _ h.f (by decide));have hn:w4.ownsRow (w.heap.size+1) 3 1 vn ns.length (intCells ns):=gI h.rn (fun j cs _ hb=>hg.block j hb.lt (ne _ _ _ hb (by decide)));have g1:=au w4 (w.heap.size+1) 0 v';have hr:=h.res.grown hg (ne _ _ _ h.res (by decide));refine⟨⟨hr.grown g1 (fun e=>by have:=Option.some.inj e;omega),hf.aB 0 v',?_,zo hn hf (by decide) 0 v',(h.b.grown hg h.b.size (fun j e=>by have:=(h.rl.lt j e).1;omega)).setCell (p:=⟨w.heap.size+1,0,none⟩) (wW _) _⟩,hf⟩;have:=zo hown hf (by decide) 0 v';rw[kM];have e:strCells (ts++ [t])=strCells ts++ [.string t]:=by simp[strCells]
 rw[e];exact this
theorem FS.akn (h:FS w wr vl vn ts ns u) {z:Nat} (hown:w4.ownsRow (w.heap.size+1) 3 1 v' (ns.length+1) (intCells ns++ [.int .i64 (z:Nat)])) (hg:wr.grownBy w4 vn.ownBlock):
  FS w (w4.setCell ⟨w.heap.size+1,1,none⟩ v') vl v' ts (ns++ [z]) u/\ak w4 (w.heap.size+1) 201 #[vl,vn,.int .i64 u]:=by
 have ne:∀ j T cs,ak wr j T cs->T≠3->some j≠vn.ownBlock:=fun j T cs hb hT=>(aA h.rn hb (Ne.symm hT)).symm
 have hf:=h.f.grown hg (ne _ _ _ h.f (by decide));have hn:w4.ownsRow (w.heap.size+1) 9 1 vl ts.length (strCells ts):=gI h.rl (fun j cs _ hb=>hg.block j hb.lt (ne _ _ _ hb (by decide)));have g1:=au w4 (w.heap.size+1) 1 v';have hr:=h.res.grown hg (ne _ _ _ h.res (by decide));refine⟨⟨hr.grown g1 (fun e=>by have:=Option.some.inj e;omega),hf.aB 1 v',zo hn hf (by decide) 1 v',?_,(h.b.grown hg h.b.size (fun j e=>by have:=(h.rn.lt j e).1;omega)).setCell (p:=⟨w.heap.size+1,1,none⟩) (wW _) _⟩,hf⟩;have:=zo hown hf (by decide) 1 v';rw[kM];have e:intCells (ns++ [z])=intCells ns++ [.int .i64 (z:Nat)]:=by simp[intCells]
 rw[e];exact this
theorem FS.use (h:FS w wr vl vn ts ns u) (q:Nat):FS w (wr.setCell ⟨w.heap.size+1,2,none⟩ (.int .i64 (q:Nat))) vl vn ts ns q:=by
 have g1:=au wr (w.heap.size+1) 2 (.int .i64 (q:Nat));exact⟨h.res.grown g1 (fun e=>by have:=Option.some.inj e;omega),h.f.aB 2 _,zo h.rl h.f (by decide) 2 _,zo h.rn h.f (by decide) 2 _,h.b.setCell (p:=⟨w.heap.size+1,2,none⟩) (wW _) _⟩
theorem FS.box (h:FS w wr vl vn ts ns u) {j:Nat} {cs:Array Value} (hb:ak wr j 229 cs):some j≠vl.ownBlock/\some j≠vn.ownBlock/\j≠w.heap.size+1:=
 ⟨(aA h.rl hb (by decide)).symm,(aA h.rn hb (by decide)).symm,hb.gY h.f (by decide)⟩
end
theorem QI {B:dh} {u last:Nat} {xs:List (Nat×Nat×List UInt8)} (h:Path B 0 0 xs u last):(numsOf xs).getLast?.getD 0=last:=by
 have h2:=(KJ h).2;unfold numsOf;rw[List.getLast?_map,h2]
theorem UM {B:dh} {u last k:Nat} {xs:List (Nat×Nat×List UInt8)} (h:Path B 0 0 xs u last) (hk:xs.length=k+1):(numsOf xs)[k]? =some last:=by
 have h2:=QI h;have h3:(numsOf xs).length=k+1:=by rw[Az];exact hk
 rw[List.getLast?_eq_getElem?,h3,Nat.add_sub_cancel,jB (by omega)] at h2;rw[jB (by omega),<-h2];rfl
theorem abx {l:dh} (h:(joinL l).e=0):1<=(joinL l).number/\(joinL l).number<=Sec.bn:=by
 obtain⟨s0,p,t,_,_,h3,_,_,_,e⟩:=mY h;obtain⟨_,a,c⟩:=Sec.xR h3;rw[e];exact⟨c,a⟩
section
variable {w:World}
theorem QJ {w3:World} {T:Array Value} {Al An:Option Addr} {k cl cn u:Nat} {xs:List (Nat×Nat×List UInt8)} {RB:dh} (hF:FS w w3 (.slice Al k cl) (.slice An k cn) (fQ xs) (numsOf xs) u) (hend:recs RB=xs) (h2:T.getD 2 undef= .pointer (some ⟨w.heap.size,0,none⟩)):
  bodyPost Tryz.prog Tryz.f142 (fun e w'=>∃ vl vn u,e= .returned (.agg #[vl,vn,.int .i64 (u:Nat)])/\w'.ownsRow w.heap.size 9 1 vl (recs RB).length (strCells (fQ (recs RB)))/\w'.ownsRow w.heap.size 3 1 vn (recs RB).length (intCells (numsOf (recs RB)))/\Below w.heap.size w w') .ret ⟨T,[]⟩ (((w3.setCell ⟨w.heap.size,0,none⟩ (.slice Al k cl)).setCell ⟨w.heap.size,1,none⟩ (.slice An k cn)).setCell ⟨w.heap.size,2,none⟩ (.int .i64 (u:Nat))):=by
 subst hend;have hB4:Below w.heap.size w (((w3.setCell ⟨w.heap.size,0,none⟩ (.slice Al k cl)).setCell ⟨w.heap.size,1,none⟩ (.slice An k cn)).setCell ⟨w.heap.size,2,none⟩ (.int .i64 (u:Nat))):=(((hF.b.setCell (p:=⟨w.heap.size,0,none⟩) (aF _) _).setCell (p:=⟨w.heap.size,1,none⟩) (aF _) _).setCell (p:=⟨w.heap.size,2,none⟩) (aF _) _);have g0:=au w3 w.heap.size 0 (.slice Al k cl);have b1:=hF.res.aB 0 (.slice Al k cl);have g1:=au (w3.setCell ⟨w.heap.size,0,none⟩ (.slice Al k cl)) w.heap.size 1 (.slice An k cn);have b2:=b1.aB 1 (.slice An k cn);have g2:=au ((w3.setCell ⟨w.heap.size,0,none⟩ (.slice Al k cl)).setCell ⟨w.heap.size,1,none⟩ (.slice An k cn)) w.heap.size 2 (.int .i64 (u:Nat));have b3:=b2.aB 2 (.int .i64 (u:Nat));have ra:=((hF.rl.kept g0 (.inr (aA hF.rl hF.res (by decide))))).kept (bG g1 g2) (.inr (aA (hF.rl.kept g0 (.inr (aA hF.rl hF.res (by decide)))) b1 (by decide)));have rc:=((hF.rn.kept g0 (.inr (aA hF.rn hF.res (by decide))))).kept (bG g1 g2) (.inr (aA (hF.rn.kept g0 (.inr (aA hF.rn hF.res (by decide)))) b1 (by decide)));rw[Ij] at ra;rw[Az] at rc;exact bU (v:= .agg #[.slice Al k cl,.slice An k cn,.int .i64 (u:Nat)]) (bF (P:=Tryz.prog) (p:=2) rfl _ _ w.heap.size 201 #[.slice Al k cl,.slice An k cn,.int .i64 (u:Nat)] _ h2 b3 Tryz.underlying201 rfl (by kernel_rfl)) rfl ⟨_,_,u,rfl,lF ra (wW _),lF rc (wW _),hB4⟩
theorem LV (v:Value) (l:List ByteArray) (h:tH w v l) (hl:l.length<=4096) (hl1:1<=l.length):
  Calls Tryz.prog 142 #[v] w fun e w'=>∃ vl vn u,e= .returned (.agg #[vl,vn,.int .i64 (u:Nat)])/\w'.ownsRow w.heap.size 9 1 vl (recs (rowsOf l)).length (strCells (fQ (recs (rowsOf l))))/\w'.ownsRow w.heap.size 3 1 vn (recs (rowsOf l)).length (intCells (numsOf (recs (rowsOf l))))/\Below w.heap.size w w':=by
 obtain⟨A,c,rfl,hc,hm,hat⟩:=h;obtain⟨g,o,rfl,hg,hat⟩:=hat hl1;obtain⟨i0,hi,hz0,hz1,hz2⟩:=info_parts iw;obtain⟨j0,hj,hy0,hy1,hy2⟩:=info_parts WB;have HAt:=zh hat;have Hg:=zh hg;have Hl:=zh (And.intro hl (And.intro hc hm));obtain⟨RB,hRB⟩:∃ B,rowsOf l=B:=⟨_,rfl⟩;have hBl:RB.length=l.length:=by rw[<-hRB];exact lq ..
 rw[hRB];have hJ:Hid (∀ (wx:World) (u:Nat) (A':Option Addr),Below w.heap.size w wx->u<=l.length->(0<l.length-u->A'=some ⟨g,o+u,none⟩)->Calls Tryz.prog 164 #[.slice A' (l.length-u) (c-u)] wx fun e w'=>e= .returned (GX (joinL (RB.drop u)))/\Below wx.heap.size wx w'):=by
  intro wx u A' hB hu hA;have hs:tH wx (.slice A' (l.length-u) (c-u)) (l.drop u):=by
   refine⟨A',c-u,by rw[rX],by rw[rX];omega,by omega,fun h0=>?_⟩;rw[rX] at h0;refine⟨g,o+u,hA h0,rY hg hB.size,fun i t ht=>?_⟩;rw[Nc] at ht;rw[Nat.add_assoc];exact(hB.cell (p:=⟨g,o+(u+i),none⟩) hg).trans (hat (u+i) t ht)
  have h:=Sec.Yp hs;rw[KR,hRB] at h;exact h
 have hb1:=(bK w.heap.size w).alloc (aF _) (.cells #[.slice none 0 0,.slice none 0 0,.int .i64 0] 201);have hb2:=hb1.alloc hb1.size (.cells #[.slice none 0 0,.slice none 0 0,.int .i64 0] 201);have hF0:Hid (FS w ((w.alloc (.cells #[.slice none 0 0,.slice none 0 0,.int .i64 0] 201)).alloc (.cells #[.slice none 0 0,.slice none 0 0,.int .i64 0] 201)) (.slice none 0 0) (.slice none 0 0) [] [] 0):=by
  refine⟨(ak.new w _ _).alloc _,?_,Ju _ _ _ _,Ju _ _ _ _,hb2⟩;have:=ak.new (w.alloc (.cells #[.slice none 0 0,.slice none 0 0,.int .i64 0] 201)) 201 #[.slice none 0 0,.slice none 0 0,.int .i64 0];rw[oz] at this;exact this
 have HBl:=zh hBl;clear hat hl hc hm hb1 hb2 hg hl1 hBl hRB;obtain⟨n,hn⟩:∃ n,l.length=n:=⟨_,rfl⟩;rw[hn] at HBl Hl hJ ⊢;go_enter Tryz.func142,Tryz.ntmps142;go_wp2_with fail;generalize ((w.alloc (.cells #[.slice none 0 0,.slice none 0 0,.int .i64 0] 201)).alloc (.cells #[.slice none 0 0,.slice none 0 0,.int .i64 0] 201))=w0 at *;go_loopw [] (fun wr=>∃ (xs:List (Nat×Nat×List UInt8)) (u last:Nat) (vl vn:Value),Hid (Path RB 0 0 xs u last)/\Hid (FS w wr vl vn (fQ xs) (numsOf xs) u)) (fun wr=>n-(intOf ((wr.cell? ⟨w.heap.size+1,2,none⟩).getD undef)).toNat)
 case atStart=>exact⟨[],0,0,_,_,Path.nil _ _,hF0⟩
 case round=>
  clear hF0;obtain⟨xs,u,last,vl,vn,hP,hF⟩:=hrel;obtain⟨Al,cl,rfl⟩:=Sec.aJ hF.out.rl;obtain⟨An,cn,rfl⟩:=Sec.aJ hF.out.rn;obtain⟨k,hk⟩:∃ k,xs.length=k:=⟨_,rfl⟩;have hkt:Hid ((fQ xs).length=k):=(Ij xs).trans hk;have hkn:Hid ((numsOf xs).length=k):=(Az xs).trans hk;rw[hkt.out,hkn.out] at hF;have hk':=zh hk;clear hk;have hun:Hid (u<=n):=by
   have:=Wq hP.out;rw[HBl.out] at this;unfold Hid;omega
  obtain⟨A',hA',hsl⟩:=UL g o c n u hun.out Hl.out.2.1;have HJ:=zh (hJ.out wr u A' hF.out.b hun.out hA');have y0:=hF.out.f.cell 0;have y1:=hF.out.f.cell 1;have y2:=hF.out.f.cell 2;have HY2:Hid (wr.cell? ⟨w.heap.size+1,2,none⟩=some (.int .i64 (u:Nat))):=y2;obtain⟨J,hJe⟩:∃ J,joinL (RB.drop u)=J:=⟨_,rfl⟩;rw[hJe] at HJ;have HJe:=zh hJe;clear hA' hJe;obtain⟨J1,J2,J3,J4⟩:=J;unfold GX at HJ;dsimp only at HJ;go_upto_region 3 with(first | (go_at_call 164;refine HJ.out.mono ?_;rintro e w1 ⟨rfl,hB⟩;have HB1:=zh hB;clear hB));have hF1:Hid (FS w (w1.alloc (.cells #[.int .i64 (J1:Nat),.string ⟨J2.toArray⟩,.int .i64 (J3:Nat),.int .i64 J4] 229)) (.slice Al k cl) (.slice An k cn) (fQ xs) (numsOf xs) u):=(hF.out.on HB1.out).on ((bK _ w1).alloc (aF _) _);have hR1:Hid (ak (w1.alloc (.cells #[.int .i64 (J1:Nat),.string ⟨J2.toArray⟩,.int .i64 (J3:Nat),.int .i64 J4] 229)) w1.heap.size 229 #[.int .i64 (J1:Nat),.string ⟨J2.toArray⟩,.int .i64 (J3:Nat),.int .i64 J4]):=ak.new _ _ _;obtain⟨w2,hw2⟩:∃ w2,w1.alloc (.cells #[.int .i64 (J1:Nat),.string ⟨J2.toArray⟩,.int .i64 (J3:Nat),.int .i64 J4] 229)=w2:=⟨_,rfl⟩;obtain⟨rb,hrb⟩:∃ rb,w1.heap.size=rb:=⟨_,rfl⟩;rw[hw2] at hF1 hR1 ⊢;rw[hrb] at hR1 ⊢;clear hw2 hrb y0 y1 y2 hF HB1 HJ hJ hsl;have r0:=hR1.out.cell 0;have r1:=hR1.out.cell 1;have r2:=hR1.out.cell 2;have r3:=hR1.out.cell 3;have y0:=hF1.out.f.cell 0;have y1:=hF1.out.f.cell 1;have y2:=hF1.out.f.cell 2;by_cases h4:J4=0
  ·subst h4;have hj0:(joinL (RB.drop u)).e=0:=by rw[HJe.out]
   have hju:=oJ hj0;rw[HJe.out,rX,HBl.out] at hju;have hjn:=abx hj0;rw[HJe.out] at hjn;have hk4:Hid (k<=4096):=by
    have:=(Ik hP.out).1;have h2:=hun.out;have h3:=Hl.out.1;have h4:=hk'.out;unfold Hid;omega
   have hmore:Hid (u<n/\u+J3<=n/\1<=J3):=by have:=hju;dsimp only at this;unfold Hid;omega
   have akp:Hid (wrap64 ((u:Int)+(J3:Int))=((u+J3:Nat):Int)):=by have:=hmore.out;have:=Hl.out.1;unfold Hid wrap64;omega
   by_cases h0:k=0
   ·have d0:decide (0<k)=false:=dF (by omega);have d0':decide ((0:Int)<(k:Int))=false:=dF (by omega);have xC:Hid (Path RB 0 0 (xs++ [(u+J3,J1,J2)]) (u+J3) J1):=by
     have hx0:xs= []:=ZX (hk'.out.trans h0);have hl0:last=0:=by have:=QI hP.out;rw[hx0] at this;exact this.symm
     refine uF hP.out (x:=(u+J3,J1,J2)) ?_;unfold recAt;rw[HJe.out,if_pos ⟨by rw[HBl.out];exact hmore.out.1,rfl,by rw[hl0];exact hjn.1⟩]
    clear h0 hju hjn hj0;go_wp2_with fail
    go_quiet (fail)
    have hF3:Hid (FS w (w2.drewN nq) (.slice Al k cl) (.slice An k cn) (fQ xs) (numsOf xs) u):=hF1.out.on (jG (bK _ _) nq);have oH:Hid (ak (w2.drewN nq) rb 229 #[.int .i64 (J1:Nat),.string ⟨J2.toArray⟩,.int .i64 (J3:Nat),.int .i64 0]):=hR1.out.drewN nq;clear r0 r1 r2 r3 y0 y1 y2 hF1 hR1;generalize w2.drewN nq=w3 at hF3 oH ⊢;have y0:=hF3.out.f.cell 0;have r1:=oH.out.cell 1;have hle:Hid (k+1<=maxLen/\k<=4096):=by have:=hk4.out;unfold Hid maxLen;omega
    have Hrl:Hid (w3.ownsRow (w.heap.size+1) 9 1 (.slice Al k cl) k (strCells (fQ xs))):=by have h:=hF3.out.rl;rw[hkt.out] at h;exact h
    have hlt3:=zh hF3.out.lt;go_wp2_with (at_builtin;refine wpList_append_own _ rfl _ _ 35 rfl (w.heap.size+1) 9 i0 _ 1 16 Tryz.underlying35 hi hz0 hz1 hz2 rfl (by decide) _ k (strCells (fQ xs)) rfl (Hrl.out.alloc _) ⟨w3.heap.size,0,none⟩ 1 1 [.string ⟨J2.toArray⟩] rfl rfl ?a1 ?a2 ?a3 ?a4 ?a5 ?_)
    case a1=>exact gG (ak.new w3 9 #[.string ⟨J2.toArray⟩])
    case a2=>simp[Value.oneCell']
    case a3=>exact hle.out.1
    case a4=>have:=hle.out.2;omega
    case a5=>have:=hlt3.out;simp;omega
    intro v4 w4 hown4 hg4 _;have hgA:=(World.grownBy_alloc w3 (.cells #[.string ⟨J2.toArray⟩] 9) (Value.slice Al k cl).ownBlock).trans hg4;obtain⟨A4,c4,rfl⟩:=Sec.aJ hown4;have Il:w4.ownsRow (w.heap.size+1) 9 1 (.slice A4 (k+1) c4) ((fQ xs).length+1) (strCells (fQ xs)++ [.string ⟨J2.toArray⟩]):=by rw[hkt.out];exact hown4
    obtain⟨EX,hb4⟩:=hF3.out.app1 Il hgA;obtain⟨n1,n2,n3⟩:=hF3.out.box oH.out;have hR4:=(oH.out.grown hgA n1).grown (au w4 (w.heap.size+1) 0 (.slice A4 (k+1) c4)) (fun e=>n3 (Option.some.inj e));have c0:=hb4.cell 0;have f0:=hb4.frozen 0;have Jz:=zh EX;have HR4:=zh hR4;clear hown4 Il hg4 hgA EX hb4 hR4 y0 r1 hF3 oH Hrl hlt3 n1 n2 n3;go_upto_region 6 with fail;generalize w4.setCell ⟨w.heap.size+1,0,none⟩ (.slice A4 (k+1) c4)=w5 at Jz HR4 ⊢;clear c0 f0;have y1:=Jz.out.f.cell 1;have r0:=HR4.out.cell 0;have Hrn:Hid (w5.ownsRow (w.heap.size+1) 3 1 (.slice An k cn) k (intCells (numsOf xs))):=by have h:=Jz.out.rn;rw[hkn.out] at h;exact h
    have aby:=zh Jz.out.lt;go_wp2_with (at_builtin;refine wpList_append_own _ rfl _ _ 30 rfl (w.heap.size+1) 3 j0 _ 1 8 Tryz.underlying30 hj hy0 hy1 hy2 rfl (by decide) _ k (intCells (numsOf xs)) rfl (Hrn.out.alloc _) ⟨w5.heap.size,0,none⟩ 1 1 [.int .i64 (J1:Nat)] rfl rfl ?b1 ?b2 ?b3 ?b4 ?b5 ?_)
    case b1=>exact gG (ak.new w5 3 #[.int .i64 (J1:Nat)])
    case b2=>simp[Value.oneCell']
    case b3=>exact hle.out.1
    case b4=>have:=hle.out.2;omega
    case b5=>have:=aby.out;simp;omega
    intro v6 w6 hown6 hg6 _;have hgB:=(World.grownBy_alloc w5 (.cells #[.int .i64 (J1:Nat)] 3) (Value.slice An k cn).ownBlock).trans hg6;obtain⟨A6,c6,rfl⟩:=Sec.aJ hown6;have Io:w6.ownsRow (w.heap.size+1) 3 1 (.slice A6 (k+1) c6) ((numsOf xs).length+1) (intCells (numsOf xs)++ [.int .i64 (J1:Nat)]):=by rw[hkn.out];exact hown6
    obtain⟨hF6,hb6⟩:=Jz.out.akn Io hgB;obtain⟨m1,m2,m3⟩:=Jz.out.box HR4.out;have hR6:=(HR4.out.grown hgB m2).grown (au w6 (w.heap.size+1) 1 (.slice A6 (k+1) c6)) (fun e=>m3 (Option.some.inj e));have c1:=hb6.cell 1;have f1:=hb6.frozen 1;have HF6:=zh hF6;have Xl:=zh hR6;clear hown6 Io hg6 hgB hF6 hb6 hR6 y1 r0 Jz HR4 Hrn aby m1 m2 m3;go_upto_region 7 with fail;generalize w6.setCell ⟨w.heap.size+1,1,none⟩ (.slice A6 (k+1) c6)=w7 at HF6 Xl ⊢;clear c1 f1;have y2:=HF6.out.f.cell 2;have q2:=HF6.out.f.frozen 2;have r2:=Xl.out.cell 2;have hsu:=akp.out;have HF7:=zh (HF6.out.use (u+J3));go_wp2_with fail;go_roundw
    case rel=>exact⟨xs++ [(u+J3,J1,J2)],u+J3,J1,_,_,xC,by rw[EU,EW];exact HF7⟩
    case measure=>
     have e7:(w7.setCell ⟨w.heap.size+1,2,none⟩ (.int .i64 ((u:Int)+(J3:Int)))).cell? ⟨w.heap.size+1,2,none⟩=some (.int .i64 ((u:Int)+(J3:Int))):=HF7.out.f.cell 2;have h1:=hmore.out;simp only[e7,HY2.out,Option.getD,intOf,Int.toNat_natCast];omega
   ·obtain⟨m,hm⟩:∃ m,k=m+1:=⟨k-1,by omega⟩;have d0:decide (0<k)=true:=pW (by omega);have d0':decide ((0:Int)<(k:Int))=true:=pW (by omega);have hw1:wrap64 ((k:Int)-1)=(m:Int):=by have:=hk4.out;unfold wrap64;omega
    have hln:=UM hP.out (hk'.out.trans hm);obtain⟨gn,en,hgn,hcn⟩:∃ gn,An=some ⟨gn,0,none⟩/\gn<w2.heap.size/\w2.cell? ⟨gn,m,none⟩=some (.int .i64 (last:Nat)):=by
     have hrn:=hF1.out.rn;rw[hkn.out] at hrn;obtain⟨gn,c',cur,e1,hb,_,_⟩:=row_of hrn (by omega);cases e1;refine⟨gn,rfl,hb.lt,?_⟩;rw[World.ownsRow.cellAt hrn m (by omega)];simp[intCells,hln]
    subst en;have hkm:(m:Int)<(k:Int):=by omega
    have aq3:m<k:=by omega
    have hm0:(0:Int)<=(m:Int):=by omega
    clear hln hgn hm h0 hj0;by_cases hlt:J1<=last
    ·have d1:decide (J1<=last)=true:=pW hlt;have d1':decide ((J1:Int)<=(last:Int))=true:=pW (by omega);have hend:Hid (recs RB=xs):=by
      refine DI hP.out ?_ _ (by omega);unfold recAt;rw[HJe.out,if_neg (fun a=>by have:=a.2.2;dsimp only at this;omega)]
     clear hlt hju hjn;go_wp2_with fail
     go_quiet (fail)
     have hF3:Hid (FS w (w2.drewN nq) (.slice Al k cl) (.slice (some ⟨gn,0,none⟩) k cn) (fQ xs) (numsOf xs) u):=hF1.out.on (jG (bK _ _) nq);clear r0 r1 r2 r3 y0 y1 y2 hF1 hR1 HJe;generalize w2.drewN nq=w3 at hF3 ⊢;have y0:=hF3.out.f.cell 0;have y1:=hF3.out.f.cell 1;have y2:=hF3.out.f.cell 2;have z0:=hF3.out.res.cell 0;have z1:=hF3.out.res.cell 1;have z2:=hF3.out.res.cell 2;have f0:=hF3.out.res.frozen 0;have f1:=hF3.out.res.frozen 1;have f2:=hF3.out.res.frozen 2;go_wp2_with fail;exact QJ hF3.out hend.out rfl
    ·have d1:decide (J1<=last)=false:=dF hlt;have d1':decide ((J1:Int)<=(last:Int))=false:=dF (by omega);have xC:Hid (Path RB 0 0 (xs++ [(u+J3,J1,J2)]) (u+J3) J1):=by
      refine uF hP.out (x:=(u+J3,J1,J2)) ?_;unfold recAt;rw[HJe.out,if_pos ⟨by rw[HBl.out];exact hmore.out.1,rfl,by dsimp only;omega⟩]
     clear hlt hju hjn;go_wp2_with fail
     go_quiet (fail)
     have hF3:Hid (FS w (w2.drewN nq) (.slice Al k cl) (.slice (some ⟨gn,0,none⟩) k cn) (fQ xs) (numsOf xs) u):=hF1.out.on (jG (bK _ _) nq);have oH:Hid (ak (w2.drewN nq) rb 229 #[.int .i64 (J1:Nat),.string ⟨J2.toArray⟩,.int .i64 (J3:Nat),.int .i64 0]):=hR1.out.drewN nq;clear r0 r1 r2 r3 y0 y1 y2 hF1 hR1;generalize w2.drewN nq=w3 at hF3 oH ⊢;have y0:=hF3.out.f.cell 0;have r1:=oH.out.cell 1;have hle:Hid (k+1<=maxLen/\k<=4096):=by have:=hk4.out;unfold Hid maxLen;omega
     have Hrl:Hid (w3.ownsRow (w.heap.size+1) 9 1 (.slice Al k cl) k (strCells (fQ xs))):=by have h:=hF3.out.rl;rw[hkt.out] at h;exact h
     have hlt3:=zh hF3.out.lt;go_wp2_with (at_builtin;refine wpList_append_own _ rfl _ _ 35 rfl (w.heap.size+1) 9 i0 _ 1 16 Tryz.underlying35 hi hz0 hz1 hz2 rfl (by decide) _ k (strCells (fQ xs)) rfl (Hrl.out.alloc _) ⟨w3.heap.size,0,none⟩ 1 1 [.string ⟨J2.toArray⟩] rfl rfl ?a1 ?a2 ?a3 ?a4 ?a5 ?_)
     case a1=>exact gG (ak.new w3 9 #[.string ⟨J2.toArray⟩])
     case a2=>simp[Value.oneCell']
     case a3=>exact hle.out.1
     case a4=>have:=hle.out.2;omega
     case a5=>have:=hlt3.out;simp;omega
     intro v4 w4 hown4 hg4 _;have hgA:=(World.grownBy_alloc w3 (.cells #[.string ⟨J2.toArray⟩] 9) (Value.slice Al k cl).ownBlock).trans hg4;obtain⟨A4,c4,rfl⟩:=Sec.aJ hown4;have Il:w4.ownsRow (w.heap.size+1) 9 1 (.slice A4 (k+1) c4) ((fQ xs).length+1) (strCells (fQ xs)++ [.string ⟨J2.toArray⟩]):=by rw[hkt.out];exact hown4
     obtain⟨EX,hb4⟩:=hF3.out.app1 Il hgA;obtain⟨n1,n2,n3⟩:=hF3.out.box oH.out;have hR4:=(oH.out.grown hgA n1).grown (au w4 (w.heap.size+1) 0 (.slice A4 (k+1) c4)) (fun e=>n3 (Option.some.inj e));have c0:=hb4.cell 0;have f0:=hb4.frozen 0;have Jz:=zh EX;have HR4:=zh hR4;clear hown4 Il hg4 hgA EX hb4 hR4 y0 r1 hF3 oH Hrl hlt3 n1 n2 n3;go_upto_region 6 with fail;generalize w4.setCell ⟨w.heap.size+1,0,none⟩ (.slice A4 (k+1) c4)=w5 at Jz HR4 ⊢;clear c0 f0;have y1:=Jz.out.f.cell 1;have r0:=HR4.out.cell 0;have Hrn:Hid (w5.ownsRow (w.heap.size+1) 3 1 (.slice (some ⟨gn,0,none⟩) k cn) k (intCells (numsOf xs))):=by have h:=Jz.out.rn;rw[hkn.out] at h;exact h
     have aby:=zh Jz.out.lt;go_wp2_with (at_builtin;refine wpList_append_own _ rfl _ _ 30 rfl (w.heap.size+1) 3 j0 _ 1 8 Tryz.underlying30 hj hy0 hy1 hy2 rfl (by decide) _ k (intCells (numsOf xs)) rfl (Hrn.out.alloc _) ⟨w5.heap.size,0,none⟩ 1 1 [.int .i64 (J1:Nat)] rfl rfl ?b1 ?b2 ?b3 ?b4 ?b5 ?_)
     case b1=>exact gG (ak.new w5 3 #[.int .i64 (J1:Nat)])
     case b2=>simp[Value.oneCell']
     case b3=>exact hle.out.1
     case b4=>have:=hle.out.2;omega
     case b5=>have:=aby.out;simp;omega
     intro v6 w6 hown6 hg6 _;have hgB:=(World.grownBy_alloc w5 (.cells #[.int .i64 (J1:Nat)] 3) (Value.slice (some ⟨gn,0,none⟩) k cn).ownBlock).trans hg6;obtain⟨A6,c6,rfl⟩:=Sec.aJ hown6;have Io:w6.ownsRow (w.heap.size+1) 3 1 (.slice A6 (k+1) c6) ((numsOf xs).length+1) (intCells (numsOf xs)++ [.int .i64 (J1:Nat)]):=by rw[hkn.out];exact hown6
     obtain⟨hF6,hb6⟩:=Jz.out.akn Io hgB;obtain⟨m1,m2,m3⟩:=Jz.out.box HR4.out;have hR6:=(HR4.out.grown hgB m2).grown (au w6 (w.heap.size+1) 1 (.slice A6 (k+1) c6)) (fun e=>m3 (Option.some.inj e));have c1:=hb6.cell 1;have f1:=hb6.frozen 1;have HF6:=zh hF6;have Xl:=zh hR6;clear hown6 Io hg6 hgB hF6 hb6 hR6 y1 r0 Jz HR4 Hrn aby m1 m2 m3;go_upto_region 7 with fail;generalize w6.setCell ⟨w.heap.size+1,1,none⟩ (.slice A6 (k+1) c6)=w7 at HF6 Xl ⊢;clear c1 f1;have y2:=HF6.out.f.cell 2;have q2:=HF6.out.f.frozen 2;have r2:=Xl.out.cell 2;have hsu:=akp.out;have HF7:=zh (HF6.out.use (u+J3));go_wp2_with fail;go_roundw
     case rel=>exact⟨xs++ [(u+J3,J1,J2)],u+J3,J1,_,_,xC,by rw[EU,EW];exact HF7⟩
     case measure=>
      have e7:(w7.setCell ⟨w.heap.size+1,2,none⟩ (.int .i64 ((u:Int)+(J3:Int)))).cell? ⟨w.heap.size+1,2,none⟩=some (.int .i64 ((u:Int)+(J3:Int))):=HF7.out.f.cell 2;have h1:=hmore.out;simp only[e7,HY2.out,Option.getD,intOf,Int.toNat_natCast];omega
  ·have e4:(J4 !=0)=true:=by rw[bne_iff_ne];exact h4
   have hend:Hid (recs RB=xs):=by
    refine DI hP.out ?_ _ (by omega);unfold recAt;rw[HJe.out,if_neg (fun a=>h4 a.2.1)]
   clear h4;go_wp2_with fail
   go_quiet (fail)
   have hF3:Hid (FS w (w2.drewN nq) (.slice Al k cl) (.slice An k cn) (fQ xs) (numsOf xs) u):=hF1.out.on (jG (bK _ _) nq);clear r0 r1 r2 r3 y0 y1 y2 hF1 hR1 HJe;generalize w2.drewN nq=w3 at hF3 ⊢;have y0:=hF3.out.f.cell 0;have y1:=hF3.out.f.cell 1;have y2:=hF3.out.f.cell 2;have z0:=hF3.out.res.cell 0;have z1:=hF3.out.res.cell 1;have z2:=hF3.out.res.cell 2;have f0:=hF3.out.res.frozen 0;have f1:=hF3.out.res.frozen 1;have f2:=hF3.out.res.frozen 2;go_wp2_with fail;exact QJ hF3.out hend.out rfl
end
end Go.Proofs.YtpghocekofdpbaaGreatDoor
