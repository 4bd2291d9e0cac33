import Derived.Test.YtpghocekofdpbaaGreatDoorQr18
import Derived.Test.YtpghocekofdpbaaGreatDoorQr21
set_option maxRecDepth 100000
set_option maxHeartbeats 4000000
namespace Go.Proofs.YtpghocekofdpbaaGreatDoor
open Go.RowKit Go.Shelf
attribute [local go_sem] Oper.semAt_some
section
variable {w w':World} {a:nP} {D:Dev} {l:List ByteArray} {v:Value}
theorem Rn (h:aO w a D) (hu:nM D) (i:Nat) (x:Sec) (hx:D.M[i]? =some x) (hc:x.dirty=false):
  Calls Tryz.prog 104 #[.pointer (some ⟨a.d,0,none⟩),.int .i64 i] w fun e w'=>e= .returned (.tuple #[.string x.now,.int .i64 0])/\w=w':=by
 have hj:=(List.getElem?_eq_some_iff.1 hx).1;have hi:iV D.M (i:Int):=⟨by omega,by omega⟩;have e1:(if D.down=true then (⟨#[]⟩:ByteArray) else if iV D.M (i:Int) then (D.M.getD (i:Int).toNat default).seen else ⟨#[]⟩)=x.now:=by
  rw[if_neg (by rw[hu.down];decide),if_pos hi,Int.toNat_natCast,En,hx];show x.seen=x.now
  unfold Sec.seen;rw[hc];rfl
 have e2:(if D.down=true then (14:Int) else if iV D.M (i:Int) then 0 else 1)=0:=by
  rw[if_neg (by rw[hu.down];decide),if_pos hi]
 have h1:=X5 h i;rw[e1,e2] at h1;exact h1
theorem Ac (h:aO w a D) (hu:nM D) (lb ab o:Nat) (hlb:ak w lb 35 #[v]) (hab:ak w ab 3 #[.int .i64 o]) (hI:OW w v l a) (hl:∀ s ∈ l,s.size=64) (hb:o+l.length<=D.M.length) (hD:D.M.length<=1048576):
  Calls Tryz.prog 124 #[.func (.func 125) #[.pointer (some ⟨a.d,0,none⟩)] #[],.pointer (some ⟨lb,0,none⟩),.pointer (some ⟨ab,0,none⟩)] w fun e w'=>
   (e= .returned (.int .i64 0)/\(D.left<0\/((l.length:Nat):Int)<=D.left)/\aO w' a (D.on l.length (nI l o D.M))/\dJ w w' a)\/
   (e= .returned (.int .i64 14)/\D.fails l.length/\aO w' a (D.off (nI (l.take D.left.toNat) o D.M))/\dJ w w' a):=by
 obtain⟨A,n,c,rfl⟩:=hI.slice;have hn:n=l.length:=by
  rcases hI.texts.2 with⟨h0,h1⟩ | ⟨_,_,_,h0,_⟩
  ·cases h0;exact h1.symm
  ·cases h0;rfl
 subst hn;have HI:=zh hI;have Hl:=zh hl;have Hb:=zh (And.intro hb hD);have Hu:=zh hu;have H:=zh h;have HL:=zh hlb;have HA:=zh hab;have x1:=hlb.cell 0;have H0:Hid (aO w a (D.on 0 (nI (l.take 0) o D.M))):=by
  unfold Hid;rw[List.take_zero];show aO w a (D.on 0 D.M)
  rw[Oo];exact h
 have HL0:Hid (D.left<0\/((0:Nat):Int)<=D.left):=by unfold Hid;omega
 clear h hu hlb hI hl hb hD hab;go_enter Tryz.func124,Tryz.ntmps124;go_wp2_with fail;go_loopw [10] (fun i wr=>∃ k:Nat,k<=l.length/\i= .int .i64 k/\Hid (D.left<0\/(k:Int)<=D.left)/\Hid (aO wr a (D.on k (nI (l.take k) o D.M)))/\Hid (dJ w wr a)) (fun i _=>l.length-(intOf i).toNat)
 case atStart=>exact⟨0,iT _,rfl,HL0.out,H0.out,dJ.refl _⟩
 case round=>
  obtain⟨k,hk,rfl,hlf,hd,hF⟩:=hrel;have hwk:wrap64 ((k:Int)+1)=(k:Int)+1:=by have:=Hb.out;unfold wrap64;omega
  have hwo:wrap64 ((o:Int)+(k:Int))=(o+k:Nat):=by have:=Hb.out;unfold wrap64;omega
  by_cases hkl:k<l.length
  ·have QK:=zh hkl;have hd1:decide (k<l.length)=true:=pW hkl;obtain⟨s,hs⟩:∃ s,l[k]? =some s:=⟨_,jB hkl⟩;have hI2:=hF.out.img H.out HI.out;obtain⟨g,rfl⟩:∃ g,A=some ⟨g,0,none⟩:=by
    rcases hI2.texts.2 with⟨_,h1⟩ | ⟨g,_,_,h0,_⟩
    ·omega
    ·cases h0;exact⟨g,rfl⟩
   have cs:=hI2.cell hs;have ca:=(hF.out.box H.out HA.out (by decide)).cell 0;have hc:chk (iV (D.on k (nI (l.take k) o D.M)).M ((o+k:Nat):Int)/\s.size=64)=0:=by
    unfold chk;rw[if_pos ⟨⟨by omega,by show((o+k:Nat):Int)<((nI (l.take k) o D.M).length:Nat);rw[qj];have:=Hb.out;omega⟩,Hl.out s (zI hs)⟩]
   have VX:=TP hd.out (Fe (M:=nI (l.take k) o D.M) Hu.out hlf.out).left ((o+k:Nat):Int) s;rw[hc] at VX;have hnx:Hid (upd (fun x=>x.write s) (nI (l.take k) o D.M) ((o+k:Nat):Int)=nI (l.take (k+1)) o D.M):=by
    have e:l.take (k+1)=l.take k++ [s]:=by rw[FD,hs];rfl
    unfold Hid;rw[e,Py,ou,Gm (by omega)]
   clear hs hI2 hkl hc;by_cases hoff:(k:Int)=D.left
   ·rw[I9 Hu.out _ k _ hoff] at VX;have hwt:=zh VX;have hkk:D.left.toNat=k:=by omega
    have hff:D.fails l.length:=by have:=QK.out;exact⟨by omega,by omega⟩
    have Hff:=zh hff;have Hkk:=zh hkk;clear VX hoff hkk hff;go_wp2_with (first | (go_at_call 125;refine hwt.out.mono ?_;rintro e w1 ⟨rfl,h1,h2⟩));go_ret;refine .inr ⟨rfl,Hff.out,?_,hF.out.trans h2⟩;rw[Hkk.out];exact h1
   ·rw[Om Hu.out _ k _ (by have:=hlf.out;omega)] at VX;have hwt:=zh VX;have aoH:Hid (D.left<0\/((k+1:Nat):Int)<=D.left):=by have:=hlf.out;unfold Hid;omega
    clear VX hoff;go_wp2_with (first | (go_at_call 125;refine hwt.out.mono ?_;rintro e w1 ⟨rfl,h1,h2⟩));go_roundw
    case rel=>exact⟨k+1,QK.out,by go_num,aoH.out,by rw[<-hnx.out];exact h1,hF.out.trans h2⟩
    case measure=>rw[hwk];exact vM QK.out
  ·obtain rfl:k=l.length:=by omega
   have hd1:decide (l.length<l.length)=false:=dF hkl;have hfin:=hd.out;rw[List.take_length] at hfin;have OI:=zh hfin;clear hkl hfin hd;go_wp2_with fail;go_ret;exact .inl ⟨rfl,hlf.out,OI.out,hF.out⟩
theorem ae9 (h:aO w a D) (hu:nM D) (i:Nat) (x:Sec) (hx:D.M[i]? =some x) (hc:x.dirty=false) (s:ByteArray) (jx jb wb:Nat) (b:Bool) (hjx:ak w jx 76 #[.pointer (some ⟨jb,0,none⟩)]) (hjd:w.cell? ⟨jb,0,none⟩=some (.pointer (some ⟨a.d,0,none⟩))) (hwb:ak w wb 4 #[.bool b]):
  Calls Tryz.prog 127 #[.int .i64 i,.string s,.pointer (some ⟨jx,0,none⟩),.pointer (some ⟨wb,0,none⟩)] w fun e w'=>e= .returned (.int .i64 0)/\w'=w.setCell ⟨wb,0,none⟩ (.bool (b || !(x.now.toList==s.toList))):=by
 have HR:=zh (Rn h hu i x hx hc);have x1:=hjx.cell 0;have x2:=hwb.cell 0;have x3:=hwb.frozen 0;clear h hu hx hc hjx hwb;cases b with
 | true=>
  go_enter Tryz.func127,Tryz.ntmps127;go_wp2_with (first | (go_at_call 104;refine HR.out.mono ?_;rintro e w1 ⟨rfl,rfl⟩));go_ret;exact⟨rfl,rfl⟩
 | false=>
  go_enter Tryz.func127,Tryz.ntmps127;go_wp2_with (first | (go_at_call 104;refine HR.out.mono ?_;rintro e w1 ⟨rfl,rfl⟩));go_ret;exact⟨rfl,by simp⟩
theorem OJ (h:aO w a D) (hu:nM D) (hc:Clean D.M) (jx jb wb lb ab o:Nat) (cs:Array Value) (hlb:ak w lb 35 #[v]) (hab:ak w ab 3 #[.int .i64 o]) (hjx:ak w jx 76 #[.pointer (some ⟨jb,0,none⟩)]) (hjb:ak w jb 126 cs) (hjd:cs[0]? =some (.pointer (some ⟨a.d,0,none⟩)))
  (hwb:ak w wb 4 #[.bool false]) (hI:OW w v l a) (hb:o+l.length<=D.M.length) (hD:D.M.length<=1048576) (hoff:wb≠a.d/\wb≠a.b/\wb≠a.g/\wb≠a.sb/\wb≠a.fb) (hvw:v.ownBlock≠some wb):
  Calls Tryz.prog 124 #[.func (.func 127) #[] #[.pointer (some ⟨jx,0,none⟩),.pointer (some ⟨wb,0,none⟩)],.pointer (some ⟨lb,0,none⟩),.pointer (some ⟨ab,0,none⟩)] w fun e w'=>e= .returned (.int .i64 0)/\ak w' wb 4 #[.bool (badM l o D.M l.length)]/\w.grownBy w' (some wb):=by
 obtain⟨A,n,c,rfl⟩:=hI.slice;have hn:n=l.length:=by
  rcases hI.texts.2 with⟨h0,h1⟩ | ⟨_,_,_,h0,_⟩
  ·cases h0;exact h1.symm
  ·cases h0;rfl
 subst hn;have n1:some lb≠some wb:=fun e=>hwb.gY hlb (by decide) (by cases e;rfl)
 have n2:some ab≠some wb:=fun e=>hwb.gY hab (by decide) (by cases e;rfl)
 have n3:some jx≠some wb:=fun e=>hwb.gY hjx (by decide) (by cases e;rfl)
 have n4:some jb≠some wb:=fun e=>hwb.gY hjb (by decide) (by cases e;rfl)
 have HI:=zh hI;have Hb:=zh (And.intro hb hD);have Hu:=zh hu;have Hc:=zh hc;have H:=zh h;have HL:=zh hlb;have HA:=zh hab;have HX:=zh hjx;have HJ:=zh hjb;have HW:=zh hwb;have x1:=hlb.cell 0;clear h hu hc hlb hI hb hD hab hjx hjb hwb;go_enter Tryz.func124,Tryz.ntmps124;go_wp2_with fail;go_loopw [10] (fun i wr=>∃ k:Nat,k<=l.length/\i= .int .i64 k/\Hid (w.grownBy wr (some wb))/\Hid (ak wr wb 4 #[.bool (badM l o D.M k)])) (fun i _=>l.length-(intOf i).toNat)
 case atStart=>exact⟨0,iT _,rfl,iJ _ _,HW.out⟩
 case round=>
  obtain⟨k,hk,rfl,hg,hw⟩:=hrel;have hwk:wrap64 ((k:Int)+1)=(k:Int)+1:=by have:=Hb.out;unfold wrap64;omega
  have hwo:wrap64 ((o:Int)+(k:Int))=(o+k:Nat):=by have:=Hb.out;unfold wrap64;omega
  by_cases hkl:k<l.length
  ·have QK:=zh hkl;have hd1:decide (k<l.length)=true:=pW hkl;obtain⟨s,hs⟩:∃ s,l[k]? =some s:=⟨_,jB hkl⟩;obtain⟨x,hx⟩:∃ x,D.M[o+k]? =some x:=⟨_,jB (by have:=Hb.out;omega)⟩;have hI2:=HI.out.off hg.out hvw;obtain⟨g,rfl⟩:∃ g,A=some ⟨g,0,none⟩:=by
    rcases hI2.texts.2 with⟨_,h1⟩ | ⟨g,_,_,h0,_⟩
    ·omega
    ·cases h0;exact⟨g,rfl⟩
   have cs2:=hI2.cell hs;have ca:=(HA.out.grown hg.out n2).cell 0;have hjc:wr.cell? ⟨jb,0,none⟩=some (.pointer (some ⟨a.d,0,none⟩)):=((HJ.out.grown hg.out n4).cell 0).trans hjd;have hp:=zh (ae9 (H.out.off hg.out hoff) Hu.out (o+k) x hx (Hc.out x (zI hx)) s jx jb wb _ (HX.out.grown hg.out n3) hjc hw.out);have hnx:Hid (ak (wr.setCell ⟨wb,0,none⟩ (.bool (badM l o D.M k || !(x.now.toList==s.toList)))) wb 4 #[.bool (badM l o D.M (k+1))]):=by
    unfold Hid;rw[Yc l o D.M k x s hx hs,<-ByteArray.toList_eq,<-ByteArray.toList_eq];exact hw.out.aB 0 _
   clear hs hx hI2 hjc hkl;go_wp2_with (first | (go_at_call 127;refine hp.out.mono ?_;rintro e w1 ⟨rfl,rfl⟩));go_roundw
   case rel=>exact⟨k+1,QK.out,by go_num,bG hg.out (au _ _ _ _),hnx.out⟩
   case measure=>rw[hwk];exact vM QK.out
  ·obtain rfl:k=l.length:=by omega
   have hd1:decide (l.length<l.length)=false:=dF hkl;clear hkl;go_wp2_with fail;go_ret;exact⟨rfl,hw.out,hg.out⟩
end
section
open Sec (aj bn PU)
section
variable {w w':World} {a:nP} {D:Dev} {jb h:Nat} {J:qm} {v:Value}
theorem XH (hd:aO w a D) (hu:nM D) (hf:Fine D.M) (hc:Clean D.M) (hj:nU w jb a h J v) (o:Nat) (t:ByteArray) (hN:1<=J.next/\J.next<=bn) (ht:t.size<=8000) (hb:o+aj t.size<=D.M.length) (hD:D.M.length<=4096) (hl:D.left<0\/((aj t.size+1:Nat):Int)<=D.left) (hbad:badM (aQ J.next t) o (dW (aQ J.next t) o D.M) (aj t.size)=false):
  Calls Tryz.prog 88 #[.pointer (some ⟨jb,0,none⟩),.int .i64 o,.string t] w fun e w'=>
   e= .returned (.tuple #[.int .i64 (J.next:Int),.int .i64 0])/\aO w' a (D.on (aj t.size+1) (dW (aQ J.next t) o D.M))/\nU w' jb a h { J with next:=J.next+1 } v/\cZ w w' a jb:=by
 obtain⟨w0,hw0⟩:∃ w0,(w.alloc (.cells #[.pointer (some ⟨jb,0,none⟩)] 76)).alloc (.cells #[.int .i64 o] 3)=w0:=⟨_,rfl⟩;have hB0:Below w.heap.size w w0:=by rw[<-hw0];exact((bK _ w).alloc (aF _) _).alloc (by simp) _
 have hs0:w0.heap.size=w.heap.size+1+1:=by rw[<-hw0];simp
 have hx0:ak w0 w.heap.size 76 #[.pointer (some ⟨jb,0,none⟩)]:=by rw[<-hw0];exact(ak.new w _ _).alloc _
 have ha0:ak w0 (w.heap.size+1) 3 #[.int .i64 o]:=by
  have:=ak.new (w.alloc (.cells #[.pointer (some ⟨jb,0,none⟩)] 76)) 3 #[.int .i64 o];rw[oz] at this;rw[<-hw0];exact this
 have hp0:FM w0 a D jb h J v w.heap.size (w.heap.size+1) o:=⟨hd.below hB0,hj.below hB0,hx0,ha0⟩;have hjl:=hj.lt;obtain⟨w1,hw1⟩:∃ w1,w0.setCell ⟨jb,4,none⟩ (.int .i64 ((J.next:Int)+1))=w1:=⟨_,rfl⟩;have hp1:FM w1 a D jb h { J with next:=J.next+1 } v w.heap.size (w.heap.size+1) o:=by
  rw[<-hw1];exact⟨hp0.j.dev hp0.dev 4 _,hp0.j.WE (J.next+1),hx0.other (a:=⟨jb,4,none⟩) (by show w.heap.size≠jb;omega) _,ha0.other (a:=⟨jb,4,none⟩) (by show w.heap.size+1≠jb;omega) _⟩
 have hF1:cZ w w1 a jb:=by rw[<-hw1];exact(cZ.bD hB0).set 4 _
 have hs1:w1.heap.size=w0.heap.size:=by rw[<-hw1];simp[World.setCell]
 obtain⟨y1,y2,y3⟩:=hp0.cells;have y4:w0.cell? ⟨jb,4,none⟩=some (.int .i64 (J.next:Int)):=hp0.j.blk.cell 4;have y5:w0.frozen? ⟨jb,4,none⟩=false:=hp0.j.blk.frozen 4;have hwn:wrap64 ((J.next:Int)+1)=(J.next:Int)+1:=by have:bn=4611686018427387904:=rfl;unfold wrap64;omega
 obtain⟨N,hNe⟩:∃ N,J.next=N:=⟨_,rfl⟩;rw[hNe] at hN hp1 y4 hwn hw1 hbad ⊢;have hpk:=Sec.Qe w1 N t;rw[GN N t hN ht] at hpk;have Hpk:=zh hpk;have hsz:=jU N t;have hln:=jf N t;obtain⟨L,hL⟩:∃ L,aQ N t=L:=⟨_,rfl⟩;rw[hL] at Hpk hsz hln hbad ⊢;obtain⟨C,hC⟩:∃ C,aj t.size=C:=⟨_,rfl⟩;rw[hC] at hb hln hl hbad ⊢;subst hln;have Hp1:=zh hp1;have HF1:=zh hF1;have Hu:=zh hu;have Hl1:=zh hl;have aoI:=zh hbad;have Hf:=zh hf;have Hc:=zh hc;have Hz:=zh hsz;have Hb:=zh (And.intro hb hD);have Hs:=zh (And.intro hs0 (And.intro hs1 hjl));clear hl hbad hd hu hf hc hj hN ht hb hD hB0 hx0 ha0 hp0 hp1 hF1 hpk hsz hL hC hNe hs1 hjl;go_enter Tryz.func88,Tryz.ntmps88;go_wp2_with fail;refine Hpk.out.mono ?_;rintro e w2 ⟨vP,rfl,hT⟩;have hB2:=hT.2.2;have hp2:=Hp1.out.below hB2;have hI2:=OW.afg hT Hp1.out.dev;have hlt2:=hT.1.lt;obtain⟨Ap,np,cp,rfl⟩:=hI2.slice;obtain⟨vP,hvP⟩:∃ vP,vP=Value.slice Ap np cp:=⟨_,rfl⟩;rw[<-hvP] at hT hI2 hlt2;obtain⟨w3,hw3⟩:∃ w3,(w2.alloc (.cells #[.slice none 0 0] 35)).setCell ⟨w2.heap.size,0,none⟩ vP=w3:=⟨_,rfl⟩;have hB3:Below w2.heap.size w2 w3:=by rw[<-hw3];exact((bK _ w2).alloc (aF _) _).setCell (p:=⟨w2.heap.size,0,none⟩) (aF _) _
 rw[hvP] at hw3;have hl3:ak w3 w2.heap.size 35 #[vP]:=by rw[<-hw3,hvP];exact(ak.new w2 35 #[.slice none 0 0]).aB 0 _
 have hs3:w3.heap.size=w2.heap.size+1:=by rw[<-hw3];simp[World.setCell]
 have hp3:=hp2.below hB3;have Dx:=hI2.below hB3;obtain⟨z1,z2,z3⟩:=hp3.cells;have hE:Hid (Calls Tryz.prog 124 #[.func (.func 125) #[.pointer (some ⟨a.d,0,none⟩)] #[],.pointer (some ⟨w2.heap.size,0,none⟩),.pointer (some ⟨w.heap.size+1,0,none⟩)] w3 fun e w'=>e= .returned (.int .i64 0)/\aO w' a (D.on L.length (nI L o D.M))/\dJ w3 w' a):=by
  refine(Ac hp3.dev Hu.out w2.heap.size (w.heap.size+1) o hl3 hp3.ba Dx Hz.out Hb.out.1 (by have:=Hb.out.2;omega)).mono ?_;rintro e w' (⟨h1,_,h2,h3⟩ | ⟨_,h1,_⟩)
  ·exact⟨h1,h2,h3⟩
  ·exfalso
   have h2:=Hl1.out;unfold Dev.fails at h1;omega
 have hF3:cZ w w3 a jb:=HF1.out.trans ((cZ.bD hB2).trans (cZ.bD hB3));have Hp3:=zh hp3;have Hl3:=zh hl3;have HI3:=zh Dx;have HF3:=zh hF3;have Hlt:Hid (∀ k,vP.ownBlock=some k->k<w2.heap.size):=fun k e=>(hlt2 k e).2
 have Hs2:=zh (And.intro hs3 (And.intro hB2.size hB3.size));clear hT hB2 hp2 hI2 hlt2 hB3 hl3 hp3 Dx hF3 Hpk Hp1 HF1 y1 y2 y3 y4 y5 hw0 hw1;go_wp2_with fail;refine hE.out.mono ?_;rintro e w4 ⟨rfl,hd4,EX⟩;have hp4:=Hp3.out.left EX hd4;have hl4:=EX.box Hp3.out.dev Hl3.out (by decide);have SN:=EX.img Hp3.out.dev HI3.out;obtain⟨z1,z2,z3⟩:=hp4.cells;have hfl:Hid (Calls Tryz.prog 126 #[.pointer (some ⟨a.d,0,none⟩)] w4 fun e w'=>e= .returned (.int .i64 0)/\aO w' a (D.on (L.length+1) (dW L o D.M))/\dJ w4 w' a):=by
  have h1:=Gt hd4 (Fe (k:=L.length) (M:=nI L o D.M) Hu.out (by have:=Hl1.out;omega)).left (uH L o D.M Hf.out Hz.out Hb.out.1) (by show(nI L o D.M).length<=_;rw[qj];have:=Hb.out.2;omega);rw[Om Hu.out _ L.length _ (by have:=Hl1.out;omega)] at h1;exact h1
 have Hp4:=zh hp4;have Hl4:=zh hl4;have HI4:=zh SN;have Jz:=zh (HF3.out.trans (cZ.OX EX));have Hs4:=zh EX.size;clear hE hd4 EX hp4 hl4 SN Hp3 Hl3 HI3 HF3 hw3;go_wp2_with fail;refine hfl.out.mono ?_;rintro e w5 ⟨rfl,hd5,XF⟩;have hp5:=Hp4.out.left XF hd5;have hl5:=XF.box Hp4.out.dev Hl4.out (by decide);have hI5:=XF.img Hp4.out.dev HI4.out;obtain⟨w6,hw6⟩:∃ w6,(w5.alloc (.cells #[.bool false] 4)).setCell ⟨w5.heap.size,0,none⟩ (.bool false)=w6:=⟨_,rfl⟩;have pJ:Below w5.heap.size w5 w6:=by rw[<-hw6];exact((bK _ w5).alloc (aF _) _).setCell (p:=⟨w5.heap.size,0,none⟩) (aF _) _
 have hb6:ak w6 w5.heap.size 4 #[.bool false]:=by rw[<-hw6];exact(ak.new w5 4 #[.bool false]).aB 0 _
 have Jr:=hp5.below pJ;have OT:=hl5.below pJ hl5.lt;have hI6:=hI5.below pJ;obtain⟨z1,z2,z3⟩:=Jr.cells;have hcl:Clean (dW L o D.M):=qZ Hf.out Hz.out Hb.out.1;have hsz5:w.heap.size<=w5.heap.size:=(Jz.out.trans (cZ.OX XF)).size;have hvl:∀ k,vP.ownBlock=some k->k<w5.heap.size:=fun k e=>by
  have h1:=Hlt.out k e;have h2:=Hs2.out.1;have h3:=Hs4.out;have h4:=XF.size;omega
 have ZR:=zh (OJ (l:=L) Jr.dev (Fe (k:=L.length+1) (M:=dW L o D.M) Hu.out Hl1.out) hcl w.heap.size jb w5.heap.size w2.heap.size (w.heap.size+1) o _ OT Jr.ba Jr.bx Jr.j.blk rfl hb6 hI6 (by show o+L.length<=(dW L o D.M).length;rw[ku];exact Hb.out.1) (by show(dW L o D.M).length<=_;rw[ku];have:=Hb.out.2;omega)
  (by
   obtain⟨l1,l2,l3,l4⟩:=aO.sizes hd5;have l5:=hd5.mem.lt.1;exact⟨by omega,by omega,by omega,by omega,by omega⟩) (fun e=>by have:=hvl _ e;omega))
 have Hp6:=zh Jr;have Hb6:=zh hb6;have Hd5:=zh hd5;have HF6:=zh ((Jz.out.trans (cZ.OX XF)).trans (cZ.bD pJ));have HS:=zh hsz5;clear hfl hd5 XF hp5 hl5 hI5 pJ hb6 Jr OT hI6 hcl Hp4 Hl4 HI4 Jz hvl hsz5;go_wp2_with fail;refine ZR.out.mono ?_;rintro e w7 ⟨rfl,hb7,hg7⟩;have z4:=hb7.cell 0;have hfin:Hid (aO w7 a (D.on (L.length+1) (dW L o D.M))/\nU w7 jb a h { J with next:=N+1 } v/\cZ w w7 a jb):=by
  obtain⟨l1,l2,l3,l4⟩:=aO.sizes Hd5.out;have l5:=Hd5.out.mem.lt.1;have lj:=Hs.out.2.2;have ls:=HS.out;refine⟨Hp6.out.dev.off hg7 ⟨by omega,by omega,by omega,by omega,by omega⟩,⟨Hp6.out.j.blk.grown hg7 (fun e=>by cases e;omega),Hp6.out.j.row.kept hg7 (.inr (aA Hp6.out.j.row Hb6.out (by decide)))⟩,?_⟩;have hF:=HF6.out;exact⟨hg7.os.trans hF.os,hg7.tape.trans hF.tape,hg7.output.trans hF.output,fU hF.size hg7.size,fun k hk h1 h2 h3 h4 h5=>(hg7.block k (rY hk hF.size) (fun e=>by cases e;omega)).trans (hF.rest k hk h1 h2 h3 h4 h5)⟩
 clear ZR hb7 hg7 Hp6 Hd5 HF6 HS hw6;have z4b:w7.cell? ⟨w5.heap.size,0,none⟩=some (.bool false):=z4.trans (by show(#[Value.bool (badM L o (dW L o D.M) L.length)]:Array Value)[0]? =_;rw[aoI.out];rfl);clear z4;go_wp2_with fail;all_goals go_ret2
 all_goals exact⟨rfl,hfin.out⟩
theorem Sz (hd:aO w a D) (hu:nM D) (hf:Fine D.M) (hc:Clean D.M) (hj:nU w jb a h J v) (o:Nat) (t:ByteArray) (hN:1<=J.next/\J.next<=bn) (ht:t.size<=8000) (hb:o+aj t.size<=D.M.length) (hD:D.M.length<=4096) (hl:D.fails (aj t.size+1)):
  Calls Tryz.prog 88 #[.pointer (some ⟨jb,0,none⟩),.int .i64 o,.string t] w fun e w'=>
   e= .returned (.tuple #[.int .i64 0,.int .i64 14])/\aO w' a (D.off (nI ((aQ J.next t).take D.left.toNat) o D.M))/\ak w' jb 126 #[.pointer (some ⟨a.d,0,none⟩),.int .i64 h,.int .i64 J.ay,.int .i64 J.used,.int .i64 ((J.next+1:Nat):Int),v,.bool J.dL,.bool true]/\cZ w w' a jb:=by
 obtain⟨w0,hw0⟩:∃ w0,(w.alloc (.cells #[.pointer (some ⟨jb,0,none⟩)] 76)).alloc (.cells #[.int .i64 o] 3)=w0:=⟨_,rfl⟩;have hB0:Below w.heap.size w w0:=by rw[<-hw0];exact((bK _ w).alloc (aF _) _).alloc (by simp) _
 have hs0:w0.heap.size=w.heap.size+1+1:=by rw[<-hw0];simp
 have hx0:ak w0 w.heap.size 76 #[.pointer (some ⟨jb,0,none⟩)]:=by rw[<-hw0];exact(ak.new w _ _).alloc _
 have ha0:ak w0 (w.heap.size+1) 3 #[.int .i64 o]:=by
  have:=ak.new (w.alloc (.cells #[.pointer (some ⟨jb,0,none⟩)] 76)) 3 #[.int .i64 o];rw[oz] at this;rw[<-hw0];exact this
 have hp0:FM w0 a D jb h J v w.heap.size (w.heap.size+1) o:=⟨hd.below hB0,hj.below hB0,hx0,ha0⟩;have hjl:=hj.lt;obtain⟨w1,hw1⟩:∃ w1,w0.setCell ⟨jb,4,none⟩ (.int .i64 ((J.next:Int)+1))=w1:=⟨_,rfl⟩;have hp1:FM w1 a D jb h { J with next:=J.next+1 } v w.heap.size (w.heap.size+1) o:=by
  rw[<-hw1];exact⟨hp0.j.dev hp0.dev 4 _,hp0.j.WE (J.next+1),hx0.other (a:=⟨jb,4,none⟩) (by show w.heap.size≠jb;omega) _,ha0.other (a:=⟨jb,4,none⟩) (by show w.heap.size+1≠jb;omega) _⟩
 have hF1:cZ w w1 a jb:=by rw[<-hw1];exact(cZ.bD hB0).set 4 _
 have hs1:w1.heap.size=w0.heap.size:=by rw[<-hw1];simp[World.setCell]
 obtain⟨y1,y2,y3⟩:=hp0.cells;have y4:w0.cell? ⟨jb,4,none⟩=some (.int .i64 (J.next:Int)):=hp0.j.blk.cell 4;have y5:w0.frozen? ⟨jb,4,none⟩=false:=hp0.j.blk.frozen 4;have hwn:wrap64 ((J.next:Int)+1)=(J.next:Int)+1:=by have:bn=4611686018427387904:=rfl;unfold wrap64;omega
 obtain⟨N,hNe⟩:∃ N,J.next=N:=⟨_,rfl⟩;rw[hNe] at hN hp1 y4 hwn hw1 ⊢;have hpk:=Sec.Qe w1 N t;rw[GN N t hN ht] at hpk;have Hpk:=zh hpk;have hsz:=jU N t;have hln:=jf N t;obtain⟨L,hL⟩:∃ L,aQ N t=L:=⟨_,rfl⟩;rw[hL] at Hpk hsz hln ⊢;obtain⟨C,hC⟩:∃ C,aj t.size=C:=⟨_,rfl⟩;rw[hC] at hb hln hl;subst hln;have Hp1:=zh hp1;have HF1:=zh hF1;have Hu:=zh hu;have Hl1:=zh hl;have Hf:=zh hf;have Hc:=zh hc;have Hz:=zh hsz;have Hb:=zh (And.intro hb hD);have Hs:=zh (And.intro hs0 (And.intro hs1 hjl));clear hl hd hu hf hc hj hN ht hb hD hB0 hx0 ha0 hp0 hp1 hF1 hpk hsz hL hC hNe hs1 hjl;go_enter Tryz.func88,Tryz.ntmps88;go_wp2_with fail;refine Hpk.out.mono ?_;rintro e w2 ⟨vP,rfl,hT⟩;have hB2:=hT.2.2;have hp2:=Hp1.out.below hB2;have hI2:=OW.afg hT Hp1.out.dev;have hlt2:=hT.1.lt;obtain⟨Ap,np,cp,rfl⟩:=hI2.slice;obtain⟨vP,hvP⟩:∃ vP,vP=Value.slice Ap np cp:=⟨_,rfl⟩;rw[<-hvP] at hT hI2 hlt2;obtain⟨w3,hw3⟩:∃ w3,(w2.alloc (.cells #[.slice none 0 0] 35)).setCell ⟨w2.heap.size,0,none⟩ vP=w3:=⟨_,rfl⟩;have hB3:Below w2.heap.size w2 w3:=by rw[<-hw3];exact((bK _ w2).alloc (aF _) _).setCell (p:=⟨w2.heap.size,0,none⟩) (aF _) _
 rw[hvP] at hw3;have hl3:ak w3 w2.heap.size 35 #[vP]:=by rw[<-hw3,hvP];exact(ak.new w2 35 #[.slice none 0 0]).aB 0 _
 have hs3:w3.heap.size=w2.heap.size+1:=by rw[<-hw3];simp[World.setCell]
 have hp3:=hp2.below hB3;have Dx:=hI2.below hB3;obtain⟨z1,z2,z3⟩:=hp3.cells;have hE:Hid (Calls Tryz.prog 124 #[.func (.func 125) #[.pointer (some ⟨a.d,0,none⟩)] #[],.pointer (some ⟨w2.heap.size,0,none⟩),.pointer (some ⟨w.heap.size+1,0,none⟩)] w3 fun e w'=>(e= .returned (.int .i64 0)/\((L.length:Nat):Int)=D.left/\aO w' a (D.on L.length (nI L o D.M))/\dJ w3 w' a)\/(e= .returned (.int .i64 14)/\aO w' a (D.off (nI (L.take D.left.toNat) o D.M))/\dJ w3 w' a)):=by
  refine(Ac hp3.dev Hu.out w2.heap.size (w.heap.size+1) o hl3 hp3.ba Dx Hz.out Hb.out.1 (by have:=Hb.out.2;omega)).mono ?_;rintro e w' (⟨h1,h0,h2,h3⟩ | ⟨h1,_,h2,h3⟩)
  ·refine .inl ⟨h1,?_,h2,h3⟩;have h4:=Hl1.out;unfold Dev.fails at h4;omega
  ·exact .inr ⟨h1,h2,h3⟩
 have hF3:cZ w w3 a jb:=HF1.out.trans ((cZ.bD hB2).trans (cZ.bD hB3));have Hp3:=zh hp3;have Hl3:=zh hl3;have HI3:=zh Dx;have HF3:=zh hF3;have Hlt:Hid (∀ k,vP.ownBlock=some k->k<w2.heap.size):=fun k e=>(hlt2 k e).2
 have Hs2:=zh (And.intro hs3 (And.intro hB2.size hB3.size));clear hT hB2 hp2 hI2 hlt2 hB3 hl3 hp3 Dx hF3 Hpk Hp1 HF1 y1 y2 y3 y4 y5 hw0 hw1;go_wp2_with fail;refine hE.out.mono ?_;rintro e w4 (⟨rfl,hln,hd4,EX⟩ | ⟨rfl,hd4,EX⟩)
 ·have hp4:=Hp3.out.left EX hd4;obtain⟨z1,z2,z3⟩:=hp4.cells;have z7:w4.cell? ⟨jb,7,none⟩=some (.bool false):=hp4.j.blk.cell 7;have hfl:Hid (Calls Tryz.prog 126 #[.pointer (some ⟨a.d,0,none⟩)] w4 fun e w'=>e= .returned (.int .i64 14)/\aO w' a (D.off (nI (L.take D.left.toNat) o D.M))/\dJ w4 w' a):=by
   have h1:=Gt hd4 (Fe (k:=L.length) (M:=nI L o D.M) Hu.out (by omega)).left (uH L o D.M Hf.out Hz.out Hb.out.1) (by show(nI L o D.M).length<=_;rw[qj];have:=Hb.out.2;omega);rw[I9 Hu.out _ L.length _ hln] at h1;have e:L.take D.left.toNat=L:=uo (by omega);rw[e];exact h1
  have Hp4:=zh hp4;have Jz:=zh (HF3.out.trans (cZ.OX EX));clear hE hd4 EX hp4 Hp3 Hl3 HI3 HF3 hw3 hln;go_wp2_with fail;refine hfl.out.mono ?_;rintro e w5 ⟨rfl,hd5,XF⟩;have hp5:=Hp4.out.left XF hd5;have pJ:Below w5.heap.size w5 (w5.alloc (.cells #[.bool false] 4)):=(bK _ w5).alloc (aF _) _;have Jr:=hp5.below pJ;obtain⟨z1,z2,z3⟩:=Jr.cells;have z7:(w5.alloc (.cells #[.bool false] 4)).cell? ⟨jb,7,none⟩=some (.bool false):=Jr.j.blk.cell 7;have z8:(w5.alloc (.cells #[.bool false] 4)).frozen? ⟨jb,7,none⟩=false:=Jr.j.blk.frozen 7;have OI:Hid (aO ((w5.alloc (.cells #[.bool false] 4)).setCell ⟨jb,7,none⟩ (.bool true)) a (D.off (nI (L.take D.left.toNat) o D.M))/\ak ((w5.alloc (.cells #[.bool false] 4)).setCell ⟨jb,7,none⟩ (.bool true)) jb 126 #[.pointer (some ⟨a.d,0,none⟩),.int .i64 h,.int .i64 J.ay,.int .i64 J.used,.int .i64 ((N+1:Nat):Int),v,.bool J.dL,.bool true]/\cZ w ((w5.alloc (.cells #[.bool false] 4)).setCell ⟨jb,7,none⟩ (.bool true)) a jb):=
   ⟨Jr.j.dev Jr.dev 7 _,Jr.j.blk.aB 7 _,((Jz.out.trans (cZ.OX XF)).trans (cZ.bD pJ)).set 7 _⟩
  clear hfl hd5 XF hp5 Jr pJ Hp4 Jz;go_wp2_with fail;go_ret2;exact⟨rfl,OI.out.1,OI.out.2.1,OI.out.2.2⟩
 ·have hp5:=Hp3.out.left EX hd4;have pJ:Below w4.heap.size w4 (w4.alloc (.cells #[.bool false] 4)):=(bK _ w4).alloc (aF _) _;have Jr:=hp5.below pJ;obtain⟨z1,z2,z3⟩:=Jr.cells;have z7:(w4.alloc (.cells #[.bool false] 4)).cell? ⟨jb,7,none⟩=some (.bool false):=Jr.j.blk.cell 7;have z8:(w4.alloc (.cells #[.bool false] 4)).frozen? ⟨jb,7,none⟩=false:=Jr.j.blk.frozen 7;have OI:Hid (aO ((w4.alloc (.cells #[.bool false] 4)).setCell ⟨jb,7,none⟩ (.bool true)) a (D.off (nI (L.take D.left.toNat) o D.M))/\ak ((w4.alloc (.cells #[.bool false] 4)).setCell ⟨jb,7,none⟩ (.bool true)) jb 126 #[.pointer (some ⟨a.d,0,none⟩),.int .i64 h,.int .i64 J.ay,.int .i64 J.used,.int .i64 ((N+1:Nat):Int),v,.bool J.dL,.bool true]/\cZ w ((w4.alloc (.cells #[.bool false] 4)).setCell ⟨jb,7,none⟩ (.bool true)) a jb):=
   ⟨Jr.j.dev Jr.dev 7 _,Jr.j.blk.aB 7 _,((HF3.out.trans (cZ.OX EX)).trans (cZ.bD pJ)).set 7 _⟩
  clear hE hd4 EX hp5 Jr pJ Hp3 Hl3 HI3 HF3 hw3;go_wp2_with fail;go_ret2;exact⟨rfl,OI.out.1,OI.out.2.1,OI.out.2.2⟩
end
end
open Sec (aj bn nV)
def OL (w:World) (a:nP) (jb h:Nat) (R:(Int×Int)×qm×Dev) (e:Ending) (w':World):Prop:=
 ∃ v',e= .returned (.tuple #[.int .i64 R.1.1,.int .i64 R.1.2])/\aO w' a R.2.2/\nU w' jb a h R.2.1 v'/\cZ w w' a jb
def XI (w:World) (a:nP) (jb:Nat) (E:Dev) (e:Ending) (w':World):Prop:=
 e= .returned (.tuple #[.int .i64 0,.int .i64 14])/\aO w' a E/\cZ w w' a jb
section
variable {w w':World} {a:nP} {D:Dev} {jb h:Nat} {J:qm} {v:Value}
theorem VY (hd:aO w a D) (hup:nM D) (hf:Fine D.M) (hc:Clean D.M) (hj:nU w jb a h J v) (t:ByteArray) (hN:1<=J.next/\J.next<=bn) (ht:t.size<=8000) (hs:J.dL=false) (hh:h<=4096) (hu:J.used+aj t.size<=h) (_hbk:J.ay<=1) (hb:J.ay*h+h<=D.M.length) (hD:D.M.length<=4096)
  (hll:J.l.length<=1048576) (hl:D.left<0\/((aj t.size+1:Nat):Int)<=D.left) (hbad:badM (aQ J.next t) (J.ay*h+J.used) (dW (aQ J.next t) (J.ay*h+J.used) D.M) (aj t.size)=false):
  Calls Tryz.prog 50 #[.pointer (some ⟨jb,0,none⟩),.string t] w (OL w a jb h (((J.next:Int),0),⟨J.ay,J.used+aj t.size,J.next+1,J.l++ [(J.next,t)],false⟩,D.on (aj t.size+1) (dW (aQ J.next t) (J.ay*h+J.used) D.M))):=by
 have hcc:=Sec.count_any (t.size:Int) w;rw[ng t ht] at hcc;have hcp:=Sec.jd t.size;obtain⟨mm,hmm⟩:∃ mm,J.ay*h=mm:=⟨_,rfl⟩;have hmz:(J.ay:Int)*(h:Int)=(mm:Int):=by rw[<-hmm];push_cast;rfl
 rw[hmm] at hb hbad ⊢;clear hmm _hbk;have hsum:mm+J.used<=1048576:=by clear hN;omega
 have Hwo:=zh (xH hsum);have d2:decide (4611686018427387904<(J.next:Int))=false:=by
  have h1:=hN.2;have hm:bn=4611686018427387904:=rfl;clear hb hu hh hcc hcp hmz;exact dF (by omega)
 have WM:=zh hN;clear hN;have HP:Hid (∀ wq,Below w.heap.size w wq->Calls Tryz.prog 88 #[.pointer (some ⟨jb,0,none⟩),.int .i64 ((mm+J.used:Nat):Int),.string t] wq fun e w'=>e= .returned (.tuple #[.int .i64 (J.next:Int),.int .i64 0])/\aO w' a (D.on (aj t.size+1) (dW (aQ J.next t) (mm+J.used) D.M))/\nU w' jb a h { J with next:=J.next+1 } v/\cZ wq w' a jb):=by
  intro wq hB;exact XH (hd.below hB) hup hf hc (hj.below hB) (mm+J.used) t WM.out ht (by omega) hD hl hbad
 have HR:=zh (yU hj (by omega) (by omega:h<=1048576));obtain⟨C,hC⟩:∃ C,aj t.size=C:=⟨_,rfl⟩;rw[hC] at hcc hu hl HP ⊢;have ada:=xH (x:=J.used) (y:=C) (fU hu (fU hh (by decide)));have Hwu:=zh ada;clear ada;have HC:=zh hcc;obtain⟨r,hr⟩:∃ r,h-J.used=r:=⟨_,rfl⟩;rw[hr] at HR;have d3:decide (r<C)=false:=dF (by omega);have d3':decide ((r:Int)<(C:Int))=false:=dF (by omega);have Js:mm<=1048576:=by omega
 obtain⟨o,ho⟩:∃ o,mm+J.used=o:=⟨_,rfl⟩;rw[ho] at HP Hwo ⊢;generalize D.on (C+1) (dW (aQ J.next t) o D.M)=E at HP ⊢;obtain⟨c0,c1,c2,c3,c4,c5,c6,c7⟩:=hj.cells;rw[hs] at c6;have d1:decide (8000<(t.size:Int))=false:=dF (by omega);have HJ:=zh hj;have Hs:=zh hs;have Hll:=zh hll;clear hl hbad hd hup hf hc hj WM ht hs hll hr hC hu hh hcc hcp hb hD ho hsum;unfold OL;have hwo:=Hwo.out;have hwu:=Hwu.out;have hwm:wrap64 ((J.ay:Int)*(h:Int))=(mm:Int):=by
  rw[hmz];exact wrap_small Js
 clear Hwo Hwu;have hwz:IntKind.i64.wrap (IntKind.i64.wrap ((J.ay:Int)*(h:Int))+(J.used:Int))=(o:Int):=by
  have e:∀ x:Int,IntKind.i64.wrap x=wrap64 x:=fun x=>by rw[IntKind.wrap_i64,wrap64]
  rw[e,e,hwm,hwo]
 clear hmz Js;go_enter Tryz.func50,Tryz.ntmps50;go_wp2_with (first | (go_at_call 39;refine HC.out.mono ?_;rintro e w1 ⟨rfl,rfl⟩) | (go_at_call 47;refine HR.out.mono ?_;rintro e w2 ⟨rfl,hB⟩));obtain⟨b0,b1,b2,b3,b4,b5,b6,b7⟩:=(HJ.out.below hB).cells
 go_region_held3 (fun w'=>w'.cell? ⟨jb,2,none⟩=some (.int .i64 J.ay)/\w'.cell? ⟨jb,1,none⟩=some (.int .i64 h)/\w'.cell? ⟨jb,3,none⟩=some (.int .i64 J.used)) (go_keep)
  (first | (go_at_call 88;refine(HP.out _ hB.drew).mono ?_;rintro e w3 ⟨rfl,hd3,hj3,hF3⟩;obtain⟨e0,e1,e2,e3,e4,e5,e6,e7⟩:=hj3.cells))
 have f6:=hj3.blk.frozen 6;rw[Hs.out] at e6;have HB2:=zh hB;clear b0 b1 b2 b3 b4 b5 b6 b7 c0 c1 c2 c3 c4 c5 c6 c7 HP HR HC hB;obtain⟨i0,hi,hz0,hz1,hz2⟩:=info_parts WC;obtain⟨A,c,rfl,hnone,hcap⟩:∃ A c,v= .slice A J.l.length c/\(A=none->J.l.length=0/\J.l.length=0)/\Hid ((A=none/\c=0/\J.l.length=0)\/((∃ g,A=some ⟨g,0,none⟩)/\J.l.length<=c)):=by
  rcases hj3.row.2 with⟨rfl,h0⟩ | ⟨g,cap,cur,rfl,_,_,hcap,_⟩
  ·exact⟨none,0,by rw[show J.l.length=0 from h0],fun _=>⟨h0,h0⟩,.inl ⟨rfl,rfl,h0⟩⟩
  ·exact⟨_,cap,rfl,fun e=>(by cases e),.inr ⟨⟨g,rfl⟩,hcap⟩⟩
 have hcl:Hid (Calls Tryz.prog 89 #[.slice A J.l.length c] w3 fun e w'=>e= .returned (.slice A J.l.length J.l.length)/\w3=w'):=by
  unfold Hid;rcases hcap.out with⟨rfl,rfl,h0⟩ | ⟨⟨g,rfl⟩,hc⟩
  ·rw[h0];exact aaO w3
  ·exact Yk w3 g _ _ hc
 have hold:Hid (∀ b,A=some b->∀ j u,(dQ J.l)[j]? =some u->(w3.alloc (.cells #[.int .i64 (J.next:Int),.string t] 134)).cell? (b.add j)=some u):=by
  intro b hb j u hju;subst hb;rcases hcap.out with⟨h0,_⟩ | ⟨⟨g,hg⟩,hc⟩
  ·cases h0
  ·cases hg;have hjl:j<J.l.length*2:=by rw[<-BF];exact(List.getElem?_eq_some_iff.1 hju).1
   rw[Addr.add_lit,AZ,World.ownsRow.cellAt (hj3.row.alloc _) j hjl];exact hju
 have hlo:Hid ((dQ J.l).length=J.l.length*2):=BF J.l;have hlb:Hid (J.l.length+1<=maxLen/\(J.l.length+1)*24<=140737488355328):=by have:=Hll.out;unfold Hid maxLen;omega
 have f5:=hj3.blk.frozen 5;have f3:=hj3.blk.frozen 3;have Hj3:=zh hj3;have Hd3:=zh hd3;have HF3:=zh hF3;clear hj3 hd3 hF3;go_wp2_with (first | (go_at_call 89;refine hcl.out.mono ?_;rintro e w4 ⟨rfl,rfl⟩) | (at_builtin;refine wpList_append_grows _ rfl _ _ 124 rfl 134 i0 _ 2 24 Tryz.underlying124 hi hz0 hz1 hz2 rfl (by decide) A J.l.length J.l.length (dQ J.l) rfl hnone ?c1 ?c2 ⟨w3.heap.size,0,none⟩ 1 1 [.int .i64 (J.next:Int),.string t] rfl rfl ?c3 ?c4 ?c5 ?c6 ?c7 ?_))
 case c1=>exact hlo.out
 case c2=>exact hold.out
 case c3=>exact gG (ak.new w3 134 #[.int .i64 (J.next:Int),.string t])
 case c4=>simp[Value.oneCell']
 case c5=>omega
 case c6=>exact hlb.out.1
 case c7=>exact hlb.out.2
 intro v5 w5 F5 hg5;obtain⟨A5,c5',rfl⟩:=Sec.aJ F5;have adb:w3.grownBy w5 none:=bG (grown_below ((bK _ w3).alloc (aF _) _) (aF _) none) hg5;have hb5:=Hj3.out.blk.grown adb (by simp);have y3:w5.cell? ⟨jb,3,none⟩=some (.int .i64 (J.used:Int)):=hb5.cell 3;have y5:w5.cell? ⟨jb,5,none⟩=some (.slice A J.l.length c):=hb5.cell 5;have g3:=hb5.frozen 3;have g5:=hb5.frozen 5;have hmo:=zh (nU.more (n:=J.next) (C:=C) (t:=t) Hj3.out adb (lF F5 (by simp)));have hde:=zh (PW Hd3.out adb);have hsz:=zh adb;clear F5 hg5 hb5 adb;go_wp2_with fail;go_ret2;have h1:=hmo.out;have hb5:=Hj3.out.blk.grown hsz.out (by simp);have hf:cZ w3 w5 a jb:=⟨hsz.out.os,hsz.out.tape,hsz.out.output,hsz.out.size,fun k hk _ _ _ _ _=>hsz.out.block k hk (by simp)⟩;have hd5:aO (w5.setCell ⟨jb,5,none⟩ (.slice A5 (J.l.length+1) c5')) a E:=eP hde.out hb5 (by decide) (au _ _ _ _);have hd6:aO ((w5.setCell ⟨jb,5,none⟩ (.slice A5 (J.l.length+1) c5')).setCell ⟨jb,3,none⟩ (.int .i64 ((J.used+C:Nat):Int))) a E:=eP hd5 (hb5.aB 5 _) (by decide) (au _ _ _ _);have hq1:cZ w w2.drew a jb:=cZ.bD HB2.out.drew;have hq2:cZ w w3 a jb:=hq1.trans HF3.out;have hq3:cZ w3 ((w5.setCell ⟨jb,5,none⟩ (.slice A5 (J.l.length+1) c5')).setCell ⟨jb,3,none⟩ (.int .i64 ((J.used+C:Nat):Int))) a jb:=(hf.set 5 _).set 3 _;refine⟨rfl,hd6,⟨.slice A5 (J.l.length+1) c5',?_⟩,hq2.trans hq3⟩;have e:(⟨J.ay,J.used+C,J.next+1,J.l++ [(J.next,t)],J.dL⟩:qm)=⟨J.ay,J.used+C,J.next+1,J.l++ [(J.next,t)],false⟩:=by rw[Hs.out]
 rw[<-e];exact h1
theorem SA (hd:aO w a D) (hup:nM D) (hf:Fine D.M) (hc:Clean D.M) (hj:nU w jb a h J v) (t:ByteArray) (hN:1<=J.next/\J.next<=bn) (ht:t.size<=8000) (hs:J.dL=false) (hh:h<=4096) (hu:J.used+aj t.size<=h) (_hbk:J.ay<=1) (hb:J.ay*h+h<=D.M.length) (hD:D.M.length<=4096)
  (hll:J.l.length<=1048576) (hl:D.fails (aj t.size+1)):
  Calls Tryz.prog 50 #[.pointer (some ⟨jb,0,none⟩),.string t] w (XI w a jb (D.off (nI ((aQ J.next t).take D.left.toNat) (J.ay*h+J.used) D.M))):=by
 have hcc:=Sec.count_any (t.size:Int) w;rw[ng t ht] at hcc;have hcp:=Sec.jd t.size;obtain⟨mm,hmm⟩:∃ mm,J.ay*h=mm:=⟨_,rfl⟩;have hmz:(J.ay:Int)*(h:Int)=(mm:Int):=by rw[<-hmm];push_cast;rfl
 rw[hmm] at hb ⊢;clear hmm _hbk;have hsum:mm+J.used<=1048576:=by clear hN;omega
 have Hwo:=zh (xH hsum);have d2:decide (4611686018427387904<(J.next:Int))=false:=by
  have h1:=hN.2;have hm:bn=4611686018427387904:=rfl;clear hb hu hh hcc hcp hmz;exact dF (by omega)
 have WM:=zh hN;clear hN;have HP:Hid (∀ wq,Below w.heap.size w wq->Calls Tryz.prog 88 #[.pointer (some ⟨jb,0,none⟩),.int .i64 ((mm+J.used:Nat):Int),.string t] wq fun e w'=>e= .returned (.tuple #[.int .i64 0,.int .i64 14])/\aO w' a (D.off (nI ((aQ J.next t).take D.left.toNat) (mm+J.used) D.M))/\ak w' jb 126 #[.pointer (some ⟨a.d,0,none⟩),.int .i64 h,.int .i64 J.ay,.int .i64 J.used,.int .i64 ((J.next+1:Nat):Int),v,.bool J.dL,.bool true]/\cZ wq w' a jb):=by
  intro wq hB;exact Sz (hd.below hB) hup hf hc (hj.below hB) (mm+J.used) t WM.out ht (by omega) hD hl
 have HR:=zh (yU hj (by omega) (by omega:h<=1048576));obtain⟨C,hC⟩:∃ C,aj t.size=C:=⟨_,rfl⟩;rw[hC] at hcc hu hl;have ada:=xH (x:=J.used) (y:=C) (fU hu (fU hh (by decide)));have Hwu:=zh ada;clear ada;have HC:=zh hcc;obtain⟨r,hr⟩:∃ r,h-J.used=r:=⟨_,rfl⟩;rw[hr] at HR;have d3:decide (r<C)=false:=dF (by omega);have d3':decide ((r:Int)<(C:Int))=false:=dF (by omega);have Js:mm<=1048576:=by omega
 obtain⟨o,ho⟩:∃ o,mm+J.used=o:=⟨_,rfl⟩;rw[ho] at HP Hwo ⊢;generalize D.off (nI ((aQ J.next t).take D.left.toNat) o D.M)=E at HP ⊢;obtain⟨c0,c1,c2,c3,c4,c5,c6,c7⟩:=hj.cells;rw[hs] at c6;have d1:decide (8000<(t.size:Int))=false:=dF (by omega);have HJ:=zh hj;have Hs:=zh hs;have Hll:=zh hll;clear hl hd hup hf hc hj WM ht hs hll hr hC hu hh hcc hcp hb hD ho hsum;unfold XI;have hwo:=Hwo.out;have hwu:=Hwu.out;have hwm:wrap64 ((J.ay:Int)*(h:Int))=(mm:Int):=by
  rw[hmz];exact wrap_small Js
 clear Hwo Hwu;have hwz:IntKind.i64.wrap (IntKind.i64.wrap ((J.ay:Int)*(h:Int))+(J.used:Int))=(o:Int):=by
  have e:∀ x:Int,IntKind.i64.wrap x=wrap64 x:=fun x=>by rw[IntKind.wrap_i64,wrap64]
  rw[e,e,hwm,hwo]
 clear hmz Js;go_enter Tryz.func50,Tryz.ntmps50;go_wp2_with (first | (go_at_call 39;refine HC.out.mono ?_;rintro e w1 ⟨rfl,rfl⟩) | (go_at_call 47;refine HR.out.mono ?_;rintro e w2 ⟨rfl,hB⟩));obtain⟨b0,b1,b2,b3,b4,b5,b6,b7⟩:=(HJ.out.below hB).cells
 go_region_held3 (fun w'=>w'.cell? ⟨jb,2,none⟩=some (.int .i64 J.ay)/\w'.cell? ⟨jb,1,none⟩=some (.int .i64 h)/\w'.cell? ⟨jb,3,none⟩=some (.int .i64 J.used)) (go_keep)
  (first | (go_at_call 88;refine(HP.out _ hB.drew).mono ?_;rintro e w3 ⟨rfl,hd3,hj3,hF3⟩;have e1:=hj3.cell 1;have e2:=hj3.cell 2;have e3:=hj3.cell 3;have e6:=hj3.cell 6))
 have f6:=hj3.frozen 6;have e6b:w3.cell? ⟨jb,6,none⟩=some (.bool false):=e6.trans (by show(some (Value.bool J.dL))=_;rw[Hs.out]);clear e6;have HB2:=zh hB;clear b0 b1 b2 b3 b4 b5 b6 b7 c0 c1 c2 c3 c4 c5 c6 c7 HP HR HC hB;have hfin:Hid (aO (w3.setCell ⟨jb,6,none⟩ (.bool false)) a E/\cZ w (w3.setCell ⟨jb,6,none⟩ (.bool false)) a jb):=
  ⟨eP hd3 hj3 (by decide) (au _ _ _ _),(cZ.bD HB2.out.drew).trans (hF3.set 6 _)⟩
 clear hd3 hj3 hF3;go_wp2_with fail;go_ret2;exact⟨rfl,hfin.out.1,hfin.out.2⟩
end
end Go.Proofs.YtpghocekofdpbaaGreatDoor
