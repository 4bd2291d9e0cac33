import Derived.Test.YtpghocekofdpbaaGreatDoorQr17
import Derived.Test.YtpghocekofdpbaaGreatDoorQr19
set_option maxRecDepth 100000
set_option maxHeartbeats 4000000
namespace Go.Proofs.YtpghocekofdpbaaGreatDoor
open Go.RowKit Go.Shelf
attribute [local go_sem] Oper.semAt_some
section
variable {d b g sb sc fb fc:Nat} {D:Dev}
theorem eP {W W':World} {k:Nat} {t:TypeId} {cs:Array Value} (h:aS W d b g sb sc fb fc D) (hk:ak W k t cs) (ht:t≠89/\t≠139/\t≠9/\t≠4/\t≠137) (hg:W.grownBy W' (some k)):aS W' d b g sb sc fb fc D:=by
 obtain⟨cap,cur,m1,m2,_⟩:=h.mem.body;obtain⟨t1,t2,t3,t4,t5⟩:=ht;refine⟨h.blk.grown hg (fun e=>hk.gY h.blk t1 (by cases e;rfl)),h.mem.grown hg (fun e=>hk.gY m1 t5 (by cases e;rfl)) (fun e=>hk.gY m2 t2 (by cases e;rfl)),?_,?_⟩
 ·exact h.lC.kept hg (.inr (aA h.lC hk (Ne.symm t3)))
 ·exact h.o7.kept hg (.inr (aA h.o7 hk (Ne.symm t4)))
end
def dQ (l:List (Nat×ByteArray)):List Value:=l.flatMap fun e=> [.int .i64 (e.1:Int),.string e.2]
structure nU (w:World) (jb:Nat) (a:nP) (h:Nat) (J:qm) (v:Value):Prop where
 blk:ak w jb 126 #[.pointer (some ⟨a.d,0,none⟩),.int .i64 h,.int .i64 J.ay,.int .i64 J.used,.int .i64 J.next,v,.bool J.dL,.bool false]
 row:w.ownsRow 0 134 2 v J.l.length (dQ J.l)
structure cZ (w w':World) (a:nP) (jb:Nat):Prop where
 os:w'.os=w.os
 tape:w'.tape=w.tape
 output:w'.output=w.output
 size:w.heap.size<=w'.heap.size
 rest:∀ k,k<w.heap.size->k≠a.d->k≠a.g->k≠a.sb->k≠a.fb->k≠jb->w'.heap[k]? =w.heap[k]?
section
variable {w w' w2:World} {a:nP} {D:Dev} {jb h:Nat} {J:qm} {v:Value}
theorem cZ.refl (w:World):cZ w w a jb:=⟨rfl,rfl,rfl,aF _,fun _ _ _ _ _ _ _=>rfl⟩
theorem cZ.trans (h:cZ w w' a jb) (k:cZ w' w2 a jb):cZ w w2 a jb:=
 ⟨k.os.trans h.os,k.tape.trans h.tape,k.output.trans h.output,fU h.size k.size,fun j hj h1 h2 h3 h4 h5=>(k.rest j (rY hj h.size) h1 h2 h3 h4 h5).trans (h.rest j hj h1 h2 h3 h4 h5)⟩
theorem cZ.OX (h:dJ w w' a):cZ w w' a jb:=⟨h.os,h.tape,h.output,h.size,fun k hk h1 h2 h3 h4 _=>h.rest k hk h1 h2 h3 h4⟩
theorem cZ.bD (h:Below w.heap.size w w'):cZ w w' a jb:=cZ.OX (dJ.bD h)
theorem cZ.set (h:cZ w w' a jb) (i:Nat) (u:Value):cZ w (w'.setCell ⟨jb,i,none⟩ u) a jb:=
 ⟨h.os,h.tape,h.output,by have:=h.size;simpa [World.setCell] using this,fun j hj h1 h2 h3 h4 h5=>(Below.heap_setCell w' ⟨jb,i,none⟩ u j (fun e=>h5 e)).trans (h.rest j hj h1 h2 h3 h4 h5)⟩
theorem nU.left (k:nU w jb a h J v) (hd:aO w a D) (hF:dJ w w' a):nU w' jb a h J v:=
 ⟨hF.box hd k.blk (by decide),gI k.row (fun j cs hk hb=>hF.blk hd hb (fun e=>by cases e) (fun e=>by cases e) (fun e=>by cases e) (fun e=>by cases e))⟩
theorem nU.below (k:nU w jb a h J v) (hB:Below w.heap.size w w'):nU w' jb a h J v:=⟨k.blk.below hB k.blk.lt,ownsRow_below k.row hB (aF _)⟩
theorem nU.lt (k:nU w jb a h J v):jb<w.heap.size:=k.blk.lt
theorem nU.WE (k:nU w jb a h J v) (m:Nat):nU (w.setCell ⟨jb,4,none⟩ (.int .i64 m)) jb a h { J with next:=m } v:=
 ⟨k.blk.aB 4 _,k.row.kept (au _ _ _ _) (.inr (aA k.row k.blk (by decide)))⟩
theorem nU.dev (k:nU w jb a h J v) (hd:aO w a D) (i:Nat) (u:Value):aO (w.setCell ⟨jb,i,none⟩ u) a D:=
 eP hd k.blk (by decide) (au _ _ _ _)
end
section
variable {w w':World} {a:nP} {D:Dev} {l:List ByteArray} {v:Value}
end
section
open Sec (aj bn PU)
theorem GN (N:Nat) (t:ByteArray) (hN:1<=N/\N<=bn) (ht:t.size<=8000):PU (N:Int) t=(aQ N t,0):=by
 unfold PU;have:bn=4611686018427387904:=rfl;rw[if_neg (by omega),if_neg (by omega)];rfl
section
variable {w w':World} {a:nP} {D:Dev} {jb h:Nat} {J:qm} {v:Value}
theorem OW.afg {u:Value} {l:List ByteArray} (hT:Sec.o8 w w' u l) (h:aO w a D):OW w' u l a:=by
 refine⟨⟨hT.1.1,?_⟩,fun k e=>?_⟩
 ·rcases hT.1.2 with h2 | ⟨g,cap,cur,hv,hg,r⟩
  ·exact .inl h2
  ·exact .inr ⟨g,cap,cur,hv,iT _,r⟩
 ·obtain⟨_,q3⟩:=h.Bl;have l3:=q3.lt;have:=(hT.1.lt k e).1;omega
structure FM (w:World) (a:nP) (D:Dev) (jb h:Nat) (J:qm) (v:Value) (jx ax o:Nat):Prop where
 dev:aO w a D
 j:nU w jb a h J v
 bx:ak w jx 76 #[.pointer (some ⟨jb,0,none⟩)]
 ba:ak w ax 3 #[.int .i64 o]
theorem FM.below {jx ax o:Nat} (k:FM w a D jb h J v jx ax o) (hB:Below w.heap.size w w'):FM w' a D jb h J v jx ax o:=⟨k.dev.below hB,k.j.below hB,k.bx.below hB k.bx.lt,k.ba.below hB k.ba.lt⟩
theorem FM.left {jx ax o:Nat} {E:Dev} (k:FM w a D jb h J v jx ax o) (hF:dJ w w' a) (hE:aO w' a E):FM w' a E jb h J v jx ax o:=⟨hE,k.j.left k.dev hF,hF.box k.dev k.bx (by decide),hF.box k.dev k.ba (by decide)⟩
theorem FM.cells {jx ax o:Nat} (k:FM w a D jb h J v jx ax o):w.cell? ⟨jx,0,none⟩=some (.pointer (some ⟨jb,0,none⟩))/\w.cell? ⟨jb,0,none⟩=some (.pointer (some ⟨a.d,0,none⟩))/\w.cell? ⟨ax,0,none⟩=some (.int .i64 o):=⟨k.bx.cell 0,k.j.blk.cell 0,k.ba.cell 0⟩
end
end
section
open Sec (aj bn nV)
section
variable {w w':World} {a:nP} {D:Dev} {jb h:Nat} {J:qm} {v:Value}
theorem nU.cells (k:nU w jb a h J v):w.cell? ⟨jb,0,none⟩=some (.pointer (some ⟨a.d,0,none⟩))/\w.cell? ⟨jb,1,none⟩=some (.int .i64 h)/\w.cell? ⟨jb,2,none⟩=some (.int .i64 J.ay)/\w.cell? ⟨jb,3,none⟩=some (.int .i64 J.used)/\w.cell? ⟨jb,4,none⟩=some (.int .i64 J.next)/\w.cell? ⟨jb,5,none⟩=some v/\w.cell? ⟨jb,6,none⟩=some (.bool J.dL)/\w.cell? ⟨jb,7,none⟩=some (.bool false):=
 ⟨k.blk.cell 0,k.blk.cell 1,k.blk.cell 2,k.blk.cell 3,k.blk.cell 4,k.blk.cell 5,k.blk.cell 6,k.blk.cell 7⟩
theorem yU (k:nU w jb a h J v) (hu:J.used<=h) (hh:h<=1048576):Calls Tryz.prog 47 #[.pointer (some ⟨jb,0,none⟩)] w fun e w'=>e= .returned (.int .i64 ((h-J.used:Nat):Int))/\Below w.heap.size w w':=by
 obtain⟨c0,c1,c2,c3,c4,c5,c6,c7⟩:=k.cells;obtain⟨r,hr⟩:∃ r,h-J.used=r:=⟨_,rfl⟩;have hw:wrap64 ((h:Int)-(J.used:Int))=(r:Int):=by unfold wrap64;omega
 rw[hr];clear k hr hu hh;go_enter Tryz.func47,Tryz.ntmps47;go_wp2_with fail
 go_quiet (fail)
 go_wp2_with fail;go_ret;exact⟨by show Ending.returned (.int .i64 (wrap64 ((h:Int)-(J.used:Int))))=_;rw[hw],below_drewN (bK _ _) _⟩
theorem KY (k:nU w jb a h J v):Calls Tryz.prog 86 #[.pointer (some ⟨jb,0,none⟩)] w fun e w'=>e= .returned (.int .i64 (J.next:Int))/\w=w':=by
 obtain⟨c0,c1,c2,c3,c4,c5,c6,c7⟩:=k.cells;clear k;go_enter Tryz.func86,Tryz.ntmps86;go_wp2_with fail;go_ret;exact⟨rfl,rfl⟩
theorem Yk (w:World) (g n c:Nat) (hn:n<=c):Calls Tryz.prog 89 #[.slice (some ⟨g,0,none⟩) n c] w fun e w'=>e= .returned (.slice (some ⟨g,0,none⟩) n n)/\w=w':=by
 go_enter Tryz.func89,Tryz.ntmps89;go_wp2_with fail;go_ret;exact⟨rfl,rfl⟩
theorem aaO (w:World):Calls Tryz.prog 89 #[.slice none 0 0] w fun e w'=>e= .returned (.slice none 0 0)/\w=w':=by
 go_enter Tryz.func89,Tryz.ntmps89;go_wp2_with fail;go_ret;exact⟨rfl,rfl⟩
theorem ng (t:ByteArray) (ht:t.size<=8000):nV (t.size:Int)=(aj t.size:Nat):=by
 unfold nV;rw[if_pos ⟨by omega,by omega⟩,Int.toNat_natCast]
theorem WC:(Tryz.prog.info? 134).map (fun i=>(i.zero,i.size,i.bytes))=some (some (.agg #[.int .i64 0,.string ⟨#[]⟩]),2,24):=by kernel_rfl
end
end
section
open Sec (aj bn nV)
section
variable {w w':World} {a:nP} {D:Dev} {jb h:Nat} {J:qm} {v:Value}
def WG (w:World) (a:nP) (D:Dev) (jb h:Nat) (R:(Int×Int)×qm×List Sec) (e:Ending) (w':World):Prop:=
 ∃ v',e= .returned (.tuple #[.int .i64 R.1.1,.int .i64 R.1.2])/\aO w' a { D with M:=R.2.2 }/\nU w' jb a h R.2.1 v'/\cZ w w' a jb
theorem PV (hd:aO w a D) (hj:nU w jb a h J v) (t:ByteArray) (hN:J.next<=bn) (ht:t.size<=8000) (hs:J.dL=false) (hu:J.used<=h) (hh:h<=1048576) (hf:h<J.used+aj t.size):
  Calls Tryz.prog 50 #[.pointer (some ⟨jb,0,none⟩),.string t] w (WG w a D jb h ((0,15),J,D.M)):=by
 have hcc:=Sec.count_any (t.size:Int) w;rw[ng t ht] at hcc;obtain⟨C,hC⟩:∃ C,aj t.size=C:=⟨_,rfl⟩;rw[hC] at hcc hf;have HC:=zh hcc;have HR:=zh (yU hj hu hh);obtain⟨r,hr⟩:∃ r,h-J.used=r:=⟨_,rfl⟩;rw[hr] at HR;have d3:decide (r<C)=true:=pW (by omega);have d3':decide ((r:Int)<(C:Int))=true:=pW (by omega);obtain⟨c0,c1,c2,c3,c4,c5,c6,c7⟩:=hj.cells;rw[hs] at c6;have hm:bn=4611686018427387904:=rfl;have d1:decide (8000<(t.size:Int))=false:=dF (by omega);have d2:decide (4611686018427387904<(J.next:Int))=false:=dF (by omega);have H:=zh hd;have HJ:=zh hj;clear hd hj hN ht hs hm hf hr hC hu hh hcc;unfold WG;go_enter Tryz.func50,Tryz.ntmps50;go_wp2_with (first | (go_at_call 39;refine HC.out.mono ?_;rintro e w1 ⟨rfl,rfl⟩) | (go_at_call 47;refine HR.out.mono ?_;rintro e w2 ⟨rfl,hB⟩));go_ret2;exact⟨v,rfl,H.out.below hB,HJ.out.below hB,cZ.bD hB⟩
end
end
section
open Sec (aj bn nV)
theorem lF {w:World} {B base:Nat} {e:TypeId} {size n:Nat} {v:Value} {xs:List Value} (h:w.ownsRow B e size v n xs) (hle:base<=B):w.ownsRow base e size v n xs:=by
 refine⟨h.1,?_⟩;rcases h.2 with h2 | ⟨g,cap,cur,hv,hg,r⟩
 ·exact .inl h2
 ·exact .inr ⟨g,cap,cur,hv,fU hle hg,r⟩
theorem JR (l:List (Nat×ByteArray)) (n:Nat) (t:ByteArray):dQ (l++ [(n,t)])=dQ l++ [.int .i64 (n:Int),.string t]:=by
 simp[dQ]
theorem BF (l:List (Nat×ByteArray)):(dQ l).length=l.length*2:=by
 induction l with
 | nil=>rfl
 | cons x r ih=>
  show(_::_::dQ r).length=_
  simp[ih];omega
theorem wrap_small {m:Nat} (h:m<=1048576):wrap64 (m:Int)=(m:Int):=by
 unfold wrap64;omega
theorem xH {x y:Nat} (h:x+y<=1048576):wrap64 ((x:Int)+(y:Int))=((x+y:Nat):Int):=by
 unfold wrap64;omega
section
variable {w w':World} {a:nP} {D:Dev} {jb h:Nat} {J:qm} {v:Value}
theorem nU.more {w2:World} {v2:Value} {n C:Nat} {t:ByteArray} (k:nU w jb a h J v) (hg:w.grownBy w2 none) (hr:w2.ownsRow w.heap.size 134 2 v2 (J.l.length+1) (dQ J.l++ [.int .i64 (n:Int),.string t])):
  nU ((w2.setCell ⟨jb,5,none⟩ v2).setCell ⟨jb,3,none⟩ (.int .i64 ((J.used+C:Nat):Int))) jb a h { J with l:=J.l++ [(n,t)],used:=J.used+C } v2:=by
 have hb:=k.blk.grown hg (by simp);have hb5:=hb.aB 5 v2;refine⟨hb5.aB 3 _,?_⟩;have h1:=hr.kept (au w2 jb 5 v2) (.inr (aA hr hb (by decide)));have h2:=h1.kept (au _ jb 3 (.int .i64 ((J.used+C:Nat):Int))) (.inr (aA h1 hb5 (by decide)));have h3:=lF h2 (iT _);rw[<-JR] at h3;have e:(J.l++ [(n,t)]).length=J.l.length+1:=by simp
 show World.ownsRow _ 0 134 2 v2 (J.l++ [(n,t)]).length _
 rw[e];exact h3
theorem PW (hd:aO w a D) (hg:w.grownBy w' none):aO w' a D:=by
 obtain⟨_,q1⟩:=hd.aiQ;exact⟨hd.blk.grown hg (by simp),hd.mem.grown hg (by simp) (by simp),hd.lC.kept hg (.inr (by simp[Value.ownBlock])),hd.o7.kept hg (.inr (by simp[Value.ownBlock]))⟩
end
end
section
open Sec (aj bn nV)
section
variable {w w':World} {a:nP} {D:Dev} {jb h:Nat} {J:qm} {v:Value}
theorem Ny (hd:aO w a D) (hj:nU w jb a h J v) (t:ByteArray) (hN:J.next<=bn) (ht:t.size<=8000) (hf:h<aj t.size):
  Calls Tryz.prog 94 #[.pointer (some ⟨jb,0,none⟩),.string t] w (WG w a D jb h ((0,15),J,D.M)):=by
 have hcc:=Sec.count_any (t.size:Int) w;rw[ng t ht] at hcc;obtain⟨C,hC⟩:∃ C,aj t.size=C:=⟨_,rfl⟩;rw[hC] at hcc hf;have HC:=zh hcc;have d3:decide (h<C)=true:=pW hf;have d3':decide ((h:Int)<(C:Int))=true:=pW (by omega);obtain⟨c0,c1,c2,c3,c4,c5,c6,c7⟩:=hj.cells;have hm:bn=4611686018427387904:=rfl;have d1:decide (8000<(t.size:Int))=false:=dF (by omega);have d2:decide (4611686018427387904<(J.next:Int))=false:=dF (by omega);have H:=zh hd;have HJ:=zh hj;clear hd hj hN ht hm hf hC hcc;unfold WG;go_enter Tryz.func94,Tryz.ntmps94;go_wp2_with (first | (go_at_call 39;refine HC.out.mono ?_;rintro e w1 ⟨rfl,rfl⟩));go_ret2;exact⟨v,rfl,H.out,HJ.out,cZ.refl _⟩
theorem nU.fresh {b C n:Nat} {t:ByteArray} (k:nU w jb a h J v):
  nU (((((w.alloc (.cells #[.int .i64 (n:Int),.string t] 134)).setCell ⟨jb,2,none⟩ (.int .i64 (b:Int))).setCell ⟨jb,3,none⟩ (.int .i64 (C:Int))).setCell ⟨jb,5,none⟩ (.slice (some ⟨w.heap.size,0,none⟩) 1 1)).setCell ⟨jb,6,none⟩ (.bool false)) jb a h ⟨b,C,J.next,[(n,t)],false⟩ (.slice (some ⟨w.heap.size,0,none⟩) 1 1):=by
 have hb:=k.blk.alloc (.cells #[.int .i64 (n:Int),.string t] 134);have hr:(w.alloc (.cells #[.int .i64 (n:Int),.string t] 134)).ownsRow 0 134 2 (.slice (some ⟨w.heap.size,0,none⟩) 1 1) 1 [.int .i64 (n:Int),.string t]:=
  ⟨rfl,.inr ⟨w.heap.size,1,#[.int .i64 (n:Int),.string t],rfl,iT _,ak.new w _ _,aF _,by unfold maxLen;omega,rfl,rfl⟩⟩
 have b2:=hb.aB 2 (.int .i64 (b:Int));have b3:=b2.aB 3 (.int .i64 (C:Int));have b5:=b3.aB 5 (.slice (some ⟨w.heap.size,0,none⟩) 1 1);have r2:=hr.kept (au _ jb 2 (.int .i64 (b:Int))) (.inr (aA hr hb (by decide)));have r3:=r2.kept (au _ jb 3 (.int .i64 (C:Int))) (.inr (aA r2 b2 (by decide)));have r5:=r3.kept (au _ jb 5 (.slice (some ⟨w.heap.size,0,none⟩) 1 1)) (.inr (aA r3 b3 (by decide)));have r6:=r5.kept (au _ jb 6 (.bool false)) (.inr (aA r5 b5 (by decide)));exact⟨b5.aB 6 _,r6⟩
end
end
open Sec (bQ GH yS)
theorem agi (G b:Nat) (hb:b<256) (hG:G<72057594037927936):bits .or .u64 ((G:Int)*256) (IntKind.u64.wrap (b:Int))=((b+256*G:Nat):Int):=by
 rw[yS b (by omega),show(G:Int)*256=((G*256:Nat):Int) by simp,u64_or_nat _ _ (by omega) (by omega)]
 congr 1
 have h:=Nat.two_pow_add_eq_or_of_lt (i:=8) (b:=b) (by omega) G;have e:2^8*G=G*256:=by omega
 rw[e] at h;omega
theorem Yi (l:List UInt8) (k:Nat) (hk:k<l.length):bQ (l.drop k)=l[k].toNat+256*bQ (l.drop (k+1)):=by
 rw[List.drop_eq_getElem_cons hk];rfl
theorem PN (w:World) (s:ByteArray) (hs:s.size<=8):
  Calls Tryz.prog 105 #[.string s] w fun e w'=>e= .returned (.int .u64 (bQ s.data.toList:Nat))/\w=w':=by
 have hlen:s.data.toList.length=s.size:=Di ..;have hw0:wrap64 ((s.size:Int)-1)=(s.size:Int)-1:=by unfold wrap64;omega
 go_enter Tryz.func105,Tryz.ntmps105;go_wp2_with fail;go_loopw [3,4] (fun g i wr=>∃ k:Nat,k<=s.size/\i= .int .i64 ((k:Int)-1)/\g= .int .u64 (bQ (s.data.toList.drop k):Nat)/\wr=w) (fun _ i _=>(intOf i+1).toNat)
 case atStart=>exact⟨s.size,aF _,by trivial,by rw[List.drop_of_length_le (by omega)];rfl,rfl⟩
 case round=>
  obtain⟨k,hk,rfl,rfl,rfl⟩:=hrel;cases k with
  | zero=>
   go_wp2_with fail;go_ret;exact⟨rfl,rfl⟩
  | succ k=>
   have hkl:k<s.size:=by omega
   have hkz:((k+1:Nat):Int)-1=(k:Int):=by omega
   have hwk:wrap64 ((k:Int)-1)=(k:Int)-1:=by unfold wrap64;omega
   have hd:=Yi s.data.toList k (by omega);have hb:s.data.toList[k].toNat<256:=UInt8.toNat_lt _;have hG:=GH (s.data.toList.drop (k+1));have hGl:(s.data.toList.drop (k+1)).length<=7:=by rw[rX];omega
   have hG2:bQ (s.data.toList.drop (k+1))<72057594037927936:=rY hG (by
    have:=Nat.pow_le_pow_right (n:=256) (by decide) hGl;exact this)
   have e:s.data.toList[k]=s[k]:=rfl;rw[e] at hd hb;generalize bQ (s.data.toList.drop (k+1))=G at hd hG2 ⊢;have ho:=agi G s[k].toNat hb hG2;have Hd:=zh hd;rw[hkz];clear hd hG hGl hb;go_wp2_with fail;go_roundw
   case rel=>exact⟨k,by omega,by go_num,by rw[Hd.out];simp,by trivial⟩
   case measure=>simp[intOf]
end Go.Proofs.YtpghocekofdpbaaGreatDoor
