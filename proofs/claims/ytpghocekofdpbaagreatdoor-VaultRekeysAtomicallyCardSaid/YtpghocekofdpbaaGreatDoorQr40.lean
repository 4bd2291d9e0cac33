import Derived.Test.YtpghocekofdpbaaGreatDoorQr38
import Derived.Test.YtpghocekofdpbaaGreatDoorQr22
set_option maxRecDepth 100000
set_option maxHeartbeats 4000000
namespace Go.Proofs.YtpghocekofdpbaaGreatDoor
open Go.RowKit Go.Shelf
open Sec (bn bQ)
attribute [local go_sem] Oper.semAt_some
theorem L8:∀ (l r:dh) (m:Nat),iQ (l++r) m=iQ r (iQ l m)
 | [],_,_=>rfl
 | _::l,r,_=>L8 l r _
def lG (M:List Sec):List ByteArray:=M.map Sec.now
theorem Y5 (M:List Sec) (n:Nat):rowsOf ((lG M).take n)=(aP M).take n:=by
 unfold rowsOf lG aP;rw[List.map_take,List.map_map];rfl
theorem zu (M:List Sec) (h b:Nat) (hb:b<=1):rowsOf ((((lG M).take (2*h)).drop (b*h)).take h)=aC (aP M) (b*h) h 0:=by
 have e:rowsOf ((((lG M).take (2*h)).drop (b*h)).take h)=(((aP M).take (2*h)).drop (b*h)).take h:=by
  rw[<-Y5];unfold rowsOf;rw[<-List.map_drop,<-List.map_take]
 rw[e];unfold aC;rw[List.drop_zero,List.drop_take,List.take_take];have:b*h<=h:=by have:=Nat.mul_le_mul_right h hb;omega
 rw[Gm (by omega)]
theorem EY {W:World} {base n c:Nat} {A:Option Addr} {l:List ByteArray} (h:W.ownsRow base 9 1 (.slice A n c) n (strCells l)) (hn:0<n):∃ g,A=some ⟨g,0,none⟩/\base<=g/\lN W g 0 c l/\l.length=n:=by
 have hl:=h.1;rw[vT,Nat.mul_one] at hl;obtain⟨-,⟨e,h0⟩ | ⟨g,cap,cur,e,h1,h2,h3,h4,-,-⟩⟩:=id h
 ·omega
 ·cases e;refine⟨g,rfl,h1,⟨(Array.getElem?_eq_some_iff.1 h2).1,by omega,h4,fun i t ht=>?_⟩,hl⟩;have hi:i<n:=by have:=(List.getElem?_eq_some_iff.1 ht).1;omega
  rw[AZ,h.cellAt i (by omega)];unfold strCells;rw[sD,ht];rfl
theorem row_zero {W:World} {base n sz:Nat} {e:TypeId} {v:Value} {xs:List Value} (h:W.ownsRow base e sz v n xs):W.ownsRow 0 e sz v n xs:=
 ⟨h.1,h.2.imp id fun⟨g,cap,cur,a,_,b⟩=>⟨g,cap,cur,a,iT _,b⟩⟩
structure JO (w wr:World) (a:nP) (h nn k:Nat) (u:Value) (T:List ByteArray):Prop where
 j:ak wr w.heap.size 126 #[.pointer (some ⟨a.d,0,none⟩),.int .i64 (h:Int),.int .i64 0,.int .i64 0,.int .i64 (nn:Int),.slice none 0 0,.bool false,.bool false]
 c:ak wr (w.heap.size+1) 76 #[.pointer (some ⟨w.heap.size,0,none⟩)]
 l:ak wr (w.heap.size+1+1) 35 #[u]
 o:wr.ownsRow w.heap.size 9 1 u k (strCells T)
 b:Below w.heap.size w wr
section
variable {w wr:World} {a:nP} {h nn k:Nat} {u:Value} {T:List ByteArray}
theorem JO.drew (p:JO w wr a h nn k u T):JO w wr.drew a h nn k u T:=⟨p.j.drew,p.c.drew,p.l.drew,p.o.drew,p.b.drew⟩
theorem JO.alloc (p:JO w wr a h nn k u T) (o:Obj):JO w (wr.alloc o) a h nn k u T:=⟨p.j.alloc o,p.c.alloc o,p.l.alloc o,p.o.alloc o,p.b.alloc p.b.size o⟩
theorem JO.WE (p:JO w wr a h nn k u T) (m:Nat):JO w (wr.setCell ⟨w.heap.size,4,none⟩ (.int .i64 (m:Int))) a h m k u T:=by
 have gs:=au wr w.heap.size 4 (.int .i64 (m:Int));exact⟨p.j.aB 4 _,p.c.grown gs (by simp),p.l.grown gs (by simp;omega),p.o.kept gs (.inr (aA p.o p.j (by decide))),p.b.setCell (p:=⟨w.heap.size,4,none⟩) (aF _) _⟩
theorem JO.below {w':World} (p:JO w wr a h nn k u T) (hB:Below wr.heap.size wr w'):JO w w' a h nn k u T:=
 ⟨p.j.below hB p.j.lt,p.c.below hB p.c.lt,p.l.below hB p.l.lt,ownsRow_below p.o hB (aF _),p.b.trans (hB.mono p.b.size)⟩
theorem JO.app {w3:World} {o:Obj} {u':Value} {t:ByteArray} (p:JO w wr a h nn k u T) (hown:w3.ownsRow w.heap.size 9 1 u' (k+1) (strCells T++ [.string t])) (hg:(wr.alloc o).grownBy w3 u.ownBlock):JO w (w3.setCell ⟨w.heap.size+1+1,0,none⟩ u') a h nn (k+1) u' (T++ [t]):=by
 have gA:=(World.grownBy_alloc wr o u.ownBlock).trans hg;have gs:=au w3 (w.heap.size+1+1) 0 u';have l3:=p.l.grown gA (aA p.o p.l (by decide)).symm;refine⟨(p.j.grown gA (aA p.o p.j (by decide)).symm).grown gs (by simp;omega),(p.c.grown gA (aA p.o p.c (by decide)).symm).grown gs (by simp),l3.aB 0 u',?_,(p.b.grown gA p.b.size (fun g e=>(p.o.lt g e).1)).setCell (p:=⟨w.heap.size+1+1,0,none⟩) (by show _<=w.heap.size+1+1;omega) _⟩;rw[jE];exact hown.kept gs (.inr (aA hown l3 (by decide)))
end
section
variable {w:World} {a:nP} {D:Dev}
theorem IW (hd:aO w a D) (hup:nM D) (hf:Fine D.M) (hc:Clean D.M) (h:Nat) (hh:D.M.length/2=h) (h1:1<=h) (hD:D.M.length<=4096):
  Calls Tryz.prog 65 #[.pointer (some ⟨a.d,0,none⟩)] w fun e w'=>∃ jb v,w.heap.size<=jb/\e= .returned (.tuple #[.pointer (some ⟨jb,0,none⟩),.int .i64 0])/\nU w' jb a h (bT h D.M) v/\Below w.heap.size w w':=by
 obtain⟨i0,hi,hz0,hz1,hz2⟩:=info_parts iw;have hs0:(w.alloc (.cells #[.pointer (some ⟨a.d,0,none⟩),.int .i64 (h:Int),.int .i64 0,.int .i64 0,.int .i64 1,.slice none 0 0,.bool false,.bool false] 126)).heap.size=w.heap.size+1:=by simp
 obtain⟨N,hN⟩:∃ N,D.M.length=N:=⟨_,rfl⟩;have HS:=zh (Et hd);rw[hN] at HS hh hD;have hq:Int.tdiv (N:Int) 2=(h:Int):=by
  rw[Int.tdiv_eq_ediv_of_nonneg (by omega)];omega
 have hqw:wrap64 (Int.tdiv (N:Int) 2)=(h:Int):=by rw[hq];exact wrap_small (fU (show h<=8192 by omega) (by decide))
 have h2h:Hid (wrap64 (2*(h:Int))=((2*h:Nat):Int)):=by
  have:=wrap_small (m:=2*h) (fU (show 2*h<=8192 by omega) (by decide));unfold Hid;rw[<-this];rfl
 go_enter Tryz.func65,Tryz.ntmps65;go_wp2_with (first | (go_at_call 103;refine HS.out.mono ?_;rintro e w1 ⟨rfl,rfl⟩));have hJ0:JO w (((w.alloc (.cells #[.pointer (some ⟨a.d,0,none⟩),.int .i64 (h:Int),.int .i64 0,.int .i64 0,.int .i64 1,.slice none 0 0,.bool false,.bool false] 126)).alloc (.cells #[.pointer (some ⟨w.heap.size,0,none⟩)] 76)).alloc (.cells #[.slice none 0 0] 35)) a h 1 0 (.slice none 0 0) []:=by
  have b1:=(bK _ w).alloc (aF _) (.cells #[.pointer (some ⟨a.d,0,none⟩),.int .i64 (h:Int),.int .i64 0,.int .i64 0,.int .i64 1,.slice none 0 0,.bool false,.bool false] 126);have b2:=b1.alloc b1.size (.cells #[.pointer (some ⟨w.heap.size,0,none⟩)] 76);have b3:=b2.alloc b2.size (.cells #[.slice none 0 0] 35);refine⟨((ak.new w _ _).alloc _).alloc _,?_,?_,Ju _ _ _ _,b3⟩
  ·have:=(ak.new (w.alloc (.cells #[.pointer (some ⟨a.d,0,none⟩),.int .i64 (h:Int),.int .i64 0,.int .i64 0,.int .i64 1,.slice none 0 0,.bool false,.bool false] 126)) 76 #[.pointer (some ⟨w.heap.size,0,none⟩)]).alloc (.cells #[.slice none 0 0] 35);rw[oz] at this;exact this
  ·have:=ak.new ((w.alloc (.cells #[.pointer (some ⟨a.d,0,none⟩),.int .i64 (h:Int),.int .i64 0,.int .i64 0,.int .i64 1,.slice none 0 0,.bool false,.bool false] 126)).alloc (.cells #[.pointer (some ⟨w.heap.size,0,none⟩)] 76)) 35 #[.slice none 0 0];rw[oz,oz] at this;exact this
 generalize (((w.alloc (.cells #[.pointer (some ⟨a.d,0,none⟩),.int .i64 (h:Int),.int .i64 0,.int .i64 0,.int .i64 1,.slice none 0 0,.bool false,.bool false] 126)).alloc (.cells #[.pointer (some ⟨w.heap.size,0,none⟩)] 76)).alloc (.cells #[.slice none 0 0] 35))=w0 at *;clear hs0 hq hqw;have HJ0:=zh hJ0;clear hJ0;have Hf:=zh hf;have Hc:=zh hc;have Hd:=zh hd;have hhN:2*h<=N:=by omega
 clear hf hc hd hh;go_loopw [25] (fun i wr=>∃ (k:Nat) (u:Value),k<=2*h/\i= .int .i64 k/\Hid (JO w wr a h (iQ ((aP D.M).take k) 1) k u ((lG D.M).take k))) (fun i _=>2*h-(intOf i).toNat)
 case atStart=>exact⟨0,_,iT _,rfl,HJ0⟩
 case round=>
  obtain⟨k,u,hk,rfl,hJ⟩:=hrel;by_cases hkl:k<2*h
  ·have hd1:decide ((k:Int)<2*(h:Int))=true:=pW (by omega);obtain⟨x,hx⟩:∃ x,D.M[k]? =some x:=⟨_,jB (by omega)⟩;have hxm:=zI hx;have hR:=Rn (Hd.out.below hJ.out.b) hup k x hx (Hc.out x hxm);have HR:=zh hR;have h64:x.now.size=64:=(Hf.out x hxm).1;generalize ht:x.now=t at *;clear hR;go_wp2_with (first | (go_at_call 104;refine HR.out.mono ?_;rintro e w1 ⟨rfl,rfl⟩))
   go_region
   have hP:Hid (JO w (wr.alloc (.cells #[.string (t.extract 0 8),.string (t.extract 56 64)] 9)).drew a h (iQ ((aP D.M).take k) 1) k u ((lG D.M).take k)):=(hJ.out.alloc _).drew;have hE:Hid (ak (wr.alloc (.cells #[.string (t.extract 0 8),.string (t.extract 56 64)] 9)).drew wr.heap.size 9 #[.string (t.extract 0 8),.string (t.extract 56 64)]):=(ak.new wr _ _).drew;obtain⟨eb,heb⟩:∃ eb,wr.heap.size=eb:=⟨_,rfl⟩;rw[heb] at hE ⊢;have ark:w.heap.size+1+1<eb:=by rw[<-heb];exact hJ.out.l.lt
   have hA8:(t.extract 0 8).size<=8:=by rw[WJ];omega
   have Dw:(t.extract 56 64).size<=8:=by rw[WJ];omega
   have hstep:Hid (iQ ((aP D.M).take (k+1)) 1=nx (nx (iQ ((aP D.M).take k) 1) (bQ (t.extract 0 8).data.toList)) (bQ (t.extract 56 64).data.toList)/\(lG D.M).take (k+1)=(lG D.M).take k++ [t]):=by
    have e1:(aP D.M)[k]? =some t.data.toList:=by rw[pq,hx];simp[ht]
    have e2:(lG D.M)[k]? =some t:=by unfold lG;rw[sD,hx];simp[ht]
    have hl:t.data.toList.length=64:=(Di ..).trans h64;refine⟨?_,?_⟩
    ·rw[FD,e1,L8];show nx (nx _ _) _=_
     rw[Sec.ext_list,Sec.ext_list,hl];simp only[List.drop_zero,Nat.sub_zero];rw[uo (l:=t.data.toList.drop 56) (by simp;omega)]
    ·rw[FD,e2];rfl
   generalize (t.extract 0 8)=tA at *;generalize (t.extract 56 64)=tB at *;generalize (wr.alloc (.cells #[.string tA,.string tB] 9)).drew=wb at hP hE ⊢;generalize hm0:iQ ((aP D.M).take k) 1=m at *;have hkN:Hid (k<=4096):=by unfold Hid;omega
   clear hx hxm HR h64 hJ heb;go_wp2_with fail;go_loopw [46] (fun i wi=>∃ (q:Nat),q<=2/\i= .int .i64 q/\Hid (JO w wi a h (if q=0 then m else if q=1 then nx m (bQ tA.data.toList) else nx (nx m (bQ tA.data.toList)) (bQ tB.data.toList)) k u ((lG D.M).take k))/\Hid (ak wi eb 9 #[.string tA,.string tB])) (fun i _=>2-(intOf i).toNat)
   case atStart=>exact⟨0,iT _,rfl,hP,hE⟩
   case round=>
    rename_i wi _ _ _ _ _ _;obtain⟨q,hq,rfl,hPq,hEq⟩:=hrel;by_cases hq2:q<2
    ·obtain⟨tE,mm,hc,hE8,hPm,hmm⟩:∃ tE mm,wr.cell? ⟨eb,q,none⟩=some (.string tE)/\tE.size<=8/\Hid (JO w wr a h mm k u ((lG D.M).take k))/\Hid ((if q+1=0 then m else if q+1=1 then nx m (bQ tA.data.toList) else nx (nx m (bQ tA.data.toList)) (bQ tB.data.toList))=nx mm (bQ tE.data.toList)):=by
      rcases(by omega:q=0\/q=1) with rfl | rfl
      ·exact⟨tA,m,hEq.out.cell 0,hA8,hPq,rfl⟩
      ·exact⟨tB,_,hEq.out.cell 1,Dw,hPq,rfl⟩
     clear hPq;have hd2:decide ((q:Int)<2)=true:=pW (by omega);have HN:=zh (PN wr tE hE8);generalize bQ tE.data.toList=n at *;by_cases hn:n<=bn
     ·have hd3:decide ((n:Int)<=4611686018427387904)=true:=pW (by unfold Sec.bn at hn;omega);have c1:wr.cell? ⟨w.heap.size+1,0,none⟩=some (.pointer (some ⟨w.heap.size,0,none⟩)):=hPm.out.c.cell 0;have c4:wr.cell? ⟨w.heap.size,4,none⟩=some (.int .i64 (mm:Int)):=hPm.out.j.cell 4;have f4:=hPm.out.j.frozen 4;go_wp2_with (first | (go_at_call 105;refine HN.out.mono ?_;rintro e w1 ⟨rfl,rfl⟩));have hne:Hid (((max (mm:Int) ((n:Int)+1)))=((nx mm n:Nat):Int)):=by
       unfold Hid nx;rw[if_pos hn];omega
      have q1:IntKind.i64.wrap (n:Int)=(n:Int):=IntWalk.i64_in _ (by unfold Sec.bn at hn;omega);have q2:IntKind.i64.wrap ((n:Int)+1)=((n+1:Nat):Int):=IntWalk.i64_in _ (by unfold Sec.bn at hn;omega)
      go_region
      rw[hne.out];have hPx:Hid (JO w (wr.setCell ⟨w.heap.size,4,none⟩ (.int .i64 ((nx mm n:Nat):Int))).drew a h (nx mm n) k u ((lG D.M).take k)):=(hPm.out.WE _).drew;have hEx:Hid (ak (wr.setCell ⟨w.heap.size,4,none⟩ (.int .i64 ((nx mm n:Nat):Int))).drew eb 9 #[.string tA,.string tB]):=(hEq.out.grown (au wr w.heap.size 4 (.int .i64 ((nx mm n:Nat):Int))) (by simp;omega)).drew;clear c1 c4 f4 q1 q2 hc hne;generalize (wr.setCell ⟨w.heap.size,4,none⟩ (.int .i64 ((nx mm n:Nat):Int))).drew=wx at *;go_wp2_with fail;go_roundw
      case rel=>exact⟨q+1,by omega,by go_num,by unfold Hid;rw[hmm.out];exact hPx.out,hEx⟩
      case measure=>simp[intOf];omega
     ·have hd3:decide ((n:Int)<=4611686018427387904)=false:=dF (by unfold Sec.bn at hn;omega);go_wp2_with (first | (go_at_call 105;refine HN.out.mono ?_;rintro e w1 ⟨rfl,rfl⟩));go_roundw
      case rel=>exact⟨q+1,by omega,by go_num,by unfold Hid;rw[hmm.out];unfold nx;rw[if_neg hn];exact hPm.out,hEq⟩
      case measure=>simp[intOf];omega
    ·obtain rfl:q=2:=by omega
     have hd2:decide (((2:Nat):Int)<2)=false:=by decide
     have HP2:Hid (JO w wr a h (iQ ((aP D.M).take (k+1)) 1) k u ((lG D.M).take k)):=by
      unfold Hid;rw[hstep.out.1];exact hPq.out
     clear hPq hP;have cu:wr.cell? ⟨w.heap.size+1+1,0,none⟩=some u:=HP2.out.l.cell 0;have h4k:Hid (k+1<=maxLen/\k+1<=8192/\2*h-(k+1)<2*h-k):=by unfold Hid maxLen;omega
     have hc2:Hid (w.heap.size+1+1<wr.heap.size):=HP2.out.l.lt;have abA:Hid (w.heap.size<=wr.heap.size):=HP2.out.b.size;go_wp2_with (at_builtin;refine wpList_append_own _ rfl _ _ 35 rfl w.heap.size 9 i0 _ 1 16 Tryz.underlying35 hi hz0 hz1 hz2 rfl (by decide) _ k (strCells ((lG D.M).take k)) rfl (HP2.out.o.alloc _) ⟨wr.heap.size,0,none⟩ 1 1 [.string t] rfl rfl ?c1 ?c2 ?c3 ?c4 ?c5 ?_)
     case c1=>exact gG (ak.new wr 9 #[.string t])
     case c2=>simp[Value.oneCell']
     case c3=>exact h4k.out.1
     case c4=>have:=h4k.out.2.1;omega
     case c5=>have:=abA.out;simp;omega
     intro v' w3 hown3 hg3 _;obtain⟨A3,q3,rfl⟩:=Sec.aJ hown3;have HP3:Hid (JO w (w3.setCell ⟨w.heap.size+1+1,0,none⟩ (.slice A3 (k+1) q3)) a h (iQ ((aP D.M).take (k+1)) 1) (k+1) (.slice A3 (k+1) q3) ((lG D.M).take (k+1))):=by
      unfold Hid;rw[hstep.out.2];exact HP2.out.app hown3 hg3
     have f3:w3.frozen? ⟨w.heap.size+1+1,0,none⟩=false:=by
      have gA:=(World.grownBy_alloc wr (.cells #[.string t] 9) u.ownBlock).trans hg3;exact(HP2.out.l.grown gA (aA HP2.out.o HP2.out.l (by decide)).symm).frozen 0
     have c3:w3.cell? ⟨w.heap.size+1+1,0,none⟩=some u:=by
      have gA:=(World.grownBy_alloc wr (.cells #[.string t] 9) u.ownBlock).trans hg3;exact(HP2.out.l.grown gA (aA HP2.out.o HP2.out.l (by decide)).symm).cell 0
     have hw1:Hid (wrap64 ((k:Int)+1)=((k+1:Nat):Int)):=wrap_small (fU h4k.out.2.1 (by decide));clear hown3 hg3 cu HP2;go_wp2_with fail;go_roundw
     case rel=>exact⟨k+1,_,hkl,by go_num,HP3⟩
     case measure=>exact h4k.out.2.2
  ·obtain rfl:k=2*h:=by omega
   have hd1:decide (((2*h:Nat):Int)<2*(h:Int))=false:=dF (by omega);have c1:wr.cell? ⟨w.heap.size+1,0,none⟩=some (.pointer (some ⟨w.heap.size,0,none⟩)):=hJ.out.c.cell 0;have c2:wr.cell? ⟨w.heap.size,1,none⟩=some (.int .i64 (h:Int)):=hJ.out.j.cell 1;have hz:((h:Int)==0)=false:=lM (by omega);obtain⟨A,cp,rfl⟩:=Sec.aJ hJ.out.o;obtain⟨g,rfl,hgw,hrow,hlen⟩:=EY hJ.out.o (by omega);have hsz:=hJ.out.b.size;have hjlt:=hJ.out.j.lt;have QL:=zh hrow;have Hlen:=zh hlen;have zY:Hid (iQ ((aP D.M).take (2*h)) 1=(bT h D.M).next):=rfl;have Hb1:Hid (rowsOf ((((lG D.M).take (2*h)).drop (1*h)).take h)=aC (aP D.M) (1*h) h 0):=zu D.M h 1 (aF _);have Hb0:Hid (rowsOf ((((lG D.M).take (2*h)).drop (0*h)).take h)=aC (aP D.M) (0*h) h 0):=zu D.M h 0 (by omega);clear hrow hlen HJ0 Hf Hc Hd HS hup;generalize (lG D.M).take (2*h)=L at *;generalize iQ ((aP D.M).take (2*h)) 1=nn at *;have HF1:Hid (Calls Tryz.prog 106 #[.int .i64 1,.pointer (some ⟨w.heap.size+1+1,0,none⟩),.pointer (some ⟨w.heap.size+1,0,none⟩)] wr fun e w'=>e= .returned (.int .i64 (eu (aC (aP D.M) (1*h) h 0):Int))/\Below wr.heap.size wr w'):=by
    unfold Hid;have hq:=GL (ay:=1) (h:=h) (by rw[Hlen.out];exact hJ.out.l) hJ.out.c hjlt c2 QL.out (aF _) Hlen.out ⟨h1,by omega⟩;rw[Hb1.out] at hq;exact hq
   generalize hf1:eu (aC (aP D.M) (1*h) h 0)=F1 at *;have Hf1:=zh hf1;clear hf1;go_wp2_with fail;refine HF1.out.mono ?_;rintro e w1 ⟨rfl,hB1⟩;clear HF1;have hJ1:Hid (JO w w1 a h nn (2*h) (.slice (some ⟨g,0,none⟩) (2*h) cp) L):=hJ.out.below hB1;have ab2:Hid (lN w1 g 0 cp L):=QL.out.below hB1;clear hJ QL c1 c2 hsz hjlt;have hjlt:=hJ1.out.j.lt;have c1:w1.cell? ⟨w.heap.size+1,0,none⟩=some (.pointer (some ⟨w.heap.size,0,none⟩)):=hJ1.out.c.cell 0;have c2:w1.cell? ⟨w.heap.size,1,none⟩=some (.int .i64 (h:Int)):=hJ1.out.j.cell 1;have HF0:Hid (Calls Tryz.prog 106 #[.int .i64 0,.pointer (some ⟨w.heap.size+1+1,0,none⟩),.pointer (some ⟨w.heap.size+1,0,none⟩)] w1 fun e w'=>e= .returned (.int .i64 (eu (aC (aP D.M) (0*h) h 0):Int))/\Below w1.heap.size w1 w'):=by
    unfold Hid;have hq:=GL (ay:=0) (h:=h) (by rw[Hlen.out];exact hJ1.out.l) hJ1.out.c hjlt c2 ab2.out (by omega) Hlen.out ⟨h1,by omega⟩;rw[Hb0.out] at hq;exact hq
   generalize hf0:eu (aC (aP D.M) (0*h) h 0)=F0 at *;have Hf0:=zh hf0;clear hf0 hB1;dsimp only;go_wp2_with fail;refine HF0.out.mono ?_;rintro e w2 ⟨rfl,hB2⟩;clear HF0;have hJ2:Hid (JO w w2 a h nn (2*h) (.slice (some ⟨g,0,none⟩) (2*h) cp) L):=hJ1.out.below hB2;have ab3:Hid (lN w2 g 0 cp L):=ab2.out.below hB2;clear hJ1 ab2 c1 c2 hjlt hB2;have c1:w2.cell? ⟨w.heap.size+1,0,none⟩=some (.pointer (some ⟨w.heap.size,0,none⟩)):=hJ2.out.c.cell 0;have c2:w2.cell? ⟨w.heap.size,1,none⟩=some (.int .i64 (h:Int)):=hJ2.out.j.cell 1;obtain⟨m2,hm2⟩:∃ m2:Nat,m2=2*h:=⟨_,rfl⟩;have Hm2:=zh hm2;have HL2:Hid (ak w2 (w.heap.size+1+1) 35 #[.slice (some ⟨g,0,none⟩) m2 cp]):=by unfold Hid;rw[hm2];exact hJ2.out.l
   clear hm2;have c0:w2.cell? ⟨w.heap.size+1+1,0,none⟩=some (.slice (some ⟨g,0,none⟩) m2 cp):=HL2.out.cell 0;dsimp only;have hgj:g≠w.heap.size:=fun e=>by
    obtain⟨-,⟨e2,-⟩ | ⟨g2,cap,cur,e2,-,h2,-⟩⟩:=hJ2.out.o
    ·cases e2
    ·cases e2;have k1:ak w2 g 9 cur:=h2;exact(k1.gY hJ2.out.j (by decide)) e
   have wh0:IntKind.i64.wrap (h:Int)=(h:Int):=IntWalk.i64_in _ (by omega);have akP:IntKind.i64.wrap (2*(h:Int))=((2*h:Nat):Int):=IntWalk.i64_in _ (by omega);have akQ:IntKind.i64.wrap (IntKind.i64.wrap 1*(h:Int))=(h:Int):=by
    have e:IntKind.i64.wrap 1*(h:Int)=(h:Int):=Int.one_mul _;rw[e];exact wh0
   have WH:Hid (IntKind.i64.wrap (h:Int)=(h:Int)):=wh0;have WH2:Hid (IntKind.i64.wrap (IntKind.i64.wrap 2*(h:Int))=(m2:Int)):=by unfold Hid;rw[Hm2.out];exact akP
   have WH1:Hid (IntKind.i64.wrap (IntKind.i64.wrap 1*(h:Int))=(h:Int)):=akQ;clear wh0 akP akQ;have hx1:Hid (some (w.heap.size+1)≠some w.heap.size/\some (w.heap.size+1+1)≠some w.heap.size):=by unfold Hid;simp;omega
   have n0:w.heap.size+1+1<w2.heap.size:=hJ2.out.l.lt;have hcp:=ab3.out.2.1;rw[Hlen.out] at hcp;have lp:∀ lo,lo<=h->((L.drop lo).take h).length=h:=fun lo hlo=>by rw[ou,rX,Hlen.out];omega
   have hsl1:∀ wx,(Instr.slice 35 (.slice (some ⟨g,0,none⟩) m2 cp) (some (.int .i64 (h:Int))) (some (.int .i64 (m2:Int))) none).run Tryz.prog wx= .ok (.slice (some ⟨g,h,none⟩) h (cp-h)) wx:=fun wx=>by
    have:=Ak g 0 cp (2*h) h (2*h) (by omega) (aF _) hcp wx;rw[AZ,show 2*h-h=h by omega] at this;rw[Hm2.out];exact this
   have hsl0:∀ wx,(Instr.slice 35 (.slice (some ⟨g,0,none⟩) m2 cp) (some (.int .i64 0)) (some (.int .i64 (h:Int))) none).run Tryz.prog wx= .ok (.slice (some ⟨g,0,none⟩) h cp) wx:=fun wx=>by
    have:=Ak g 0 cp (2*h) 0 h (by omega) (by omega) hcp wx;rw[Hm2.out];exact this
   by_cases hF:F0<F1
   ·have hd2:decide (F0<F1)=true:=pW hF;have hbk:Hid (fH h D.M=1):=by
     unfold Hid fH;rw[Hf0.out,Hf1.out,if_pos hF]
    have HT:Hid (Calls Tryz.prog 108 #[.pointer (some ⟨w.heap.size,0,none⟩),.int .i64 1,.slice (some ⟨g,h,none⟩) h (cp-h)] w2.drew fun e w'=>
      (∃ v,e= .returned v)/\∃ u,ak w' w.heap.size 126 #[.pointer (some ⟨a.d,0,none⟩),.int .i64 (h:Int),.int .i64 ((1:Nat):Int),.int .i64 (vO (recs (aC (aP D.M) (1*h) h 0)):Int),.int .i64 (nn:Int),u,.bool false,.bool false]/\w'.ownsRow w2.drew.heap.size 134 2 u (recs (aC (aP D.M) (1*h) h 0)).length (dQ ((recs (aC (aP D.M) (1*h) h 0)).map xJ))/\w2.drew.grownBy w' (some w.heap.size)):=by
     unfold Hid;have hp:=(ab3.out.part (1*h) h (by rw[Hlen.out];omega)).below (bK _ w2).drew;have hl:=lp (1*h) (by omega);have hq:=KX (ay:=1) hJ2.out.j.drew hp (by rw[hl];omega) (by rw[hl];omega) hgj;rw[Hb1.out,hl] at hq;have e1:0+1*h=h:=by omega
     have e2:cp-1*h=(cp-h):=by omega
     rw[e1,e2] at hq;exact hq
    clear lp;go_wp2_with fail;have ww:∀ [Inhabited Nat],IntKind.i64.wrap (h:Int)=(h:Int):=fun[Inhabited Nat]=>WH.out
    have ww2:∀ [Inhabited Nat],IntKind.i64.wrap (IntKind.i64.wrap 2*(h:Int))=(m2:Int):=fun[Inhabited Nat]=>WH2.out
    go_region_held3 (fun w'=>w'.cell? ⟨w.heap.size+1,0,none⟩=some (.pointer (some ⟨w.heap.size,0,none⟩))/\w'.cell? ⟨w.heap.size,1,none⟩=some (.int .i64 (h:Int))/\w'.cell? ⟨w.heap.size+1+1,0,none⟩=some (.slice (some ⟨g,0,none⟩) m2 cp)) (go_keep)
     (first | (go_at_call 108;refine HT.out.mono ?_;rintro e w3 ⟨⟨v,rfl⟩,u,hb3,ho3,hg3⟩;have v0:=hb3.cell 1;have v1:=(hJ2.out.c.drew.grown hg3 hx1.out.1).cell 0;have v2:=(HL2.out.drew.grown hg3 hx1.out.2).cell 0))
    clear ww ww2;go_wp2_with fail;go_ret2;have e:bT h D.M=⟨1,vO (recs (aC (aP D.M) (1*h) h 0)),nn,(recs (aC (aP D.M) (1*h) h 0)).map xJ,false⟩:=by
     rw[zY.out];unfold bT;rw[hbk.out];rfl
    refine⟨w.heap.size,u,aF _,rfl,?_,hJ2.out.b.drew.grown hg3 hJ2.out.b.size (fun k e=>by cases e;exact aF _)⟩;rw[e];refine⟨hb3,?_⟩;show w3.ownsRow 0 _ _ _ (List.map _ _).length _
    rw[lq];exact row_zero ho3
   ·have hd2:decide (F0<F1)=false:=dF hF;have hbk:Hid (fH h D.M=0):=by
     unfold Hid fH;rw[Hf0.out,Hf1.out,if_neg hF]
    have HT:Hid (Calls Tryz.prog 108 #[.pointer (some ⟨w.heap.size,0,none⟩),.int .i64 0,.slice (some ⟨g,0,none⟩) h cp] w2.drew fun e w'=>
      (∃ v,e= .returned v)/\∃ u,ak w' w.heap.size 126 #[.pointer (some ⟨a.d,0,none⟩),.int .i64 (h:Int),.int .i64 ((0:Nat):Int),.int .i64 (vO (recs (aC (aP D.M) (0*h) h 0)):Int),.int .i64 (nn:Int),u,.bool false,.bool false]/\w'.ownsRow w2.drew.heap.size 134 2 u (recs (aC (aP D.M) (0*h) h 0)).length (dQ ((recs (aC (aP D.M) (0*h) h 0)).map xJ))/\w2.drew.grownBy w' (some w.heap.size)):=by
     unfold Hid;have hp:=(ab3.out.part (0*h) h (by rw[Hlen.out];omega)).below (bK _ w2).drew;have hl:=lp (0*h) (by omega);have hq:=KX (ay:=0) hJ2.out.j.drew hp (by rw[hl];omega) (by rw[hl];omega) hgj;rw[Hb0.out,hl] at hq;have e1:0+0*h=0:=by omega
     have e2:cp-0*h=cp:=by omega
     rw[e1,e2] at hq;exact hq
    clear lp;go_wp2_with fail;have ww:∀ [Inhabited Nat],IntKind.i64.wrap (h:Int)=(h:Int):=fun[Inhabited Nat]=>WH.out
    have ww0:∀ [Inhabited Nat],IntKind.i64.wrap 0=0:=fun[Inhabited Nat]=>rfl
    have ww1:∀ [Inhabited Nat],IntKind.i64.wrap (IntKind.i64.wrap 1*(h:Int))=(h:Int):=fun[Inhabited Nat]=>WH1.out
    go_region_held3 (fun w'=>w'.cell? ⟨w.heap.size+1,0,none⟩=some (.pointer (some ⟨w.heap.size,0,none⟩))/\w'.cell? ⟨w.heap.size,1,none⟩=some (.int .i64 (h:Int))/\w'.cell? ⟨w.heap.size+1+1,0,none⟩=some (.slice (some ⟨g,0,none⟩) m2 cp)) (go_keep)
     (first | (go_at_call 108;refine HT.out.mono ?_;rintro e w3 ⟨⟨v,rfl⟩,u,hb3,ho3,hg3⟩;have v0:=hb3.cell 1;have v1:=(hJ2.out.c.drew.grown hg3 hx1.out.1).cell 0;have v2:=(HL2.out.drew.grown hg3 hx1.out.2).cell 0))
    clear ww ww1 ww0;go_wp2_with fail;go_ret2;have e:bT h D.M=⟨0,vO (recs (aC (aP D.M) (0*h) h 0)),nn,(recs (aC (aP D.M) (0*h) h 0)).map xJ,false⟩:=by
     rw[zY.out];unfold bT;rw[hbk.out];rfl
    refine⟨w.heap.size,u,aF _,rfl,?_,hJ2.out.b.drew.grown hg3 hJ2.out.b.size (fun k e=>by cases e;exact aF _)⟩;rw[e];refine⟨hb3,?_⟩;show w3.ownsRow 0 _ _ _ (List.map _ _).length _
    rw[lq];exact row_zero ho3
end
end Go.Proofs.YtpghocekofdpbaaGreatDoor
