import Derived.Test.YtpghocekofdpbaaGreatDoorQs45
set_option maxRecDepth 100000
set_option maxHeartbeats 8000000
namespace Go.Proofs.YtpghocekofdpbaaGreatDoor
section
open Go.RowKit Go.Shelf
open Sec (tH oD joinL GX)
attribute [local go_sem] Oper.semAt_some
theorem UL (g o c n u:Nat) (hu:u<=n) (hc:n<=c):∃ A',(0<n-u->A'=some ⟨g,o+u,none⟩)/\∀ w:World,(Instr.slice 35 (.slice (some ⟨g,o,none⟩) n c) (some (.int .i64 (u:Int))) none none).run Tryz.prog w= .ok (.slice A' (n-u) (c-u)) w:=by
 by_cases e:c=u
 ·have en:n=u:=by omega
  subst e en;refine⟨some ⟨g,o,none⟩,fun h=>absurd h (by omega),fun w=>?_⟩;simp[go_sem]
 ·refine⟨_,fun _=>rfl,fun w=>?_⟩;have e1:¬ n<u:=by omega
  have e2:¬ c<u:=by omega
  simp[go_sem,hu,e]
def fQ (xs:List (Nat×Nat×List UInt8)):List ByteArray:=xs.map fun x=>⟨x.2.2.toArray⟩
def numsOf (xs:List (Nat×Nat×List UInt8)):List Nat:=xs.map fun x=>x.2.1
theorem EU (xs:List (Nat×Nat×List UInt8)) (x:Nat×Nat×List UInt8):fQ (xs++ [x])=fQ xs++ [⟨x.2.2.toArray⟩]:=by unfold fQ;rw[Gh];rfl
theorem EW (xs:List (Nat×Nat×List UInt8)) (x:Nat×Nat×List UInt8):numsOf (xs++ [x])=numsOf xs++ [x.2.1]:=by unfold numsOf;rw[Gh];rfl
theorem Ij (xs:List (Nat×Nat×List UInt8)):(fQ xs).length=xs.length:=lq ..
theorem Az (xs:List (Nat×Nat×List UInt8)):(numsOf xs).length=xs.length:=lq ..
structure FS (w wr:World) (vl vn:Value) (ts:List ByteArray) (ns:List Nat) (u:Nat):Prop where
 res:ak wr w.heap.size 201 #[.slice none 0 0,.slice none 0 0,.int .i64 0]
 f:ak wr (w.heap.size+1) 201 #[vl,vn,.int .i64 u]
 rl:wr.ownsRow (w.heap.size+1) 9 1 vl ts.length (strCells ts)
 rn:wr.ownsRow (w.heap.size+1) 3 1 vn ns.length (intCells ns)
 b:Below w.heap.size w wr
section
variable {w wr w' w4:World} {vl vn v':Value} {ts:List ByteArray} {ns:List Nat} {u:Nat}
theorem FS.on (h:FS w wr vl vn ts ns u) (hB:Below wr.heap.size wr w'):FS w w' vl vn ts ns u:=
 ⟨h.res.below hB h.res.lt,h.f.below hB h.f.lt,ownsRow_below h.rl hB (aF _),ownsRow_below h.rn hB (aF _),h.b.trans (hB.mono h.b.size)⟩
theorem FS.lt (h:FS w wr vl vn ts ns u):w.heap.size+1<wr.heap.size:=h.f.lt
theorem zo {j:Nat} {e:TypeId} {n:Nat} {v:Value} {l:List Value} (hr:wr.ownsRow (w.heap.size+1) e 1 v n l) (hb:ak wr j 201 #[vl,vn,.int .i64 (u:Nat)]) (he:e≠201) (i:Nat) (x:Value):(wr.setCell ⟨j,i,none⟩ x).ownsRow (w.heap.size+1) e 1 v n l:=
 hr.kept (au wr j i x) (.inr (aA hr hb he))
theorem FS.app1 (h:FS w wr vl vn ts ns u) {t:ByteArray} (hown:w4.ownsRow (w.heap.size+1) 9 1 v' (ts.length+1) (strCells ts++ [.string t])) (hg:wr.grownBy w4 vl.ownBlock):
  FS w (w4.setCell ⟨w.heap.size+1,0,none⟩ v') v' vn (ts++ [t]) ns u/\ak w4 (w.heap.size+1) 201 #[vl,vn,.int .i64 u]:=by
 have ne:∀ j T cs,ak wr j T cs->T≠9->some j≠vl.ownBlock:=fun j T cs hb hT=>(aA h.rl hb (Ne.symm hT)).symm
 have hf:=h.f.grown hg (ne _ _ _ h.f (by decide));have hn:w4.ownsRow (w.heap.size+1) 3 1 vn ns.length (intCells ns):=gI h.rn (fun j cs _ hb=>hg.block j hb.lt (ne _ _ _ hb (by decide)));have g1:=au w4 (w.heap.size+1) 0 v';have hr:=h.res.grown hg (ne _ _ _ h.res (by decide));refine⟨⟨hr.grown g1 (fun e=>by have:=Option.some.inj e;omega),hf.aB 0 v',?_,zo hn hf (by decide) 0 v',(h.b.grown hg h.b.size (fun j e=>by have:=(h.rl.lt j e).1;omega)).setCell (p:=⟨w.heap.size+1,0,none⟩) (wW _) _⟩,hf⟩;have:=zo hown hf (by decide) 0 v';rw[kM];have e:strCells (ts++ [t])=strCells ts++ [.string t]:=by simp[strCells]
 rw[e];exact this
theorem FS.akn (h:FS w wr vl vn ts ns u) {z:Nat} (hown:w4.ownsRow (w.heap.size+1) 3 1 v' (ns.length+1) (intCells ns++ [.int .i64 (z:Nat)])) (hg:wr.grownBy w4 vn.ownBlock):
  FS w (w4.setCell ⟨w.heap.size+1,1,none⟩ v') vl v' ts (ns++ [z]) u/\ak w4 (w.heap.size+1) 201 #[vl,vn,.int .i64 u]:=by
 have ne:∀ j T cs,ak wr j T cs->T≠3->some j≠vn.ownBlock:=fun j T cs hb hT=>(aA h.rn hb (Ne.symm hT)).symm
 have hf:=h.f.grown hg (ne _ _ _ h.f (by decide));have hn:w4.ownsRow (w.heap.size+1) 9 1 vl ts.length (strCells ts):=gI h.rl (fun j cs _ hb=>hg.block j hb.lt (ne _ _ _ hb (by decide)));have g1:=au w4 (w.heap.size+1) 1 v';have hr:=h.res.grown hg (ne _ _ _ h.res (by decide));refine⟨⟨hr.grown g1 (fun e=>by have:=Option.some.inj e;omega),hf.aB 1 v',zo hn hf (by decide) 1 v',?_,(h.b.grown hg h.b.size (fun j e=>by have:=(h.rn.lt j e).1;omega)).setCell (p:=⟨w.heap.size+1,1,none⟩) (wW _) _⟩,hf⟩;have:=zo hown hf (by decide) 1 v';rw[kM];have e:intCells (ns++ [z])=intCells ns++ [.int .i64 (z:Nat)]:=by simp[intCells]
 rw[e];exact this
theorem FS.use (h:FS w wr vl vn ts ns u) (q:Nat):FS w (wr.setCell ⟨w.heap.size+1,2,none⟩ (.int .i64 (q:Nat))) vl vn ts ns q:=by
 have g1:=au wr (w.heap.size+1) 2 (.int .i64 (q:Nat));exact⟨h.res.grown g1 (fun e=>by have:=Option.some.inj e;omega),h.f.aB 2 _,zo h.rl h.f (by decide) 2 _,zo h.rn h.f (by decide) 2 _,h.b.setCell (p:=⟨w.heap.size+1,2,none⟩) (wW _) _⟩
theorem FS.box (h:FS w wr vl vn ts ns u) {j:Nat} {cs:Array Value} (hb:ak wr j 229 cs):some j≠vl.ownBlock/\some j≠vn.ownBlock/\j≠w.heap.size+1:=
 ⟨(aA h.rl hb (by decide)).symm,(aA h.rn hb (by decide)).symm,hb.gY h.f (by decide)⟩
end
theorem QI {B:dh} {u last:Nat} {xs:List (Nat×Nat×List UInt8)} (h:Path B 0 0 xs u last):(numsOf xs).getLast?.getD 0=last:=by
 have h2:=(KJ h).2;unfold numsOf;rw[List.getLast?_map,h2]
theorem UM {B:dh} {u last k:Nat} {xs:List (Nat×Nat×List UInt8)} (h:Path B 0 0 xs u last) (hk:xs.length=k+1):(numsOf xs)[k]? =some last:=by
 have h2:=QI h;have h3:(numsOf xs).length=k+1:=by rw[Az];exact hk
 rw[List.getLast?_eq_getElem?,h3,Nat.add_sub_cancel,jB (by omega)] at h2;rw[jB (by omega),<-h2];rfl
theorem abx {l:dh} (h:(joinL l).e=0):1<=(joinL l).number/\(joinL l).number<=Sec.bn:=by
 obtain⟨s0,p,t,_,_,h3,_,_,_,e⟩:=mY h;obtain⟨_,a,c⟩:=Sec.xR h3;rw[e];exact⟨c,a⟩
section
variable {w:World}
theorem QJ {w3:World} {T:Array Value} {Al An:Option Addr} {k cl cn u:Nat} {xs:List (Nat×Nat×List UInt8)} {RB:dh} (hF:FS w w3 (.slice Al k cl) (.slice An k cn) (fQ xs) (numsOf xs) u) (hend:recs RB=xs) (h2:T.getD 2 undef= .pointer (some ⟨w.heap.size,0,none⟩)):
  bodyPost Tryz.prog Tryz.f142 (fun e w'=>∃ vl vn u,e= .returned (.agg #[vl,vn,.int .i64 (u:Nat)])/\w'.ownsRow w.heap.size 9 1 vl (recs RB).length (strCells (fQ (recs RB)))/\w'.ownsRow w.heap.size 3 1 vn (recs RB).length (intCells (numsOf (recs RB)))/\Below w.heap.size w w') .ret ⟨T,[]⟩ (((w3.setCell ⟨w.heap.size,0,none⟩ (.slice Al k cl)).setCell ⟨w.heap.size,1,none⟩ (.slice An k cn)).setCell ⟨w.heap.size,2,none⟩ (.int .i64 (u:Nat))):=by
 subst hend;have hB4:Below w.heap.size w (((w3.setCell ⟨w.heap.size,0,none⟩ (.slice Al k cl)).setCell ⟨w.heap.size,1,none⟩ (.slice An k cn)).setCell ⟨w.heap.size,2,none⟩ (.int .i64 (u:Nat))):=(((hF.b.setCell (p:=⟨w.heap.size,0,none⟩) (aF _) _).setCell (p:=⟨w.heap.size,1,none⟩) (aF _) _).setCell (p:=⟨w.heap.size,2,none⟩) (aF _) _);have g0:=au w3 w.heap.size 0 (.slice Al k cl);have b1:=hF.res.aB 0 (.slice Al k cl);have g1:=au (w3.setCell ⟨w.heap.size,0,none⟩ (.slice Al k cl)) w.heap.size 1 (.slice An k cn);have b2:=b1.aB 1 (.slice An k cn);have g2:=au ((w3.setCell ⟨w.heap.size,0,none⟩ (.slice Al k cl)).setCell ⟨w.heap.size,1,none⟩ (.slice An k cn)) w.heap.size 2 (.int .i64 (u:Nat));have b3:=b2.aB 2 (.int .i64 (u:Nat));have ra:=((hF.rl.kept g0 (.inr (aA hF.rl hF.res (by decide))))).kept (bG g1 g2) (.inr (aA (hF.rl.kept g0 (.inr (aA hF.rl hF.res (by decide)))) b1 (by decide)));have rc:=((hF.rn.kept g0 (.inr (aA hF.rn hF.res (by decide))))).kept (bG g1 g2) (.inr (aA (hF.rn.kept g0 (.inr (aA hF.rn hF.res (by decide)))) b1 (by decide)));rw[Ij] at ra;rw[Az] at rc;exact kG (v:= .agg #[.slice Al k cl,.slice An k cn,.int .i64 (u:Nat)]) (bF (P:=Tryz.prog) (p:=2) rfl _ _ w.heap.size 201 #[.slice Al k cl,.slice An k cn,.int .i64 (u:Nat)] _ h2 b3 Tryz.underlying201 rfl (by kernel_rfl)) rfl ⟨_,_,u,rfl,lF ra (wW _),lF rc (wW _),hB4⟩
theorem LV (v:Value) (l:List ByteArray) (h:tH w v l) (hl:l.length<=4096) (hl1:1<=l.length):
  Calls Tryz.prog 142 #[v] w fun e w'=>∃ vl vn u,e= .returned (.agg #[vl,vn,.int .i64 (u:Nat)])/\w'.ownsRow w.heap.size 9 1 vl (recs (rowsOf l)).length (strCells (fQ (recs (rowsOf l))))/\w'.ownsRow w.heap.size 3 1 vn (recs (rowsOf l)).length (intCells (numsOf (recs (rowsOf l))))/\Below w.heap.size w w':=by
 obtain⟨A,c,rfl,hc,hm,hat⟩:=h;obtain⟨g,o,rfl,hg,hat⟩:=hat hl1;obtain⟨i0,hi,hz0,hz1,hz2⟩:=info_parts iw;obtain⟨j0,hj,hy0,hy1,hy2⟩:=info_parts WB;have HAt:=zh hat;have Hg:=zh hg;have Hl:=zh (And.intro hl (And.intro hc hm));obtain⟨RB,hRB⟩:∃ B,rowsOf l=B:=⟨_,rfl⟩;have hBl:RB.length=l.length:=by rw[<-hRB];exact lq ..
 rw[hRB];have hJ:Hid (∀ (wx:World) (u:Nat) (A':Option Addr),Below w.heap.size w wx->u<=l.length->(0<l.length-u->A'=some ⟨g,o+u,none⟩)->Calls Tryz.prog 164 #[.slice A' (l.length-u) (c-u)] wx fun e w'=>e= .returned (GX (joinL (RB.drop u)))/\Below wx.heap.size wx w'):=by
  intro wx u A' hB hu hA;have hs:tH wx (.slice A' (l.length-u) (c-u)) (l.drop u):=by
   refine⟨A',c-u,by rw[rX],by rw[rX];omega,by omega,fun h0=>?_⟩;rw[rX] at h0;refine⟨g,o+u,hA h0,rY hg hB.size,fun i t ht=>?_⟩;rw[Nc] at ht;rw[Nat.add_assoc];exact(hB.cell (p:=⟨g,o+(u+i),none⟩) hg).trans (hat (u+i) t ht)
  have h:=Sec.Yp hs;rw[KR,hRB] at h;exact h
 have hb1:=(bK w.heap.size w).alloc (aF _) (.cells #[.slice none 0 0,.slice none 0 0,.int .i64 0] 201);have hb2:=hb1.alloc hb1.size (.cells #[.slice none 0 0,.slice none 0 0,.int .i64 0] 201);have hF0:Hid (FS w ((w.alloc (.cells #[.slice none 0 0,.slice none 0 0,.int .i64 0] 201)).alloc (.cells #[.slice none 0 0,.slice none 0 0,.int .i64 0] 201)) (.slice none 0 0) (.slice none 0 0) [] [] 0):=by
  refine⟨(ak.new w _ _).alloc _,?_,Ju _ _ _ _,Ju _ _ _ _,hb2⟩;have:=ak.new (w.alloc (.cells #[.slice none 0 0,.slice none 0 0,.int .i64 0] 201)) 201 #[.slice none 0 0,.slice none 0 0,.int .i64 0];rw[oz] at this;exact this
 have HBl:=zh hBl;clear hat hl hc hm hb1 hb2 hg hl1 hBl hRB;obtain⟨n,hn⟩:∃ n,l.length=n:=⟨_,rfl⟩;rw[hn] at HBl Hl hJ ⊢;go_enter Tryz.func142,Tryz.ntmps142;go_wp2_with fail;generalize ((w.alloc (.cells #[.slice none 0 0,.slice none 0 0,.int .i64 0] 201)).alloc (.cells #[.slice none 0 0,.slice none 0 0,.int .i64 0] 201))=w0 at *;go_loopw [] (fun wr=>∃ (xs:List (Nat×Nat×List UInt8)) (u last:Nat) (vl vn:Value),Hid (Path RB 0 0 xs u last)/\Hid (FS w wr vl vn (fQ xs) (numsOf xs) u)) (fun wr=>n-(intOf ((wr.cell? ⟨w.heap.size+1,2,none⟩).getD undef)).toNat)
 case atStart=>exact⟨[],0,0,_,_,Path.nil _ _,hF0⟩
 case round=>
  clear hF0;obtain⟨xs,u,last,vl,vn,hP,hF⟩:=hrel;obtain⟨Al,cl,rfl⟩:=Sec.aJ hF.out.rl;obtain⟨An,cn,rfl⟩:=Sec.aJ hF.out.rn;obtain⟨k,hk⟩:∃ k,xs.length=k:=⟨_,rfl⟩;have hkt:Hid ((fQ xs).length=k):=(Ij xs).trans hk;have hkn:Hid ((numsOf xs).length=k):=(Az xs).trans hk;rw[hkt.out,hkn.out] at hF;have hk':=zh hk;clear hk;have hun:Hid (u<=n):=by
   have:=Wq hP.out;rw[HBl.out] at this;unfold Hid;omega
  obtain⟨A',hA',hsl⟩:=UL g o c n u hun.out Hl.out.2.1;have HJ:=zh (hJ.out wr u A' hF.out.b hun.out hA');have y0:=hF.out.f.cell 0;have y1:=hF.out.f.cell 1;have y2:=hF.out.f.cell 2;have HY2:Hid (wr.cell? ⟨w.heap.size+1,2,none⟩=some (.int .i64 (u:Nat))):=y2;obtain⟨J,hJe⟩:∃ J,joinL (RB.drop u)=J:=⟨_,rfl⟩;rw[hJe] at HJ;have HJe:=zh hJe;clear hA' hJe;obtain⟨J1,J2,J3,J4⟩:=J;unfold GX at HJ;dsimp only at HJ;go_upto_region 3 with(first | (go_at_call 164;refine HJ.out.mono ?_;rintro e w1 ⟨rfl,hB⟩;have HB1:=zh hB;clear hB));have hF1:Hid (FS w (w1.alloc (.cells #[.int .i64 (J1:Nat),.string ⟨J2.toArray⟩,.int .i64 (J3:Nat),.int .i64 J4] 229)) (.slice Al k cl) (.slice An k cn) (fQ xs) (numsOf xs) u):=(hF.out.on HB1.out).on ((bK _ w1).alloc (aF _) _);have hR1:Hid (ak (w1.alloc (.cells #[.int .i64 (J1:Nat),.string ⟨J2.toArray⟩,.int .i64 (J3:Nat),.int .i64 J4] 229)) w1.heap.size 229 #[.int .i64 (J1:Nat),.string ⟨J2.toArray⟩,.int .i64 (J3:Nat),.int .i64 J4]):=ak.new _ _ _;obtain⟨w2,hw2⟩:∃ w2,w1.alloc (.cells #[.int .i64 (J1:Nat),.string ⟨J2.toArray⟩,.int .i64 (J3:Nat),.int .i64 J4] 229)=w2:=⟨_,rfl⟩;obtain⟨rb,hrb⟩:∃ rb,w1.heap.size=rb:=⟨_,rfl⟩;rw[hw2] at hF1 hR1 ⊢;rw[hrb] at hR1 ⊢;clear hw2 hrb y0 y1 y2 hF HB1 HJ hJ hsl;have r0:=hR1.out.cell 0;have r1:=hR1.out.cell 1;have r2:=hR1.out.cell 2;have r3:=hR1.out.cell 3;have y0:=hF1.out.f.cell 0;have y1:=hF1.out.f.cell 1;have y2:=hF1.out.f.cell 2;by_cases h4:J4=0
  ·subst h4;have hj0:(joinL (RB.drop u)).e=0:=by rw[HJe.out]
   have hju:=oJ hj0;rw[HJe.out,rX,HBl.out] at hju;have hjn:=abx hj0;rw[HJe.out] at hjn;have hk4:Hid (k<=4096):=by
    have:=(Ik hP.out).1;have h2:=hun.out;have h3:=Hl.out.1;have h4:=hk'.out;unfold Hid;omega
   have hmore:Hid (u<n/\u+J3<=n/\1<=J3):=by have:=hju;dsimp only at this;unfold Hid;omega
   have akp:Hid (wrap64 ((u:Int)+(J3:Int))=((u+J3:Nat):Int)):=by have:=hmore.out;have:=Hl.out.1;unfold Hid wrap64;omega
   by_cases h0:k=0
   ·have d0:decide (0<k)=false:=bU (by omega);have d0':decide ((0:Int)<(k:Int))=false:=bU (by omega);have xC:Hid (Path RB 0 0 (xs++ [(u+J3,J1,J2)]) (u+J3) J1):=by
     have hx0:xs= []:=ZX (hk'.out.trans h0);have hl0:last=0:=by have:=QI hP.out;rw[hx0] at this;exact this.symm
     refine uF hP.out (x:=(u+J3,J1,J2)) ?_;unfold recAt;rw[HJe.out,if_pos ⟨by rw[HBl.out];exact hmore.out.1,rfl,by rw[hl0];exact hjn.1⟩]
    clear h0 hju hjn hj0;go_wp2_with fail
    go_quiet (fail)
    have hF3:Hid (FS w (w2.drewN nq) (.slice Al k cl) (.slice An k cn) (fQ xs) (numsOf xs) u):=hF1.out.on (jG (bK _ _) nq);have oH:Hid (ak (w2.drewN nq) rb 229 #[.int .i64 (J1:Nat),.string ⟨J2.toArray⟩,.int .i64 (J3:Nat),.int .i64 0]):=hR1.out.drewN nq;clear r0 r1 r2 r3 y0 y1 y2 hF1 hR1;generalize w2.drewN nq=w3 at hF3 oH ⊢;have y0:=hF3.out.f.cell 0;have r1:=oH.out.cell 1;have hle:Hid (k+1<=maxLen/\k<=4096):=by have:=hk4.out;unfold Hid maxLen;omega
    have Hrl:Hid (w3.ownsRow (w.heap.size+1) 9 1 (.slice Al k cl) k (strCells (fQ xs))):=by have h:=hF3.out.rl;rw[hkt.out] at h;exact h
    have hlt3:=zh hF3.out.lt;go_wp2_with (at_builtin;refine wpList_append_own _ rfl _ _ 35 rfl (w.heap.size+1) 9 i0 _ 1 16 Tryz.underlying35 hi hz0 hz1 hz2 rfl (by decide) _ k (strCells (fQ xs)) rfl (Hrl.out.alloc _) ⟨w3.heap.size,0,none⟩ 1 1 [.string ⟨J2.toArray⟩] rfl rfl ?a1 ?a2 ?a3 ?a4 ?a5 ?_)
    case a1=>exact gG (ak.new w3 9 #[.string ⟨J2.toArray⟩])
    case a2=>simp[Value.oneCell']
    case a3=>exact hle.out.1
    case a4=>have:=hle.out.2;omega
    case a5=>have:=hlt3.out;simp;omega
    intro v4 w4 hown4 hg4 _;have hgA:=(World.grownBy_alloc w3 (.cells #[.string ⟨J2.toArray⟩] 9) (Value.slice Al k cl).ownBlock).trans hg4;obtain⟨A4,c4,rfl⟩:=Sec.aJ hown4;have Il:w4.ownsRow (w.heap.size+1) 9 1 (.slice A4 (k+1) c4) ((fQ xs).length+1) (strCells (fQ xs)++ [.string ⟨J2.toArray⟩]):=by rw[hkt.out];exact hown4
    obtain⟨EX,hb4⟩:=hF3.out.app1 Il hgA;obtain⟨n1,n2,n3⟩:=hF3.out.box oH.out;have hR4:=(oH.out.grown hgA n1).grown (au w4 (w.heap.size+1) 0 (.slice A4 (k+1) c4)) (fun e=>n3 (Option.some.inj e));have c0:=hb4.cell 0;have f0:=hb4.frozen 0;have Jz:=zh EX;have HR4:=zh hR4;clear hown4 Il hg4 hgA EX hb4 hR4 y0 r1 hF3 oH Hrl hlt3 n1 n2 n3;go_upto_region 6 with fail;generalize w4.setCell ⟨w.heap.size+1,0,none⟩ (.slice A4 (k+1) c4)=w5 at Jz HR4 ⊢;clear c0 f0;have y1:=Jz.out.f.cell 1;have r0:=HR4.out.cell 0;have Hrn:Hid (w5.ownsRow (w.heap.size+1) 3 1 (.slice An k cn) k (intCells (numsOf xs))):=by have h:=Jz.out.rn;rw[hkn.out] at h;exact h
    have aby:=zh Jz.out.lt;go_wp2_with (at_builtin;refine wpList_append_own _ rfl _ _ 30 rfl (w.heap.size+1) 3 j0 _ 1 8 Tryz.underlying30 hj hy0 hy1 hy2 rfl (by decide) _ k (intCells (numsOf xs)) rfl (Hrn.out.alloc _) ⟨w5.heap.size,0,none⟩ 1 1 [.int .i64 (J1:Nat)] rfl rfl ?b1 ?b2 ?b3 ?b4 ?b5 ?_)
    case b1=>exact gG (ak.new w5 3 #[.int .i64 (J1:Nat)])
    case b2=>simp[Value.oneCell']
    case b3=>exact hle.out.1
    case b4=>have:=hle.out.2;omega
    case b5=>have:=aby.out;simp;omega
    intro v6 w6 hown6 hg6 _;have hgB:=(World.grownBy_alloc w5 (.cells #[.int .i64 (J1:Nat)] 3) (Value.slice An k cn).ownBlock).trans hg6;obtain⟨A6,c6,rfl⟩:=Sec.aJ hown6;have Io:w6.ownsRow (w.heap.size+1) 3 1 (.slice A6 (k+1) c6) ((numsOf xs).length+1) (intCells (numsOf xs)++ [.int .i64 (J1:Nat)]):=by rw[hkn.out];exact hown6
    obtain⟨hF6,hb6⟩:=Jz.out.akn Io hgB;obtain⟨m1,m2,m3⟩:=Jz.out.box HR4.out;have hR6:=(HR4.out.grown hgB m2).grown (au w6 (w.heap.size+1) 1 (.slice A6 (k+1) c6)) (fun e=>m3 (Option.some.inj e));have c1:=hb6.cell 1;have f1:=hb6.frozen 1;have HF6:=zh hF6;have Xl:=zh hR6;clear hown6 Io hg6 hgB hF6 hb6 hR6 y1 r0 Jz HR4 Hrn aby m1 m2 m3;go_upto_region 7 with fail;generalize w6.setCell ⟨w.heap.size+1,1,none⟩ (.slice A6 (k+1) c6)=w7 at HF6 Xl ⊢;clear c1 f1;have y2:=HF6.out.f.cell 2;have q2:=HF6.out.f.frozen 2;have r2:=Xl.out.cell 2;have hsu:=akp.out;have HF7:=zh (HF6.out.use (u+J3));go_wp2_with fail;go_roundw
    case rel=>exact⟨xs++ [(u+J3,J1,J2)],u+J3,J1,_,_,xC,by rw[EU,EW];exact HF7⟩
    case measure=>
     have e7:(w7.setCell ⟨w.heap.size+1,2,none⟩ (.int .i64 ((u:Int)+(J3:Int)))).cell? ⟨w.heap.size+1,2,none⟩=some (.int .i64 ((u:Int)+(J3:Int))):=HF7.out.f.cell 2;have h1:=hmore.out;simp only[e7,HY2.out,Option.getD,intOf,Int.toNat_natCast];omega
   ·obtain⟨m,hm⟩:∃ m,k=m+1:=⟨k-1,by omega⟩;have d0:decide (0<k)=true:=dF (by omega);have d0':decide ((0:Int)<(k:Int))=true:=dF (by omega);have hw1:wrap64 ((k:Int)-1)=(m:Int):=by have:=hk4.out;unfold wrap64;omega
    have hln:=UM hP.out (hk'.out.trans hm);obtain⟨gn,en,hgn,hcn⟩:∃ gn,An=some ⟨gn,0,none⟩/\gn<w2.heap.size/\w2.cell? ⟨gn,m,none⟩=some (.int .i64 (last:Nat)):=by
     have hrn:=hF1.out.rn;rw[hkn.out] at hrn;obtain⟨gn,c',cur,e1,hb,_,_⟩:=row_of hrn (by omega);cases e1;refine⟨gn,rfl,hb.lt,?_⟩;rw[World.ownsRow.cellAt hrn m (by omega)];simp[intCells,hln]
    subst en;have hkm:(m:Int)<(k:Int):=by omega
    have aq3:m<k:=by omega
    have hm0:(0:Int)<=(m:Int):=by omega
    clear hln hgn hm h0 hj0;by_cases hlt:J1<=last
    ·have d1:decide (J1<=last)=true:=dF hlt;have d1':decide ((J1:Int)<=(last:Int))=true:=dF (by omega);have hend:Hid (recs RB=xs):=by
      refine DI hP.out ?_ _ (by omega);unfold recAt;rw[HJe.out,if_neg (fun a=>by have:=a.2.2;dsimp only at this;omega)]
     clear hlt hju hjn;go_wp2_with fail
     go_quiet (fail)
     have hF3:Hid (FS w (w2.drewN nq) (.slice Al k cl) (.slice (some ⟨gn,0,none⟩) k cn) (fQ xs) (numsOf xs) u):=hF1.out.on (jG (bK _ _) nq);clear r0 r1 r2 r3 y0 y1 y2 hF1 hR1 HJe;generalize w2.drewN nq=w3 at hF3 ⊢;have y0:=hF3.out.f.cell 0;have y1:=hF3.out.f.cell 1;have y2:=hF3.out.f.cell 2;have z0:=hF3.out.res.cell 0;have z1:=hF3.out.res.cell 1;have z2:=hF3.out.res.cell 2;have f0:=hF3.out.res.frozen 0;have f1:=hF3.out.res.frozen 1;have f2:=hF3.out.res.frozen 2;go_wp2_with fail;exact QJ hF3.out hend.out rfl
    ·have d1:decide (J1<=last)=false:=bU hlt;have d1':decide ((J1:Int)<=(last:Int))=false:=bU (by omega);have xC:Hid (Path RB 0 0 (xs++ [(u+J3,J1,J2)]) (u+J3) J1):=by
      refine uF hP.out (x:=(u+J3,J1,J2)) ?_;unfold recAt;rw[HJe.out,if_pos ⟨by rw[HBl.out];exact hmore.out.1,rfl,by dsimp only;omega⟩]
     clear hlt hju hjn;go_wp2_with fail
     go_quiet (fail)
     have hF3:Hid (FS w (w2.drewN nq) (.slice Al k cl) (.slice (some ⟨gn,0,none⟩) k cn) (fQ xs) (numsOf xs) u):=hF1.out.on (jG (bK _ _) nq);have oH:Hid (ak (w2.drewN nq) rb 229 #[.int .i64 (J1:Nat),.string ⟨J2.toArray⟩,.int .i64 (J3:Nat),.int .i64 0]):=hR1.out.drewN nq;clear r0 r1 r2 r3 y0 y1 y2 hF1 hR1;generalize w2.drewN nq=w3 at hF3 oH ⊢;have y0:=hF3.out.f.cell 0;have r1:=oH.out.cell 1;have hle:Hid (k+1<=maxLen/\k<=4096):=by have:=hk4.out;unfold Hid maxLen;omega
     have Hrl:Hid (w3.ownsRow (w.heap.size+1) 9 1 (.slice Al k cl) k (strCells (fQ xs))):=by have h:=hF3.out.rl;rw[hkt.out] at h;exact h
     have hlt3:=zh hF3.out.lt;go_wp2_with (at_builtin;refine wpList_append_own _ rfl _ _ 35 rfl (w.heap.size+1) 9 i0 _ 1 16 Tryz.underlying35 hi hz0 hz1 hz2 rfl (by decide) _ k (strCells (fQ xs)) rfl (Hrl.out.alloc _) ⟨w3.heap.size,0,none⟩ 1 1 [.string ⟨J2.toArray⟩] rfl rfl ?a1 ?a2 ?a3 ?a4 ?a5 ?_)
     case a1=>exact gG (ak.new w3 9 #[.string ⟨J2.toArray⟩])
     case a2=>simp[Value.oneCell']
     case a3=>exact hle.out.1
     case a4=>have:=hle.out.2;omega
     case a5=>have:=hlt3.out;simp;omega
     intro v4 w4 hown4 hg4 _;have hgA:=(World.grownBy_alloc w3 (.cells #[.string ⟨J2.toArray⟩] 9) (Value.slice Al k cl).ownBlock).trans hg4;obtain⟨A4,c4,rfl⟩:=Sec.aJ hown4;have Il:w4.ownsRow (w.heap.size+1) 9 1 (.slice A4 (k+1) c4) ((fQ xs).length+1) (strCells (fQ xs)++ [.string ⟨J2.toArray⟩]):=by rw[hkt.out];exact hown4
     obtain⟨EX,hb4⟩:=hF3.out.app1 Il hgA;obtain⟨n1,n2,n3⟩:=hF3.out.box oH.out;have hR4:=(oH.out.grown hgA n1).grown (au w4 (w.heap.size+1) 0 (.slice A4 (k+1) c4)) (fun e=>n3 (Option.some.inj e));have c0:=hb4.cell 0;have f0:=hb4.frozen 0;have Jz:=zh EX;have HR4:=zh hR4;clear hown4 Il hg4 hgA EX hb4 hR4 y0 r1 hF3 oH Hrl hlt3 n1 n2 n3;go_upto_region 6 with fail;generalize w4.setCell ⟨w.heap.size+1,0,none⟩ (.slice A4 (k+1) c4)=w5 at Jz HR4 ⊢;clear c0 f0;have y1:=Jz.out.f.cell 1;have r0:=HR4.out.cell 0;have Hrn:Hid (w5.ownsRow (w.heap.size+1) 3 1 (.slice (some ⟨gn,0,none⟩) k cn) k (intCells (numsOf xs))):=by have h:=Jz.out.rn;rw[hkn.out] at h;exact h
     have aby:=zh Jz.out.lt;go_wp2_with (at_builtin;refine wpList_append_own _ rfl _ _ 30 rfl (w.heap.size+1) 3 j0 _ 1 8 Tryz.underlying30 hj hy0 hy1 hy2 rfl (by decide) _ k (intCells (numsOf xs)) rfl (Hrn.out.alloc _) ⟨w5.heap.size,0,none⟩ 1 1 [.int .i64 (J1:Nat)] rfl rfl ?b1 ?b2 ?b3 ?b4 ?b5 ?_)
     case b1=>exact gG (ak.new w5 3 #[.int .i64 (J1:Nat)])
     case b2=>simp[Value.oneCell']
     case b3=>exact hle.out.1
     case b4=>have:=hle.out.2;omega
     case b5=>have:=aby.out;simp;omega
     intro v6 w6 hown6 hg6 _;have hgB:=(World.grownBy_alloc w5 (.cells #[.int .i64 (J1:Nat)] 3) (Value.slice (some ⟨gn,0,none⟩) k cn).ownBlock).trans hg6;obtain⟨A6,c6,rfl⟩:=Sec.aJ hown6;have Io:w6.ownsRow (w.heap.size+1) 3 1 (.slice A6 (k+1) c6) ((numsOf xs).length+1) (intCells (numsOf xs)++ [.int .i64 (J1:Nat)]):=by rw[hkn.out];exact hown6
     obtain⟨hF6,hb6⟩:=Jz.out.akn Io hgB;obtain⟨m1,m2,m3⟩:=Jz.out.box HR4.out;have hR6:=(HR4.out.grown hgB m2).grown (au w6 (w.heap.size+1) 1 (.slice A6 (k+1) c6)) (fun e=>m3 (Option.some.inj e));have c1:=hb6.cell 1;have f1:=hb6.frozen 1;have HF6:=zh hF6;have Xl:=zh hR6;clear hown6 Io hg6 hgB hF6 hb6 hR6 y1 r0 Jz HR4 Hrn aby m1 m2 m3;go_upto_region 7 with fail;generalize w6.setCell ⟨w.heap.size+1,1,none⟩ (.slice A6 (k+1) c6)=w7 at HF6 Xl ⊢;clear c1 f1;have y2:=HF6.out.f.cell 2;have q2:=HF6.out.f.frozen 2;have r2:=Xl.out.cell 2;have hsu:=akp.out;have HF7:=zh (HF6.out.use (u+J3));go_wp2_with fail;go_roundw
     case rel=>exact⟨xs++ [(u+J3,J1,J2)],u+J3,J1,_,_,xC,by rw[EU,EW];exact HF7⟩
     case measure=>
      have e7:(w7.setCell ⟨w.heap.size+1,2,none⟩ (.int .i64 ((u:Int)+(J3:Int)))).cell? ⟨w.heap.size+1,2,none⟩=some (.int .i64 ((u:Int)+(J3:Int))):=HF7.out.f.cell 2;have h1:=hmore.out;simp only[e7,HY2.out,Option.getD,intOf,Int.toNat_natCast];omega
  ·have e4:(J4 !=0)=true:=by rw[bne_iff_ne];exact h4
   have hend:Hid (recs RB=xs):=by
    refine DI hP.out ?_ _ (by omega);unfold recAt;rw[HJe.out,if_neg (fun a=>h4 a.2.1)]
   clear h4;go_wp2_with fail
   go_quiet (fail)
   have hF3:Hid (FS w (w2.drewN nq) (.slice Al k cl) (.slice An k cn) (fQ xs) (numsOf xs) u):=hF1.out.on (jG (bK _ _) nq);clear r0 r1 r2 r3 y0 y1 y2 hF1 hR1 HJe;generalize w2.drewN nq=w3 at hF3 ⊢;have y0:=hF3.out.f.cell 0;have y1:=hF3.out.f.cell 1;have y2:=hF3.out.f.cell 2;have z0:=hF3.out.res.cell 0;have z1:=hF3.out.res.cell 1;have z2:=hF3.out.res.cell 2;have f0:=hF3.out.res.frozen 0;have f1:=hF3.out.res.frozen 1;have f2:=hF3.out.res.frozen 2;go_wp2_with fail;exact QJ hF3.out hend.out rfl
end
end
section
open Go.RowKit Go.Shelf
open Sec (tH)
attribute [local go_sem] Oper.semAt_some
structure aeb (w:World) (jb:Nat) (l:List (Nat×ByteArray)):Prop where
 at_:∃ x0 x1 x2 x3 x4 vl vn x7 x8,ak w jb 154 #[x0,x1,x2,x3,x4,vl,vn,x7,x8]/\w.ownsRow 0 9 1 vl l.length (strCells (l.map Prod.snd))/\w.ownsRow 0 3 1 vn l.length (intCells (l.map Prod.fst))
theorem abz {B:dh} {x:Nat×Nat×List UInt8} {xs:List (Nat×Nat×List UInt8)} (h:recs B=x::xs):0<x.2.1:=by
 unfold recs uD at h;split at h
 ·cases h
 ·rename_i y hy;injection h with h1 h2
  subst h1;unfold recAt at hy;split at hy
  ·rename_i hc;cases hy;exact hc.2.2
  ·cases hy
theorem NV {W:World} {jb b1 b2:Nat} {x0 x1 x2 x3 x4 vl vn x7 x8:Value} {B:List (Nat×Nat×List UInt8)} (hb:ak W jb 154 #[x0,x1,x2,x3,x4,vl,vn,x7,x8])
  (h1:W.ownsRow b1 9 1 vl B.length (strCells (fQ B))) (h2:W.ownsRow b2 3 1 vn B.length (intCells (numsOf B))):aeb W jb (B.map fun x=>(x.2.1,⟨x.2.2.toArray⟩)):=by
 have e1:(B.map fun x=>((x.2.1,⟨x.2.2.toArray⟩):Nat×ByteArray)).map Prod.snd=fQ B:=by unfold fQ;rw[List.map_map];rfl
 have e2:(B.map fun x=>((x.2.1,⟨x.2.2.toArray⟩):Nat×ByteArray)).map Prod.fst=numsOf B:=by unfold numsOf;rw[List.map_map];rfl
 exact⟨⟨x0,x1,x2,x3,x4,vl,vn,x7,x8,hb,by rw[e1,lq];exact jT h1,by rw[e2,lq];exact jT h2⟩⟩
structure RO (w W:World) (f0 f1 jb:Nat) (A0 A1 D0 D1:Value) (u v:Nat) (B0 B1:List (Nat×Nat×List UInt8)) (x0 x1 x4:Value) (b0 b1:Nat):Prop where
 f:ak W f0 201 #[A0,A1,.int .i64 (u:Nat)]
 g:ak W f1 201 #[D0,D1,.int .i64 (v:Nat)]
 j:ak W jb 154 #[x0,x1,.int .i64 0,.int .i64 (u:Nat),x4,A0,A1,.bool false,.bool false]
 r0:W.ownsRow b0 9 1 A0 B0.length (strCells (fQ B0))
 n0:W.ownsRow b0 3 1 A1 B0.length (intCells (numsOf B0))
 r1:W.ownsRow b1 9 1 D0 B1.length (strCells (fQ B1))
 n1:W.ownsRow b1 3 1 D1 B1.length (intCells (numsOf B1))
 b:Below w.heap.size w W
section
variable {w W W':World} {f0 f1 jb:Nat} {A0 A1 D0 D1:Value} {u v:Nat} {B0 B1:List (Nat×Nat×List UInt8)} {x0 x1 x4:Value} {b0 b1:Nat}
theorem RO.on (h:RO w W f0 f1 jb A0 A1 D0 D1 u v B0 B1 x0 x1 x4 b0 b1) (hB:Below W.heap.size W W'):RO w W' f0 f1 jb A0 A1 D0 D1 u v B0 B1 x0 x1 x4 b0 b1:=
 ⟨h.f.below hB h.f.lt,h.g.below hB h.g.lt,h.j.below hB h.j.lt,ownsRow_below h.r0 hB (aF _),ownsRow_below h.n0 hB (aF _),ownsRow_below h.r1 hB (aF _),ownsRow_below h.n1 hB (aF _),h.b.trans (hB.mono h.b.size)⟩
theorem sS {b n j:Nat} {e T:TypeId} {A:Value} {l:List Value} {cs:Array Value} (hr:W.ownsRow b e 1 A n l) (hb:ak W j T cs) (he:e≠T) (i:Nat) (x:Value):(W.setCell ⟨j,i,none⟩ x).ownsRow b e 1 A n l:=
 hr.kept (au W j i x) (.inr (aA hr hb he))
theorem RO.moved (h:RO w W f0 f1 jb A0 A1 D0 D1 u v B0 B1 x0 x1 x4 b0 b1) (hj:w.heap.size<=jb):
  aeb ((((W.setCell ⟨jb,2,none⟩ (.int .i64 1)).setCell ⟨jb,5,none⟩ D0).setCell ⟨jb,6,none⟩ D1).setCell ⟨jb,3,none⟩ (.int .i64 (v:Nat))) jb (B1.map fun x=>(x.2.1,⟨x.2.2.toArray⟩))/\
  Below w.heap.size w ((((W.setCell ⟨jb,2,none⟩ (.int .i64 1)).setCell ⟨jb,5,none⟩ D0).setCell ⟨jb,6,none⟩ D1).setCell ⟨jb,3,none⟩ (.int .i64 (v:Nat))):=by
 have k1:=h.j.aB 2 (.int .i64 1);have k2:=k1.aB 5 D0;have k3:=k2.aB 6 D1;have k4:ak _ jb 154 #[x0,x1,.int .i64 1,.int .i64 (v:Nat),x4,D0,D1,.bool false,.bool false]:=k3.aB 3 (.int .i64 (v:Nat));have r:=sS (sS (sS (sS h.r1 h.j (by decide) 2 (.int .i64 1)) k1 (by decide) 5 D0) k2 (by decide) 6 D1) k3 (by decide) 3 (.int .i64 (v:Nat));have n:=sS (sS (sS (sS h.n1 h.j (by decide) 2 (.int .i64 1)) k1 (by decide) 5 D0) k2 (by decide) 6 D1) k3 (by decide) 3 (.int .i64 (v:Nat));exact⟨NV k4 r n,(((h.b.setCell (p:=⟨jb,2,none⟩) hj _).setCell (p:=⟨jb,5,none⟩) hj _).setCell (p:=⟨jb,6,none⟩) hj _).setCell (p:=⟨jb,3,none⟩) hj _⟩
theorem Ip {b:Nat} {A:Option Addr} {c:Nat} {y:Nat×Nat×List UInt8} {ys:List (Nat×Nat×List UInt8)} (h:W.ownsRow b 3 1 (.slice A (y::ys).length c) (y::ys).length (intCells (numsOf (y::ys)))):
  ∃ g,A=some ⟨g,0,none⟩/\W.cell? ⟨g,0,none⟩=some (.int .i64 (y.2.1:Nat)):=by
 obtain⟨g,c',cur,e1,hb,_,_⟩:=row_of h (by simp);cases e1;refine⟨g,rfl,?_⟩;rw[World.ownsRow.cellAt h 0 (by simp)];rfl
end
section
variable {w:World} {a:nP} {D:Dev}
theorem UN (hd:pV w a D) (hdn:D.down=false) (hf:Fine D.M) (hc:Clean D.M) (h:Nat) (hh:D.M.length/2=h) (h1:1<=h) (hD:D.M.length<=4096):
  Calls Tryz.prog 101 #[.pointer (some ⟨a.d,0,none⟩)] w fun e w'=>∃ jb,e= .returned (.tuple #[.pointer (some ⟨jb,0,none⟩),.int .i64 0])/\aeb w' jb (bT h D.M).l/\Below w.heap.size w w':=by
 obtain⟨i0,hi,hz0,hz1,hz2⟩:=info_parts iw;have HS:=zh (JW hd);obtain⟨N,hN⟩:∃ N,D.M.length=N:=⟨_,rfl⟩;rw[hN] at HS hh hD;have hq:Int.tdiv (N:Int) 2=(h:Int):=by
  rw[Int.tdiv_eq_ediv_of_nonneg (by omega)];omega
 have hqw:wrap64 (h:Int)=(h:Int):=by unfold wrap64;omega
 obtain⟨m,hm⟩:∃ m,2*h=m:=⟨_,rfl⟩;have h2w:wrap64 (2*(h:Int))=(m:Int):=by unfold wrap64;omega
 have HR:Hid (∀ (wx:World) (k:Nat) (x:Sec),Below w.heap.size w wx->D.M[k]? =some x->Calls Tryz.prog 140 #[.pointer (some ⟨a.d,0,none⟩),.int .i64 (k:Int)] wx fun e w'=>e= .returned (.tuple #[.string x.now,.int .i64 0])/\wx=w'):=by
  intro wx k x hB hx;have hk:=(List.getElem?_eq_some_iff.1 hx).1;have h:=UO (hd.below hB) (k:Int);have hat:iV D.M (k:Int):=⟨by omega,by omega⟩;have hcl:=hc x (zI hx);have hget:D.M.getD ((k:Int).toNat) default=x:=by simp[List.getD,hx]
  rw[hdn,if_pos hat,if_pos hat,hget] at h;simp only[Bool.false_eq_true,if_false] at h;have hse:x.seen=x.now:=by unfold Sec.seen;rw[hcl];rfl
  rw[hse] at h;exact h
 have Hb1:Hid (rowsOf ((((lG D.M).take (2*h)).drop (1*h)).take h)=aC (aP D.M) (1*h) h 0):=zu D.M h 1 (aF _);have Hb0:Hid (rowsOf ((((lG D.M).take (2*h)).drop (0*h)).take h)=aC (aP D.M) (0*h) h 0):=zu D.M h 0 (by omega);have Hf:=zh hf;have Hn:=zh (And.intro hN (And.intro hh (And.intro h1 (And.intro hD hm))));clear hd hdn hf hc hh h1 hD hN hm;go_enter Tryz.func101,Tryz.ntmps101;go_wp2_with (first | (go_at_call 139;refine HS.out.mono ?_;rintro e w1 ⟨rfl,rfl⟩));try rw[hqw]
 go_loopw [5,6,7] (fun v z i wr=>∃ (k:Nat) (y:Int),k<=m/\i= .int .i64 k/\z= .int .i64 y/\Hid (wr.ownsRow w.heap.size 9 1 v k (strCells ((lG D.M).take k)))/\Hid (Below w.heap.size w wr)) (fun _ _ i _=>m-(intOf i).toNat)
 case atStart=>exact⟨0,1,iT _,rfl,rfl,Ju _ _ _ _,bK _ _⟩
 case round=>
  obtain⟨k,y,hk,rfl,rfl,hown,hB⟩:=hrel;by_cases hkl:k<m
  ·have hd1:decide (k<m)=true:=dF hkl;have anw:decide ((k:Int)<(m:Int))=true:=dF (by omega);obtain⟨x,hx⟩:∃ x,D.M[k]? =some x:=⟨_,jB (by have:=Hn.out;omega)⟩;have ZR:=zh (HR.out wr k x hB.out hx);have h64:x.now.size=64:=(Hf.out x (zI hx)).1;have hstep:Hid ((lG D.M).take (k+1)=(lG D.M).take k++ [x.now]):=by
    have e2:(lG D.M)[k]? =some x.now:=by unfold lG;rw[sD,hx];rfl
    unfold Hid;rw[FD,e2];rfl
   have HE0:=zh (QH wr x.now 0 h64 (by decide));have HE1:=zh (QH wr x.now 56 h64 (by decide));generalize x.now=t at *;have QK:=zh hkl;have h4k:Hid (k+1<=maxLen/\k+1<=8192):=by have:=Hn.out;unfold Hid maxLen;omega
   have hwk:wrap64 ((k:Int)+1)=(k:Int)+1:=by have:=h4k.out;unfold wrap64;omega
   clear hx h64 hkl;go_wp2_with fail;refine ZR.out.mono ?_;rintro e w1 ⟨rfl,rfl⟩;go_wp2_with fail;refine HE0.out.mono ?_;rintro e w1 ⟨y1,rfl,rfl⟩;go_wp2_with fail;refine HE1.out.mono ?_;rintro e w1 ⟨y2,rfl,rfl⟩;have abA:=zh hB.out.size;obtain⟨A,cA,rfl⟩:=Sec.aJ hown.out;go_wp2_with (at_builtin;refine wpList_append_own _ rfl _ _ 35 rfl w.heap.size 9 i0 _ 1 16 Tryz.underlying35 hi hz0 hz1 hz2 rfl (by decide) _ k (strCells ((lG D.M).take k)) rfl (hown.out.alloc _) ⟨wr.heap.size,0,none⟩ 1 1 [.string t] rfl rfl ?c1 ?c2 ?c3 ?c4 ?c5 ?_)
   case c1=>exact gG (ak.new wr 9 #[.string t])
   case c2=>simp[Value.oneCell']
   case c3=>exact h4k.out.1
   case c4=>have:=h4k.out.2;omega
   case c5=>have:=abA.out;simp;omega
   intro v' w3 hown3 hg3 _;have hB3:=zh ((hB.out.alloc (abA.out) _).grown hg3 (by have:=abA.out;simp;omega) (fun j e=>(hown.out.lt j e).1));have hown4:Hid (w3.ownsRow w.heap.size 9 1 v' (k+1) (strCells ((lG D.M).take (k+1)))):=by
    unfold Hid;rw[hstep.out];have e:strCells ((lG D.M).take k++ [t])=strCells ((lG D.M).take k)++ [.string t]:=by simp[strCells]
    rw[e];exact hown3
   clear hg3 hown3 hown hB;go_wp2_with fail;go_roundw
   case rel=>exact⟨k+1,_,QK.out,by go_num,rfl,hown4,hB3⟩
   case measure=>rw[hwk];exact vM QK.out
  ·obtain rfl:k=m:=by omega
   have hd1:decide (k<k)=false:=bU hkl;have anw:decide ((k:Int)<(k:Int))=false:=bU (by omega);clear hkl hk HS HR;obtain⟨A,cA,rfl⟩:=Sec.aJ hown.out;have hk2:k=2*h:=by have:=Hn.out;omega
   obtain⟨g,rfl,hgw,hrow,hlen⟩:=EY hown.out (by have:=Hn.out;omega);have QL:=zh (And.intro hrow hlen);have hcp:=Hid.out (zh hrow.2.1);rw[hlen] at hcp;have Hcp:=zh hcp;have hh0:decide (h=0)=false:=bU (by have:=Hn.out;omega);have aq5:((h:Int)==0)=false:=lM (by have:=Hn.out;omega);have s1:h<=cA:=by have:=Hn.out;omega
   have s2:¬ cA=0:=by have:=Hn.out;omega
   have HF0:Hid (Calls Tryz.prog 142 #[.slice (some ⟨g,0,none⟩) h cA] wr fun e w'=>∃ vl vn u,e= .returned (.agg #[vl,vn,.int .i64 (u:Nat)])/\w'.ownsRow wr.heap.size 9 1 vl (recs (aC (aP D.M) (0*h) h 0)).length (strCells (fQ (recs (aC (aP D.M) (0*h) h 0))))/\w'.ownsRow wr.heap.size 3 1 vn (recs (aC (aP D.M) (0*h) h 0)).length (intCells (numsOf (recs (aC (aP D.M) (0*h) h 0))))/\Below wr.heap.size wr w'):=by
    have hl:((((lG D.M).take k).drop (0*h)).take h).length=h:=by
     rw[ou,rX,QL.out.2];omega
    have hp:=QL.out.1;have hst:tH wr (.slice (some ⟨g,0,none⟩) h cA) ((((lG D.M).take k).drop (0*h)).take h):=by
     refine⟨_,cA,by rw[hl],by rw[hl];exact s1,hp.2.2.1,fun _=>⟨g,0,rfl,hp.1,fun i t ht=>?_⟩⟩;refine hp.2.2.2 i t ?_;rw[List.getElem?_take] at ht;split at ht
     ·rw[Nat.zero_mul,List.drop_zero] at ht;exact ht
     ·cases ht
    have hq:=LV (w:=wr) _ _ hst (by rw[hl];have:=Hn.out;omega) (by rw[hl];exact Hn.out.2.2.1);have e:=Hb0.out;rw[show 2*h=k from hk2.symm] at e;rw[e] at hq;exact hq
   have HFB:Hid (∀ wx,Below wr.heap.size wr wx->Calls Tryz.prog 142 #[.slice (some ⟨g,h,none⟩) h (cA-h)] wx fun e w'=>∃ vl vn u,e= .returned (.agg #[vl,vn,.int .i64 (u:Nat)])/\w'.ownsRow wx.heap.size 9 1 vl (recs (aC (aP D.M) (1*h) h 0)).length (strCells (fQ (recs (aC (aP D.M) (1*h) h 0))))/\w'.ownsRow wx.heap.size 3 1 vn (recs (aC (aP D.M) (1*h) h 0)).length (intCells (numsOf (recs (aC (aP D.M) (1*h) h 0))))/\Below wx.heap.size wx w'):=by
    intro wx hBx;have hl:((((lG D.M).take k).drop (1*h)).take h).length=h:=by
     rw[ou,rX,QL.out.2];omega
    have hp:=QL.out.1.below hBx;have hst:tH wx (.slice (some ⟨g,h,none⟩) h (cA-h)) ((((lG D.M).take k).drop (1*h)).take h):=by
     refine⟨_,cA-h,by rw[hl],by rw[hl];omega,by have:=hp.2.2.1;omega,fun _=>⟨g,h,rfl,hp.1,fun i t ht=>?_⟩⟩;rw[List.getElem?_take] at ht;split at ht
     ·rw[Nat.one_mul,Nc] at ht;have:=hp.2.2.2 (h+i) t ht
      rwa [AZ] at this
     ·cases ht
    have hq:=LV (w:=wx) _ _ hst (by rw[hl];have:=Hn.out;omega) (by rw[hl];exact Hn.out.2.2.1);have e:=Hb1.out;rw[show 2*h=k from hk2.symm] at e;rw[e] at hq;exact hq
   have s3:h<=k:=by omega
   have s4:¬ cA=h:=by have:=Hn.out;omega
   have s5:k-h=h:=by omega
   have S5:=zh s5;clear s5;generalize hG0:recs (aC (aP D.M) (0*h) h 0)=B0 at *;generalize hG1:recs (aC (aP D.M) (1*h) h 0)=B1 at *;have HG:=zh (And.intro hG0 hG1);have Hk2:=zh hk2;clear hrow hlen hgw hown hG0 hG1 hk2;go_wp2_with fail;refine HF0.out.mono ?_;rintro e w1 ⟨vl,vn,u,rfl,hA1,hA2,hB1⟩;obtain⟨A0,c0,rfl⟩:=Sec.aJ hA1;obtain⟨A1,c1,rfl⟩:=Sec.aJ hA2;have HA:=zh (And.intro hA1 (And.intro hA2 hB1));clear hA1 hA2 hB1;go_wp2_with fail;rw[S5.out];have HQ1:Hid (ak (w1.alloc (.cells #[.slice A0 B0.length c0,.slice A1 B0.length c1,.int .i64 (u:Nat)] 201)) w1.heap.size 201 #[.slice A0 B0.length c0,.slice A1 B0.length c1,.int .i64 (u:Nat)]):=ak.new _ _ _;have HB1:Hid (Below wr.heap.size wr (w1.alloc (.cells #[.slice A0 B0.length c0,.slice A1 B0.length c1,.int .i64 (u:Nat)] 201))):=HA.out.2.2.alloc HA.out.2.2.size _;have HR1:=zh (HA.out.1.alloc (.cells #[.slice A0 B0.length c0,.slice A1 B0.length c1,.int .i64 (u:Nat)] 201));have Xm:=zh (HA.out.2.1.alloc (.cells #[.slice A0 B0.length c0,.slice A1 B0.length c1,.int .i64 (u:Nat)] 201));clear HA;generalize w1.alloc (.cells #[.slice A0 B0.length c0,.slice A1 B0.length c1,.int .i64 (u:Nat)] 201)=W1 at *;generalize w1.heap.size=f0 at *;refine(HFB.out _ HB1.out).mono ?_;rintro e w2 ⟨vl,vn,v0,rfl,hA1,hA2,hB2⟩;obtain⟨D0,d0,rfl⟩:=Sec.aJ hA1;obtain⟨D1,d1,rfl⟩:=Sec.aJ hA2;have wX:=zh (HQ1.out.below hB2 HQ1.out.lt);have HR2:=zh (ownsRow_below HR1.out hB2 (aF _));have HN2:=zh (ownsRow_below Xm.out hB2 (aF _));have HA:=zh (And.intro hA1 (And.intro hA2 (And.intro (HB1.out.trans (hB2.mono HB1.out.size)) HB1.out.size)));have hlt:=wX.out.lt;have Hlt:=zh HQ1.out.lt;have q0:w2.cell? ⟨f0,0,none⟩=some (.slice A0 B0.length c0):=wX.out.cell 0;have q1:w2.cell? ⟨f0,1,none⟩=some (.slice A1 B0.length c1):=wX.out.cell 1;have q2:w2.cell? ⟨f0,2,none⟩=some (.int .i64 (u:Nat)):=wX.out.cell 2;clear hA1 hA2 hB2 HQ1 HR1 Xm HB1 HFB HF0;go_upto_region 18 with fail;have OY:Hid (RO w ((w2.alloc (.cells #[.slice D0 B1.length d0,.slice D1 B1.length d1,.int .i64 (v0:Nat)] 201)).alloc (.cells #[.pointer (some ⟨a.d,0,none⟩),.int .i64 (h:Nat),.int .i64 0,.int .i64 (u:Nat),.int .i64 y,.slice A0 B0.length c0,.slice A1 B0.length c1,.bool false,.bool false] 154)) f0 w2.heap.size (w2.heap.size+1) (.slice A0 B0.length c0) (.slice A1 B0.length c1) (.slice D0 B1.length d0) (.slice D1 B1.length d1) u v0 B0 B1 (.pointer (some ⟨a.d,0,none⟩)) (.int .i64 (h:Nat)) (.int .i64 y) wr.heap.size W1.heap.size):=by
    have e:=oz w2 (.cells #[.slice D0 B1.length d0,.slice D1 B1.length d1,.int .i64 (v0:Nat)] 201);have hj:=ak.new (w2.alloc (.cells #[.slice D0 B1.length d0,.slice D1 B1.length d1,.int .i64 (v0:Nat)] 201)) 154 #[.pointer (some ⟨a.d,0,none⟩),.int .i64 (h:Nat),.int .i64 0,.int .i64 (u:Nat),.int .i64 y,.slice A0 B0.length c0,.slice A1 B0.length c1,.bool false,.bool false];rw[e] at hj;have hbb:=((hB.out.trans (HA.out.2.2.1.mono hB.out.size)).alloc (fU hB.out.size HA.out.2.2.1.size) (.cells #[.slice D0 B1.length d0,.slice D1 B1.length d1,.int .i64 (v0:Nat)] 201));exact⟨(wX.out.alloc _).alloc _,(ak.new w2 _ _).alloc _,hj,(HR2.out.alloc _).alloc _,(HN2.out.alloc _).alloc _,(HA.out.1.alloc _).alloc _,(HA.out.2.1.alloc _).alloc _,hbb.alloc hbb.size _⟩
   have HJb:Hid (w.heap.size<=w2.heap.size+1):=Nat.le_succ_of_le (fU hB.out.size HA.out.2.2.1.size);have N1:Hid (w2.heap.size≠w2.heap.size+1):=by unfold Hid;omega
   generalize ((w2.alloc (.cells #[.slice D0 B1.length d0,.slice D1 B1.length d1,.int .i64 (v0:Nat)] 201)).alloc (.cells #[.pointer (some ⟨a.d,0,none⟩),.int .i64 (h:Nat),.int .i64 0,.int .i64 (u:Nat),.int .i64 y,.slice A0 B0.length c0,.slice A1 B0.length c1,.bool false,.bool false] 154))=W3 at OY ⊢;generalize w2.heap.size+1=jb at *;generalize hf1:w2.heap.size=f1 at *;clear hf1 q0 q1 q2 wX HR2 HN2 HA hlt Hlt s1 s2 s3 s4 S5;have q1:=OY.out.f.cell 1;have g0:=OY.out.g.cell 0;have g1:=OY.out.g.cell 1;have g2:=OY.out.g.cell 2;cases B1 with
   | nil=>
    have hbk:Hid (fH h D.M=0):=by
     unfold Hid fH eu;rw[HG.out.1,HG.out.2,if_neg (by simp)]
    go_wp2_with fail
    go_quiet (fail)
    have oH:Hid (RO w (W3.drewN nq) f0 f1 jb (.slice A0 B0.length c0) (.slice A1 B0.length c1) (.slice D0 ([]:List (Nat×Nat×List UInt8)).length d0) (.slice D1 ([]:List (Nat×Nat×List UInt8)).length d1) u v0 B0 ([]:List (Nat×Nat×List UInt8)) (.pointer (some ⟨a.d,0,none⟩)) (.int .i64 (h:Nat)) (.int .i64 y) wr.heap.size W1.heap.size):=OY.out.on (jG (bK _ _) nq);clear q1 g0 g1 g2 OY;generalize W3.drewN nq=W4 at oH ⊢;go_wp2_with fail;go_ret2;refine⟨jb,rfl,?_,oH.out.b⟩;have e:(bT h D.M).l=(B0).map fun x=>(x.2.1,⟨x.2.2.toArray⟩):=by
     unfold bT;rw[hbk.out,HG.out.1]
    rw[e];exact NV oH.out.j oH.out.r0 oH.out.n0
   | cons z zs=>
    have hzp:=abz HG.out.2;obtain⟨gd,rfl,hgd⟩:=Ip OY.out.n1;have dz:decide (0<(z::zs).length)=true:=by simp
    have dz':decide ((0:Int)<((z::zs).length:Int))=true:=by simp
    obtain⟨L1,hL1⟩:∃ L1,(z::zs).length=L1:=⟨_,rfl⟩;have HL1:=zh hL1;cases B0 with
    | nil=>
     have hbk:Hid (fH h D.M=1):=by
      unfold Hid fH eu;rw[HG.out.1,HG.out.2,if_pos (by simpa using hzp)]
     clear hzp hL1;go_wp2_with fail
     go_quiet (fail)
     have oH:Hid (RO w (W3.drewN nq) f0 f1 jb (.slice A0 ([]:List (Nat×Nat×List UInt8)).length c0) (.slice A1 ([]:List (Nat×Nat×List UInt8)).length c1) (.slice D0 (z::zs).length d0) (.slice (some ⟨gd,0,none⟩) (z::zs).length d1) u v0 ([]:List (Nat×Nat×List UInt8)) (z::zs) (.pointer (some ⟨a.d,0,none⟩)) (.int .i64 (h:Nat)) (.int .i64 y) wr.heap.size W1.heap.size):=OY.out.on (jG (bK _ _) nq);clear q1 g0 g1 g2 OY;generalize W3.drewN nq=W4 at oH ⊢;have g0:=oH.out.g.cell 0;have g1:=oH.out.g.cell 1;have g2:=oH.out.g.cell 2;have j2:=oH.out.j.cell 2;have j3:=oH.out.j.cell 3;have j5:=oH.out.j.cell 5;have j6:=oH.out.j.cell 6;have z2:=oH.out.j.frozen 2;have z3:=oH.out.j.frozen 3;have z5:=oH.out.j.frozen 5;have z6:=oH.out.j.frozen 6;have n1:=N1.out;have n2:=Ne.symm N1.out;go_wp2_with fail;go_ret2;have hm:=oH.out.moved HJb.out;refine⟨jb,rfl,?_,hm.2⟩;have e:(bT h D.M).l=((z::zs)).map fun x=>(x.2.1,⟨x.2.2.toArray⟩):=by
      unfold bT;rw[hbk.out,HG.out.2]
     rw[e];exact hm.1
    | cons x xs=>
     obtain⟨ga,rfl,hga⟩:=Ip OY.out.n0;have e0:((((x::xs).length:Nat):Int)==0)=false:=lM (by simp;omega);by_cases hlt:x.2.1<z.2.1
     ·have dq:decide (x.2.1<z.2.1)=true:=dF hlt;have dq':decide ((x.2.1:Int)<(z.2.1:Int))=true:=dF (by omega);have hbk:Hid (fH h D.M=1):=by
       unfold Hid fH eu;rw[HG.out.1,HG.out.2,if_pos (by simpa using hlt)]
      clear hzp hlt hL1;go_wp2_with fail
      go_quiet (fail)
      have oH:Hid (RO w (W3.drewN nq) f0 f1 jb (.slice A0 (x::xs).length c0) (.slice (some ⟨ga,0,none⟩) (x::xs).length c1) (.slice D0 (z::zs).length d0) (.slice (some ⟨gd,0,none⟩) (z::zs).length d1) u v0 (x::xs) (z::zs) (.pointer (some ⟨a.d,0,none⟩)) (.int .i64 (h:Nat)) (.int .i64 y) wr.heap.size W1.heap.size):=OY.out.on (jG (bK _ _) nq);clear q1 g0 g1 g2 OY;generalize W3.drewN nq=W4 at oH ⊢;have g0:=oH.out.g.cell 0;have g1:=oH.out.g.cell 1;have g2:=oH.out.g.cell 2;have j2:=oH.out.j.cell 2;have j3:=oH.out.j.cell 3;have j5:=oH.out.j.cell 5;have j6:=oH.out.j.cell 6;have z2:=oH.out.j.frozen 2;have z3:=oH.out.j.frozen 3;have z5:=oH.out.j.frozen 5;have z6:=oH.out.j.frozen 6;have n1:=N1.out;have n2:=Ne.symm N1.out;go_wp2_with fail;go_ret2;have hm:=oH.out.moved HJb.out;refine⟨jb,rfl,?_,hm.2⟩;have e:(bT h D.M).l=((z::zs)).map fun x=>(x.2.1,⟨x.2.2.toArray⟩):=by
       unfold bT;rw[hbk.out,HG.out.2]
      rw[e];exact hm.1
     ·have dq:decide (x.2.1<z.2.1)=false:=bU hlt;have dq':decide ((x.2.1:Int)<(z.2.1:Int))=false:=bU (by omega);have hbk:Hid (fH h D.M=0):=by
       unfold Hid fH eu;rw[HG.out.1,HG.out.2,if_neg (by simpa using hlt)]
      clear hzp hlt hL1;go_wp2_with fail
      go_quiet (fail)
      have oH:Hid (RO w (W3.drewN nq) f0 f1 jb (.slice A0 (x::xs).length c0) (.slice (some ⟨ga,0,none⟩) (x::xs).length c1) (.slice D0 (z::zs).length d0) (.slice (some ⟨gd,0,none⟩) (z::zs).length d1) u v0 (x::xs) (z::zs) (.pointer (some ⟨a.d,0,none⟩)) (.int .i64 (h:Nat)) (.int .i64 y) wr.heap.size W1.heap.size):=OY.out.on (jG (bK _ _) nq);clear q1 g0 g1 g2 OY;generalize W3.drewN nq=W4 at oH ⊢;go_wp2_with fail;go_ret2;refine⟨jb,rfl,?_,oH.out.b⟩;have e:(bT h D.M).l=((x::xs)).map fun x=>(x.2.1,⟨x.2.2.toArray⟩):=by
       unfold bT;rw[hbk.out,HG.out.1]
      rw[e];exact NV oH.out.j oH.out.r0 oH.out.n0
end
end
section
open Go.RowKit Go.Shelf
attribute [local go_sem] Oper.semAt_some
section
variable {W w w' w1:World} {x y:uX} {h b pb qb:Nat} {V V':mJ} {D:Dev} {p u p2 u2:Value}
theorem uY.up {c:Nat} (k:uY W w x pb h V D b p u) (hb:b<=c):uY W w x pb h V D c p u:=⟨k.vis,k.inv.up hb,k.pl,k.bel,k.back,k.len,k.half,k.at_⟩
end
theorem Vp {o:kE} (h:o.write=true):o.kind=1\/o.kind=2\/o.kind=3:=by
 unfold kE.write at h
 simpa [or_assoc] using h
section
variable {W:World}
end
end
open Sec (aj bn)
section
variable {h b:Nat} {V:mJ} {D:Dev} {M:List Sec} {J:qm}
theorem Xx (hf:Fine M) {N o k:Nat} {t:ByteArray} (hb:o+aj t.size<=M.length):Fine (nI ((aQ N t).take k) o M):=
 uH _ _ _ hf (fun s hs=>jU N t s (List.mem_of_mem_take hs)) (by rw[ou,jf];omega)
theorem RH (hf:Fine M) {N o:Nat} {t:ByteArray} (hb:o+aj t.size<=M.length):Fine (dW (aQ N t) o M):=
 uJ hf (jU N t) (by rw[jf];exact hb)
theorem aeA (I:JInv h J M):J.ay*h+h<=M.length/\(1-J.ay)*h+h<=M.length:=by
 have:=I.len;rcases I.ay with e | e<;>rw[e]<;>simp<;>omega
theorem RI (c:ByteArray):(dR c V D).2.2.M=D.M:=by
 unfold dR;split<;>exact rQ D _
theorem ahk:(rU V D).2.2.M=D.M:=by
 unfold rU;split<;>exact CO _ D
theorem RJ (hf:Fine D.M) (hb:V.J.ay*h+h<=D.M.length) (t:ByteArray):Fine (dX h V D t).2.2.M:=by
 unfold dX;split
 ·exact hf
 ·rcases lH (h:=h) (D:=D) (aV V.root V.J.next (jQ t)) V.J with⟨_,e⟩ | ⟨hu,_,e⟩ | ⟨hu,_,e⟩<;>rw[e]
  ·exact hf
  ·exact Xx hf (by omega)
  ·dsimp only;rw[RI];exact RH hf (by omega)
theorem CU (hf:Fine D.M) (hb:(1-V.J.ay)*h+h<=D.M.length) (r t:ByteArray):Fine (dY h V D r t).2.2.M:=by
 unfold dY;rcases kJ (h:=h) (D:=D) (aV r V.J.next (kY V.chain t)) V.J with⟨_,e⟩ | ⟨hu,_,e⟩ | ⟨hu,_,e⟩<;>rw[e]
 ·exact hf
 ·exact Xx hf (by omega)
 ·exact RH hf (by omega)
theorem Ol (hf:Fine D.M) (hb:(1-V.J.ay)*h+h<=D.M.length) (t:ByteArray):Fine (dK h V D t).2.2.M:=by
 unfold dK;split
 ·exact hf
 ·have hr:=CU hf hb V.root t;split
  ·rename_i V' D' e;rw[e] at hr;rw[RI];exact hr
  ·exact hr
theorem Vt (hf:Fine D.M) (hb:(1-V.J.ay)*h+h<=D.M.length) (r t:ByteArray):Fine (eY h V D r t).2.2.M:=by
 unfold eY;split
 ·exact hf
 ·split
  ·show Fine (D.slot (2,r)).2.M
   rw[rQ];exact hf
  ·have hr:=CU (D:=(D.slot (2,r)).2) (V:=V) (h:=h) (by rw[rQ];exact hf) (by rw[rQ];exact hb) r t;split
   ·rename_i V' D' e;rw[e] at hr;rw[ahk];exact hr
   ·rename_i e;rw[e] at hr;exact hr
   ·rename_i e;rw[e] at hr;dsimp only;rw[rQ];exact hr
theorem Zi (I:jy h V D b) (o:kE):Fine (jO h V D o).2.2.M:=by
 have hf:=I.CJ.inv.fine;obtain⟨b1,b2⟩:=aeA I.CJ.inv;unfold jO;split
 ·exact RJ hf b1 _
 ·split
  ·exact Ol hf b2 _
  ·exact Vt hf b2 _ _
theorem Vu (hc:Clean D.M) (P:List Int):(D.mount P).M=D.M:=mQ hc P
theorem jy.mount (I:jy h V D b) (P:List Int):jy h V (D.mount P) b:=
 ⟨⟨rfl,by show(-1:Int)<= -1/\(-1:Int)<=_;decide⟩,by rw[Vu I.CJ.inv.clean];exact I.CJ,I.dL,I.slots,I.root,I.read⟩
theorem jy.RD (I:jy h V D b):V.texts.length<=h:=by
 have h1:=I.CJ.inv.few;obtain⟨R,hR,_,_,e3⟩:=I.read;have h3:=sU hR;rw[e3] at h3;omega
theorem Zj (I:jy h V D b) (hb:b<254) (o:kE) (P:List Int):∃ root i l,Lies h ((jO h V D o).2.2.mount P) (b+1) root i l/\
  (((jO h V D o).1=0/\i=kX V.image o/\l=iM V.texts o)\/((jO h V D o).1=15/\i=V.image/\l=V.texts)\/
   (((jO h V D o).1=14\/((jO h V D o).1=15/\(jO h V D o).2.2.down=true))/\((i=V.image/\l=V.texts)\/(i=kX V.image o/\l=iM V.texts o)))):=by
 rcases Zn I hb o with⟨V',hV,hi,h1⟩ | ⟨_,hF,hc⟩
 ·have L:=(hi.mount P).lies.1;rcases h1 with⟨e,e1,e2⟩ | ⟨e,e1,e2⟩
  ·exact⟨_,_,_,L,.inl ⟨e,e1,e2⟩⟩
  ·exact⟨_,_,_,L,.inr (.inl ⟨e,e1,e2⟩)⟩
 ·obtain⟨r,i,l,hA,L⟩:=hF.lies P;exact⟨r,i,l,L,.inr (.inr ⟨hc.elim .inl (fun e=> .inr ⟨e,hF.down⟩),hA⟩)⟩
theorem Zg {root:ByteArray} {i:Option ByteArray} {l:List ByteArray} (L:Lies h D b root i l) (hu:D.down=false/\D.left= -1) (hb:b<=255) (hs:Og h D root):
  ∃ V D',iR h D=(0,some V,D')/\V.root=root/\V.image=i/\V.texts=l/\jy h V D' b/\D'.left= -1/\D'.M=D.M:=by
 rcases Zo L ⟨hu.1,by rw[hu.2];decide⟩ hb hs with⟨V,D',e,e1,e2,e3,hi,hsm⟩ | ⟨D',_,_,h0,_⟩
 ·exact⟨V,D',e,e1,e2,e3,hi,(hsm.up hu.2).2,hsm.M⟩
 ·rw[hu.2] at h0;exact absurd h0 (by decide)
end
end Go.Proofs.YtpghocekofdpbaaGreatDoor
