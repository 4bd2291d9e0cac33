import Derived.Test.YtpghocekofdpbaaGreatDoorQr45
set_option maxRecDepth 100000
set_option maxHeartbeats 8000000
namespace Go.Proofs.YtpghocekofdpbaaGreatDoor
section
open Go.RowKit Go.Shelf
open Sec (tH)
attribute [local go_sem] Oper.semAt_some
structure aeb (w:World) (jb:Nat) (l:List (Nat×ByteArray)):Prop where
 at_:∃ x0 x1 x2 x3 x4 vl vn x7 x8,ak w jb 154 #[x0,x1,x2,x3,x4,vl,vn,x7,x8]/\w.ownsRow 0 9 1 vl l.length (strCells (l.map Prod.snd))/\w.ownsRow 0 3 1 vn l.length (intCells (l.map Prod.fst))
theorem abz {B:dh} {x:Nat×Nat×List UInt8} {xs:List (Nat×Nat×List UInt8)} (h:recs B=x::xs):0<x.2.1:=by
 unfold recs uD at h;split at h
 ·cases h
 ·rename_i y hy;injection h with h1 h2
  subst h1;unfold recAt at hy;split at hy
  ·rename_i hc;cases hy;exact hc.2.2
  ·cases hy
theorem NV {W:World} {jb b1 b2:Nat} {x0 x1 x2 x3 x4 vl vn x7 x8:Value} {B:List (Nat×Nat×List UInt8)} (hb:ak W jb 154 #[x0,x1,x2,x3,x4,vl,vn,x7,x8])
  (h1:W.ownsRow b1 9 1 vl B.length (strCells (fQ B))) (h2:W.ownsRow b2 3 1 vn B.length (intCells (numsOf B))):aeb W jb (B.map fun x=>(x.2.1,⟨x.2.2.toArray⟩)):=by
 have e1:(B.map fun x=>((x.2.1,⟨x.2.2.toArray⟩):Nat×ByteArray)).map Prod.snd=fQ B:=by unfold fQ;rw[List.map_map];rfl
 have e2:(B.map fun x=>((x.2.1,⟨x.2.2.toArray⟩):Nat×ByteArray)).map Prod.fst=numsOf B:=by unfold numsOf;rw[List.map_map];rfl
 exact⟨⟨x0,x1,x2,x3,x4,vl,vn,x7,x8,hb,by rw[e1,lq];exact jT h1,by rw[e2,lq];exact jT h2⟩⟩
structure RO (w W:World) (f0 f1 jb:Nat) (A0 A1 D0 D1:Value) (u v:Nat) (B0 B1:List (Nat×Nat×List UInt8)) (x0 x1 x4:Value) (b0 b1:Nat):Prop where
 f:ak W f0 201 #[A0,A1,.int .i64 (u:Nat)]
 g:ak W f1 201 #[D0,D1,.int .i64 (v:Nat)]
 j:ak W jb 154 #[x0,x1,.int .i64 0,.int .i64 (u:Nat),x4,A0,A1,.bool false,.bool false]
 r0:W.ownsRow b0 9 1 A0 B0.length (strCells (fQ B0))
 n0:W.ownsRow b0 3 1 A1 B0.length (intCells (numsOf B0))
 r1:W.ownsRow b1 9 1 D0 B1.length (strCells (fQ B1))
 n1:W.ownsRow b1 3 1 D1 B1.length (intCells (numsOf B1))
 b:Below w.heap.size w W
section
variable {w W W':World} {f0 f1 jb:Nat} {A0 A1 D0 D1:Value} {u v:Nat} {B0 B1:List (Nat×Nat×List UInt8)} {x0 x1 x4:Value} {b0 b1:Nat}
theorem RO.on (h:RO w W f0 f1 jb A0 A1 D0 D1 u v B0 B1 x0 x1 x4 b0 b1) (hB:Below W.heap.size W W'):RO w W' f0 f1 jb A0 A1 D0 D1 u v B0 B1 x0 x1 x4 b0 b1:=
 ⟨h.f.below hB h.f.lt,h.g.below hB h.g.lt,h.j.below hB h.j.lt,ownsRow_below h.r0 hB (aF _),ownsRow_below h.n0 hB (aF _),ownsRow_below h.r1 hB (aF _),ownsRow_below h.n1 hB (aF _),h.b.trans (hB.mono h.b.size)⟩
theorem sS {b n j:Nat} {e T:TypeId} {A:Value} {l:List Value} {cs:Array Value} (hr:W.ownsRow b e 1 A n l) (hb:ak W j T cs) (he:e≠T) (i:Nat) (x:Value):(W.setCell ⟨j,i,none⟩ x).ownsRow b e 1 A n l:=
 hr.kept (au W j i x) (.inr (aA hr hb he))
theorem RO.moved (h:RO w W f0 f1 jb A0 A1 D0 D1 u v B0 B1 x0 x1 x4 b0 b1) (hj:w.heap.size<=jb):
  aeb ((((W.setCell ⟨jb,2,none⟩ (.int .i64 1)).setCell ⟨jb,5,none⟩ D0).setCell ⟨jb,6,none⟩ D1).setCell ⟨jb,3,none⟩ (.int .i64 (v:Nat))) jb (B1.map fun x=>(x.2.1,⟨x.2.2.toArray⟩))/\
  Below w.heap.size w ((((W.setCell ⟨jb,2,none⟩ (.int .i64 1)).setCell ⟨jb,5,none⟩ D0).setCell ⟨jb,6,none⟩ D1).setCell ⟨jb,3,none⟩ (.int .i64 (v:Nat))):=by
 have k1:=h.j.aB 2 (.int .i64 1);have k2:=k1.aB 5 D0;have k3:=k2.aB 6 D1;have k4:ak _ jb 154 #[x0,x1,.int .i64 1,.int .i64 (v:Nat),x4,D0,D1,.bool false,.bool false]:=k3.aB 3 (.int .i64 (v:Nat));have r:=sS (sS (sS (sS h.r1 h.j (by decide) 2 (.int .i64 1)) k1 (by decide) 5 D0) k2 (by decide) 6 D1) k3 (by decide) 3 (.int .i64 (v:Nat));have n:=sS (sS (sS (sS h.n1 h.j (by decide) 2 (.int .i64 1)) k1 (by decide) 5 D0) k2 (by decide) 6 D1) k3 (by decide) 3 (.int .i64 (v:Nat));exact⟨NV k4 r n,(((h.b.setCell (p:=⟨jb,2,none⟩) hj _).setCell (p:=⟨jb,5,none⟩) hj _).setCell (p:=⟨jb,6,none⟩) hj _).setCell (p:=⟨jb,3,none⟩) hj _⟩
theorem Ip {b:Nat} {A:Option Addr} {c:Nat} {y:Nat×Nat×List UInt8} {ys:List (Nat×Nat×List UInt8)} (h:W.ownsRow b 3 1 (.slice A (y::ys).length c) (y::ys).length (intCells (numsOf (y::ys)))):
  ∃ g,A=some ⟨g,0,none⟩/\W.cell? ⟨g,0,none⟩=some (.int .i64 (y.2.1:Nat)):=by
 obtain⟨g,c',cur,e1,hb,_,_⟩:=row_of h (by simp);cases e1;refine⟨g,rfl,?_⟩;rw[World.ownsRow.cellAt h 0 (by simp)];rfl
end
section
variable {w:World} {a:nP} {D:Dev}
theorem UN (hd:pV w a D) (hdn:D.down=false) (hf:Fine D.M) (hc:Clean D.M) (h:Nat) (hh:D.M.length/2=h) (h1:1<=h) (hD:D.M.length<=4096):
  Calls Tryz.prog 101 #[.pointer (some ⟨a.d,0,none⟩)] w fun e w'=>∃ jb,e= .returned (.tuple #[.pointer (some ⟨jb,0,none⟩),.int .i64 0])/\aeb w' jb (bT h D.M).l/\Below w.heap.size w w':=by
 obtain⟨i0,hi,hz0,hz1,hz2⟩:=info_parts iw;have HS:=zh (JW hd);obtain⟨N,hN⟩:∃ N,D.M.length=N:=⟨_,rfl⟩;rw[hN] at HS hh hD;have hq:Int.tdiv (N:Int) 2=(h:Int):=by
  rw[Int.tdiv_eq_ediv_of_nonneg (by omega)];omega
 have hqw:wrap64 (h:Int)=(h:Int):=by unfold wrap64;omega
 obtain⟨m,hm⟩:∃ m,2*h=m:=⟨_,rfl⟩;have h2w:wrap64 (2*(h:Int))=(m:Int):=by unfold wrap64;omega
 have HR:Hid (∀ (wx:World) (k:Nat) (x:Sec),Below w.heap.size w wx->D.M[k]? =some x->Calls Tryz.prog 140 #[.pointer (some ⟨a.d,0,none⟩),.int .i64 (k:Int)] wx fun e w'=>e= .returned (.tuple #[.string x.now,.int .i64 0])/\wx=w'):=by
  intro wx k x hB hx;have hk:=(List.getElem?_eq_some_iff.1 hx).1;have h:=UO (hd.below hB) (k:Int);have hat:iV D.M (k:Int):=⟨by omega,by omega⟩;have hcl:=hc x (zI hx);have hget:D.M.getD ((k:Int).toNat) default=x:=by simp[List.getD,hx]
  rw[hdn,if_pos hat,if_pos hat,hget] at h;simp only[Bool.false_eq_true,if_false] at h;have hse:x.seen=x.now:=by unfold Sec.seen;rw[hcl];rfl
  rw[hse] at h;exact h
 have Hb1:Hid (rowsOf ((((lG D.M).take (2*h)).drop (1*h)).take h)=aC (aP D.M) (1*h) h 0):=zu D.M h 1 (aF _);have Hb0:Hid (rowsOf ((((lG D.M).take (2*h)).drop (0*h)).take h)=aC (aP D.M) (0*h) h 0):=zu D.M h 0 (by omega);have Hf:=zh hf;have Hn:=zh (And.intro hN (And.intro hh (And.intro h1 (And.intro hD hm))));clear hd hdn hf hc hh h1 hD hN hm;go_enter Tryz.func101,Tryz.ntmps101;go_wp2_with (first | (go_at_call 139;refine HS.out.mono ?_;rintro e w1 ⟨rfl,rfl⟩));try rw[hqw]
 go_loopw [5,6,7] (fun v z i wr=>∃ (k:Nat) (y:Int),k<=m/\i= .int .i64 k/\z= .int .i64 y/\Hid (wr.ownsRow w.heap.size 9 1 v k (strCells ((lG D.M).take k)))/\Hid (Below w.heap.size w wr)) (fun _ _ i _=>m-(intOf i).toNat)
 case atStart=>exact⟨0,1,iT _,rfl,rfl,Ju _ _ _ _,bK _ _⟩
 case round=>
  obtain⟨k,y,hk,rfl,rfl,hown,hB⟩:=hrel;by_cases hkl:k<m
  ·have hd1:decide (k<m)=true:=pW hkl;have anw:decide ((k:Int)<(m:Int))=true:=pW (by omega);obtain⟨x,hx⟩:∃ x,D.M[k]? =some x:=⟨_,jB (by have:=Hn.out;omega)⟩;have ZR:=zh (HR.out wr k x hB.out hx);have h64:x.now.size=64:=(Hf.out x (zI hx)).1;have hstep:Hid ((lG D.M).take (k+1)=(lG D.M).take k++ [x.now]):=by
    have e2:(lG D.M)[k]? =some x.now:=by unfold lG;rw[sD,hx];rfl
    unfold Hid;rw[FD,e2];rfl
   have HE0:=zh (QH wr x.now 0 h64 (by decide));have HE1:=zh (QH wr x.now 56 h64 (by decide));generalize x.now=t at *;have QK:=zh hkl;have h4k:Hid (k+1<=maxLen/\k+1<=8192):=by have:=Hn.out;unfold Hid maxLen;omega
   have hwk:wrap64 ((k:Int)+1)=(k:Int)+1:=by have:=h4k.out;unfold wrap64;omega
   clear hx h64 hkl;go_wp2_with fail;refine ZR.out.mono ?_;rintro e w1 ⟨rfl,rfl⟩;go_wp2_with fail;refine HE0.out.mono ?_;rintro e w1 ⟨y1,rfl,rfl⟩;go_wp2_with fail;refine HE1.out.mono ?_;rintro e w1 ⟨y2,rfl,rfl⟩;have abA:=zh hB.out.size;obtain⟨A,cA,rfl⟩:=Sec.aJ hown.out;go_wp2_with (at_builtin;refine wpList_append_own _ rfl _ _ 35 rfl w.heap.size 9 i0 _ 1 16 Tryz.underlying35 hi hz0 hz1 hz2 rfl (by decide) _ k (strCells ((lG D.M).take k)) rfl (hown.out.alloc _) ⟨wr.heap.size,0,none⟩ 1 1 [.string t] rfl rfl ?c1 ?c2 ?c3 ?c4 ?c5 ?_)
   case c1=>exact gG (ak.new wr 9 #[.string t])
   case c2=>simp[Value.oneCell']
   case c3=>exact h4k.out.1
   case c4=>have:=h4k.out.2;omega
   case c5=>have:=abA.out;simp;omega
   intro v' w3 hown3 hg3 _;have hB3:=zh ((hB.out.alloc (abA.out) _).grown hg3 (by have:=abA.out;simp;omega) (fun j e=>(hown.out.lt j e).1));have hown4:Hid (w3.ownsRow w.heap.size 9 1 v' (k+1) (strCells ((lG D.M).take (k+1)))):=by
    unfold Hid;rw[hstep.out];have e:strCells ((lG D.M).take k++ [t])=strCells ((lG D.M).take k)++ [.string t]:=by simp[strCells]
    rw[e];exact hown3
   clear hg3 hown3 hown hB;go_wp2_with fail;go_roundw
   case rel=>exact⟨k+1,_,QK.out,by go_num,rfl,hown4,hB3⟩
   case measure=>rw[hwk];exact vM QK.out
  ·obtain rfl:k=m:=by omega
   have hd1:decide (k<k)=false:=dF hkl;have anw:decide ((k:Int)<(k:Int))=false:=dF (by omega);clear hkl hk HS HR;obtain⟨A,cA,rfl⟩:=Sec.aJ hown.out;have hk2:k=2*h:=by have:=Hn.out;omega
   obtain⟨g,rfl,hgw,hrow,hlen⟩:=EY hown.out (by have:=Hn.out;omega);have QL:=zh (And.intro hrow hlen);have hcp:=Hid.out (zh hrow.2.1);rw[hlen] at hcp;have Hcp:=zh hcp;have hh0:decide (h=0)=false:=dF (by have:=Hn.out;omega);have aq5:((h:Int)==0)=false:=lM (by have:=Hn.out;omega);have s1:h<=cA:=by have:=Hn.out;omega
   have s2:¬ cA=0:=by have:=Hn.out;omega
   have HF0:Hid (Calls Tryz.prog 142 #[.slice (some ⟨g,0,none⟩) h cA] wr fun e w'=>∃ vl vn u,e= .returned (.agg #[vl,vn,.int .i64 (u:Nat)])/\w'.ownsRow wr.heap.size 9 1 vl (recs (aC (aP D.M) (0*h) h 0)).length (strCells (fQ (recs (aC (aP D.M) (0*h) h 0))))/\w'.ownsRow wr.heap.size 3 1 vn (recs (aC (aP D.M) (0*h) h 0)).length (intCells (numsOf (recs (aC (aP D.M) (0*h) h 0))))/\Below wr.heap.size wr w'):=by
    have hl:((((lG D.M).take k).drop (0*h)).take h).length=h:=by
     rw[ou,rX,QL.out.2];omega
    have hp:=QL.out.1;have hst:tH wr (.slice (some ⟨g,0,none⟩) h cA) ((((lG D.M).take k).drop (0*h)).take h):=by
     refine⟨_,cA,by rw[hl],by rw[hl];exact s1,hp.2.2.1,fun _=>⟨g,0,rfl,hp.1,fun i t ht=>?_⟩⟩;refine hp.2.2.2 i t ?_;rw[List.getElem?_take] at ht;split at ht
     ·rw[Nat.zero_mul,List.drop_zero] at ht;exact ht
     ·cases ht
    have hq:=LV (w:=wr) _ _ hst (by rw[hl];have:=Hn.out;omega) (by rw[hl];exact Hn.out.2.2.1);have e:=Hb0.out;rw[show 2*h=k from hk2.symm] at e;rw[e] at hq;exact hq
   have HFB:Hid (∀ wx,Below wr.heap.size wr wx->Calls Tryz.prog 142 #[.slice (some ⟨g,h,none⟩) h (cA-h)] wx fun e w'=>∃ vl vn u,e= .returned (.agg #[vl,vn,.int .i64 (u:Nat)])/\w'.ownsRow wx.heap.size 9 1 vl (recs (aC (aP D.M) (1*h) h 0)).length (strCells (fQ (recs (aC (aP D.M) (1*h) h 0))))/\w'.ownsRow wx.heap.size 3 1 vn (recs (aC (aP D.M) (1*h) h 0)).length (intCells (numsOf (recs (aC (aP D.M) (1*h) h 0))))/\Below wx.heap.size wx w'):=by
    intro wx hBx;have hl:((((lG D.M).take k).drop (1*h)).take h).length=h:=by
     rw[ou,rX,QL.out.2];omega
    have hp:=QL.out.1.below hBx;have hst:tH wx (.slice (some ⟨g,h,none⟩) h (cA-h)) ((((lG D.M).take k).drop (1*h)).take h):=by
     refine⟨_,cA-h,by rw[hl],by rw[hl];omega,by have:=hp.2.2.1;omega,fun _=>⟨g,h,rfl,hp.1,fun i t ht=>?_⟩⟩;rw[List.getElem?_take] at ht;split at ht
     ·rw[Nat.one_mul,Nc] at ht;have:=hp.2.2.2 (h+i) t ht
      rwa [AZ] at this
     ·cases ht
    have hq:=LV (w:=wx) _ _ hst (by rw[hl];have:=Hn.out;omega) (by rw[hl];exact Hn.out.2.2.1);have e:=Hb1.out;rw[show 2*h=k from hk2.symm] at e;rw[e] at hq;exact hq
   have s3:h<=k:=by omega
   have s4:¬ cA=h:=by have:=Hn.out;omega
   have s5:k-h=h:=by omega
   have S5:=zh s5;clear s5;generalize hG0:recs (aC (aP D.M) (0*h) h 0)=B0 at *;generalize hG1:recs (aC (aP D.M) (1*h) h 0)=B1 at *;have HG:=zh (And.intro hG0 hG1);have Hk2:=zh hk2;clear hrow hlen hgw hown hG0 hG1 hk2;go_wp2_with fail;refine HF0.out.mono ?_;rintro e w1 ⟨vl,vn,u,rfl,hA1,hA2,hB1⟩;obtain⟨A0,c0,rfl⟩:=Sec.aJ hA1;obtain⟨A1,c1,rfl⟩:=Sec.aJ hA2;have HA:=zh (And.intro hA1 (And.intro hA2 hB1));clear hA1 hA2 hB1;go_wp2_with fail;rw[S5.out];have HQ1:Hid (ak (w1.alloc (.cells #[.slice A0 B0.length c0,.slice A1 B0.length c1,.int .i64 (u:Nat)] 201)) w1.heap.size 201 #[.slice A0 B0.length c0,.slice A1 B0.length c1,.int .i64 (u:Nat)]):=ak.new _ _ _;have HB1:Hid (Below wr.heap.size wr (w1.alloc (.cells #[.slice A0 B0.length c0,.slice A1 B0.length c1,.int .i64 (u:Nat)] 201))):=HA.out.2.2.alloc HA.out.2.2.size _;have HR1:=zh (HA.out.1.alloc (.cells #[.slice A0 B0.length c0,.slice A1 B0.length c1,.int .i64 (u:Nat)] 201));have Xm:=zh (HA.out.2.1.alloc (.cells #[.slice A0 B0.length c0,.slice A1 B0.length c1,.int .i64 (u:Nat)] 201));clear HA;generalize w1.alloc (.cells #[.slice A0 B0.length c0,.slice A1 B0.length c1,.int .i64 (u:Nat)] 201)=W1 at *;generalize w1.heap.size=f0 at *;refine(HFB.out _ HB1.out).mono ?_;rintro e w2 ⟨vl,vn,v0,rfl,hA1,hA2,hB2⟩;obtain⟨D0,d0,rfl⟩:=Sec.aJ hA1;obtain⟨D1,d1,rfl⟩:=Sec.aJ hA2;have wX:=zh (HQ1.out.below hB2 HQ1.out.lt);have HR2:=zh (ownsRow_below HR1.out hB2 (aF _));have HN2:=zh (ownsRow_below Xm.out hB2 (aF _));have HA:=zh (And.intro hA1 (And.intro hA2 (And.intro (HB1.out.trans (hB2.mono HB1.out.size)) HB1.out.size)));have hlt:=wX.out.lt;have Hlt:=zh HQ1.out.lt;have q0:w2.cell? ⟨f0,0,none⟩=some (.slice A0 B0.length c0):=wX.out.cell 0;have q1:w2.cell? ⟨f0,1,none⟩=some (.slice A1 B0.length c1):=wX.out.cell 1;have q2:w2.cell? ⟨f0,2,none⟩=some (.int .i64 (u:Nat)):=wX.out.cell 2;clear hA1 hA2 hB2 HQ1 HR1 Xm HB1 HFB HF0;go_upto_region 18 with fail;have OY:Hid (RO w ((w2.alloc (.cells #[.slice D0 B1.length d0,.slice D1 B1.length d1,.int .i64 (v0:Nat)] 201)).alloc (.cells #[.pointer (some ⟨a.d,0,none⟩),.int .i64 (h:Nat),.int .i64 0,.int .i64 (u:Nat),.int .i64 y,.slice A0 B0.length c0,.slice A1 B0.length c1,.bool false,.bool false] 154)) f0 w2.heap.size (w2.heap.size+1) (.slice A0 B0.length c0) (.slice A1 B0.length c1) (.slice D0 B1.length d0) (.slice D1 B1.length d1) u v0 B0 B1 (.pointer (some ⟨a.d,0,none⟩)) (.int .i64 (h:Nat)) (.int .i64 y) wr.heap.size W1.heap.size):=by
    have e:=oz w2 (.cells #[.slice D0 B1.length d0,.slice D1 B1.length d1,.int .i64 (v0:Nat)] 201);have hj:=ak.new (w2.alloc (.cells #[.slice D0 B1.length d0,.slice D1 B1.length d1,.int .i64 (v0:Nat)] 201)) 154 #[.pointer (some ⟨a.d,0,none⟩),.int .i64 (h:Nat),.int .i64 0,.int .i64 (u:Nat),.int .i64 y,.slice A0 B0.length c0,.slice A1 B0.length c1,.bool false,.bool false];rw[e] at hj;have hbb:=((hB.out.trans (HA.out.2.2.1.mono hB.out.size)).alloc (fU hB.out.size HA.out.2.2.1.size) (.cells #[.slice D0 B1.length d0,.slice D1 B1.length d1,.int .i64 (v0:Nat)] 201));exact⟨(wX.out.alloc _).alloc _,(ak.new w2 _ _).alloc _,hj,(HR2.out.alloc _).alloc _,(HN2.out.alloc _).alloc _,(HA.out.1.alloc _).alloc _,(HA.out.2.1.alloc _).alloc _,hbb.alloc hbb.size _⟩
   have HJb:Hid (w.heap.size<=w2.heap.size+1):=Nat.le_succ_of_le (fU hB.out.size HA.out.2.2.1.size);have N1:Hid (w2.heap.size≠w2.heap.size+1):=by unfold Hid;omega
   generalize ((w2.alloc (.cells #[.slice D0 B1.length d0,.slice D1 B1.length d1,.int .i64 (v0:Nat)] 201)).alloc (.cells #[.pointer (some ⟨a.d,0,none⟩),.int .i64 (h:Nat),.int .i64 0,.int .i64 (u:Nat),.int .i64 y,.slice A0 B0.length c0,.slice A1 B0.length c1,.bool false,.bool false] 154))=W3 at OY ⊢;generalize w2.heap.size+1=jb at *;generalize hf1:w2.heap.size=f1 at *;clear hf1 q0 q1 q2 wX HR2 HN2 HA hlt Hlt s1 s2 s3 s4 S5;have q1:=OY.out.f.cell 1;have g0:=OY.out.g.cell 0;have g1:=OY.out.g.cell 1;have g2:=OY.out.g.cell 2;cases B1 with
   | nil=>
    have hbk:Hid (fH h D.M=0):=by
     unfold Hid fH eu;rw[HG.out.1,HG.out.2,if_neg (by simp)]
    go_wp2_with fail
    go_quiet (fail)
    have oH:Hid (RO w (W3.drewN nq) f0 f1 jb (.slice A0 B0.length c0) (.slice A1 B0.length c1) (.slice D0 ([]:List (Nat×Nat×List UInt8)).length d0) (.slice D1 ([]:List (Nat×Nat×List UInt8)).length d1) u v0 B0 ([]:List (Nat×Nat×List UInt8)) (.pointer (some ⟨a.d,0,none⟩)) (.int .i64 (h:Nat)) (.int .i64 y) wr.heap.size W1.heap.size):=OY.out.on (jG (bK _ _) nq);clear q1 g0 g1 g2 OY;generalize W3.drewN nq=W4 at oH ⊢;go_wp2_with fail;go_ret2;refine⟨jb,rfl,?_,oH.out.b⟩;have e:(bT h D.M).l=(B0).map fun x=>(x.2.1,⟨x.2.2.toArray⟩):=by
     unfold bT;rw[hbk.out,HG.out.1]
    rw[e];exact NV oH.out.j oH.out.r0 oH.out.n0
   | cons z zs=>
    have hzp:=abz HG.out.2;obtain⟨gd,rfl,hgd⟩:=Ip OY.out.n1;have dz:decide (0<(z::zs).length)=true:=by simp
    have dz':decide ((0:Int)<((z::zs).length:Int))=true:=by simp
    obtain⟨L1,hL1⟩:∃ L1,(z::zs).length=L1:=⟨_,rfl⟩;have HL1:=zh hL1;cases B0 with
    | nil=>
     have hbk:Hid (fH h D.M=1):=by
      unfold Hid fH eu;rw[HG.out.1,HG.out.2,if_pos (by simpa using hzp)]
     clear hzp hL1;go_wp2_with fail
     go_quiet (fail)
     have oH:Hid (RO w (W3.drewN nq) f0 f1 jb (.slice A0 ([]:List (Nat×Nat×List UInt8)).length c0) (.slice A1 ([]:List (Nat×Nat×List UInt8)).length c1) (.slice D0 (z::zs).length d0) (.slice (some ⟨gd,0,none⟩) (z::zs).length d1) u v0 ([]:List (Nat×Nat×List UInt8)) (z::zs) (.pointer (some ⟨a.d,0,none⟩)) (.int .i64 (h:Nat)) (.int .i64 y) wr.heap.size W1.heap.size):=OY.out.on (jG (bK _ _) nq);clear q1 g0 g1 g2 OY;generalize W3.drewN nq=W4 at oH ⊢;have g0:=oH.out.g.cell 0;have g1:=oH.out.g.cell 1;have g2:=oH.out.g.cell 2;have j2:=oH.out.j.cell 2;have j3:=oH.out.j.cell 3;have j5:=oH.out.j.cell 5;have j6:=oH.out.j.cell 6;have z2:=oH.out.j.frozen 2;have z3:=oH.out.j.frozen 3;have z5:=oH.out.j.frozen 5;have z6:=oH.out.j.frozen 6;have n1:=N1.out;have n2:=Ne.symm N1.out;go_wp2_with fail;go_ret2;have hm:=oH.out.moved HJb.out;refine⟨jb,rfl,?_,hm.2⟩;have e:(bT h D.M).l=((z::zs)).map fun x=>(x.2.1,⟨x.2.2.toArray⟩):=by
      unfold bT;rw[hbk.out,HG.out.2]
     rw[e];exact hm.1
    | cons x xs=>
     obtain⟨ga,rfl,hga⟩:=Ip OY.out.n0;have e0:((((x::xs).length:Nat):Int)==0)=false:=lM (by simp;omega);by_cases hlt:x.2.1<z.2.1
     ·have dq:decide (x.2.1<z.2.1)=true:=pW hlt;have dq':decide ((x.2.1:Int)<(z.2.1:Int))=true:=pW (by omega);have hbk:Hid (fH h D.M=1):=by
       unfold Hid fH eu;rw[HG.out.1,HG.out.2,if_pos (by simpa using hlt)]
      clear hzp hlt hL1;go_wp2_with fail
      go_quiet (fail)
      have oH:Hid (RO w (W3.drewN nq) f0 f1 jb (.slice A0 (x::xs).length c0) (.slice (some ⟨ga,0,none⟩) (x::xs).length c1) (.slice D0 (z::zs).length d0) (.slice (some ⟨gd,0,none⟩) (z::zs).length d1) u v0 (x::xs) (z::zs) (.pointer (some ⟨a.d,0,none⟩)) (.int .i64 (h:Nat)) (.int .i64 y) wr.heap.size W1.heap.size):=OY.out.on (jG (bK _ _) nq);clear q1 g0 g1 g2 OY;generalize W3.drewN nq=W4 at oH ⊢;have g0:=oH.out.g.cell 0;have g1:=oH.out.g.cell 1;have g2:=oH.out.g.cell 2;have j2:=oH.out.j.cell 2;have j3:=oH.out.j.cell 3;have j5:=oH.out.j.cell 5;have j6:=oH.out.j.cell 6;have z2:=oH.out.j.frozen 2;have z3:=oH.out.j.frozen 3;have z5:=oH.out.j.frozen 5;have z6:=oH.out.j.frozen 6;have n1:=N1.out;have n2:=Ne.symm N1.out;go_wp2_with fail;go_ret2;have hm:=oH.out.moved HJb.out;refine⟨jb,rfl,?_,hm.2⟩;have e:(bT h D.M).l=((z::zs)).map fun x=>(x.2.1,⟨x.2.2.toArray⟩):=by
       unfold bT;rw[hbk.out,HG.out.2]
      rw[e];exact hm.1
     ·have dq:decide (x.2.1<z.2.1)=false:=dF hlt;have dq':decide ((x.2.1:Int)<(z.2.1:Int))=false:=dF (by omega);have hbk:Hid (fH h D.M=0):=by
       unfold Hid fH eu;rw[HG.out.1,HG.out.2,if_neg (by simpa using hlt)]
      clear hzp hlt hL1;go_wp2_with fail
      go_quiet (fail)
      have oH:Hid (RO w (W3.drewN nq) f0 f1 jb (.slice A0 (x::xs).length c0) (.slice (some ⟨ga,0,none⟩) (x::xs).length c1) (.slice D0 (z::zs).length d0) (.slice (some ⟨gd,0,none⟩) (z::zs).length d1) u v0 (x::xs) (z::zs) (.pointer (some ⟨a.d,0,none⟩)) (.int .i64 (h:Nat)) (.int .i64 y) wr.heap.size W1.heap.size):=OY.out.on (jG (bK _ _) nq);clear q1 g0 g1 g2 OY;generalize W3.drewN nq=W4 at oH ⊢;go_wp2_with fail;go_ret2;refine⟨jb,rfl,?_,oH.out.b⟩;have e:(bT h D.M).l=((x::xs)).map fun x=>(x.2.1,⟨x.2.2.toArray⟩):=by
       unfold bT;rw[hbk.out,HG.out.1]
      rw[e];exact NV oH.out.j oH.out.r0 oH.out.n0
end
end
section
open Go.RowKit Go.Shelf
attribute [local go_sem] Oper.semAt_some
section
variable {W w w' w1:World} {x y:uX} {h b pb qb:Nat} {V V':mJ} {D:Dev} {p u p2 u2:Value}
theorem uY.up {c:Nat} (k:uY W w x pb h V D b p u) (hb:b<=c):uY W w x pb h V D c p u:=⟨k.vis,k.inv.up hb,k.pl,k.bel,k.back,k.len,k.half,k.at_⟩
end
section
variable {W:World}
end
end
open Sec (aj bn)
section
variable {h b:Nat} {V:mJ} {D:Dev} {M:List Sec} {J:qm}
theorem Xx (hf:Fine M) {N o k:Nat} {t:ByteArray} (hb:o+aj t.size<=M.length):Fine (nI ((aQ N t).take k) o M):=
 uH _ _ _ hf (fun s hs=>jU N t s (List.mem_of_mem_take hs)) (by rw[ou,jf];omega)
theorem RH (hf:Fine M) {N o:Nat} {t:ByteArray} (hb:o+aj t.size<=M.length):Fine (dW (aQ N t) o M):=
 uJ hf (jU N t) (by rw[jf];exact hb)
theorem aeA (I:JInv h J M):J.ay*h+h<=M.length/\(1-J.ay)*h+h<=M.length:=by
 have:=I.len;rcases I.ay with e | e<;>rw[e]<;>simp<;>omega
theorem ahk:(rU V D).2.2.M=D.M:=by
 unfold rU;split<;>exact CO _ D
theorem CU (hf:Fine D.M) (hb:(1-V.J.ay)*h+h<=D.M.length) (r t:ByteArray):Fine (dY h V D r t).2.2.M:=by
 unfold dY;rcases kJ (h:=h) (D:=D) (aV r V.J.next (kY V.chain t)) V.J with⟨_,e⟩ | ⟨hu,_,e⟩ | ⟨hu,_,e⟩<;>rw[e]
 ·exact hf
 ·exact Xx hf (by omega)
 ·exact RH hf (by omega)
theorem Vt (hf:Fine D.M) (hb:(1-V.J.ay)*h+h<=D.M.length) (r t:ByteArray):Fine (eY h V D r t).2.2.M:=by
 unfold eY;split
 ·exact hf
 ·split
  ·show Fine (D.slot (2,r)).2.M
   rw[rQ];exact hf
  ·have hr:=CU (D:=(D.slot (2,r)).2) (V:=V) (h:=h) (by rw[rQ];exact hf) (by rw[rQ];exact hb) r t;split
   ·rename_i V' D' e;rw[e] at hr;rw[ahk];exact hr
   ·rename_i e;rw[e] at hr;exact hr
   ·rename_i e;rw[e] at hr;dsimp only;rw[rQ];exact hr
theorem Vu (hc:Clean D.M) (P:List Int):(D.mount P).M=D.M:=mQ hc P
theorem jy.mount (I:jy h V D b) (P:List Int):jy h V (D.mount P) b:=
 ⟨⟨rfl,by show(-1:Int)<= -1/\(-1:Int)<=_;decide⟩,by rw[Vu I.CJ.inv.clean];exact I.CJ,I.dL,I.slots,I.root,I.read⟩
theorem jy.RD (I:jy h V D b):V.texts.length<=h:=by
 have h1:=I.CJ.inv.few;obtain⟨R,hR,_,_,e3⟩:=I.read;have h3:=sU hR;rw[e3] at h3;omega
theorem Zg {root:ByteArray} {i:Option ByteArray} {l:List ByteArray} (L:Lies h D b root i l) (hu:D.down=false/\D.left= -1) (hb:b<=255) (hs:Og h D root):
  ∃ V D',iR h D=(0,some V,D')/\V.root=root/\V.image=i/\V.texts=l/\jy h V D' b/\D'.left= -1/\D'.M=D.M:=by
 rcases Zo L ⟨hu.1,by rw[hu.2];decide⟩ hb hs with⟨V,D',e,e1,e2,e3,hi,hsm⟩ | ⟨D',_,_,h0,_⟩
 ·exact⟨V,D',e,e1,e2,e3,hi,(hsm.up hu.2).2,hsm.M⟩
 ·rw[hu.2] at h0;exact absurd h0 (by decide)
end
end Go.Proofs.YtpghocekofdpbaaGreatDoor
