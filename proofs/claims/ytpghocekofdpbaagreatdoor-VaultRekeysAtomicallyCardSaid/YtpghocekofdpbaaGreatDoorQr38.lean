import Derived.Test.YtpghocekofdpbaaGreatDoorQr21
import Derived.Test.YtpghocekofdpbaaGreatDoorQr20
set_option maxRecDepth 100000
set_option maxHeartbeats 4000000
namespace Go.Proofs.YtpghocekofdpbaaGreatDoor
open Go.RowKit Go.Shelf
attribute [local go_sem] Oper.semAt_some
section
open Sec (joinL oD KT tH)
def rowsOf (l:List ByteArray):dh:=l.map fun s=>s.data.toList
def adI (x:Nat×Nat×List UInt8):Array Value:= #[.int .i64 (x.1:Int),.agg #[.int .i64 (x.2.1:Int),.string ⟨x.2.2.toArray⟩]]
def lN (W:World) (g o c:Nat) (l:List ByteArray):Prop:=g<W.heap.size/\l.length<=c/\c<=maxLen/\∀ i t,l[i]? =some t->W.cell? ⟨g,o+i,none⟩=some (.string t)
theorem lN.below {W W':World} {g o c:Nat} {l:List ByteArray} (h:lN W g o c l) (hB:Below W.heap.size W W'):lN W' g o c l:=
 ⟨rY h.1 hB.size,h.2.1,h.2.2.1,fun i t ht=>(hB.cell (p:=⟨g,o+i,none⟩) h.1).trans (h.2.2.2 i t ht)⟩
theorem lN.strs {W:World} {g o c u:Nat} {l:List ByteArray} (h:lN W g o c l) (hu:u<l.length):tH W (.slice (some ⟨g,o+u,none⟩) (l.length-u) (c-u)) (l.drop u):=by
 obtain⟨h1,h2,h3,h4⟩:=h;refine⟨_,c-u,by rw[rX],by rw[rX];omega,by omega,fun _=>⟨g,o+u,rfl,h1,fun i t ht=>?_⟩⟩;rw[Nc] at ht;rw[Nat.add_assoc];exact h4 _ t ht
theorem KR (l:List ByteArray) (u:Nat):oD (l.drop u)=joinL ((rowsOf l).drop u):=by
 unfold oD rowsOf;rw[List.map_drop]
theorem TW (g o c n u:Nat) (hu:u<n) (hc:n<=c) (w:World):(Instr.slice 35 (.slice (some ⟨g,o,none⟩) n c) (some (.int .i64 (u:Int))) none none).run Tryz.prog w= .ok (.slice (some ⟨g,o+u,none⟩) (n-u) (c-u)) w:=by
 have e1:¬ n<u:=by omega
 have e2:¬ c<u:=by omega
 have e3:u<=n:=by omega
 have e4:¬ c=u:=by omega
 simp[go_sem,e3,e4]
def aaL (bb g o c:Nat) (l:List ByteArray) (_pre:List (Nat×Nat×List UInt8)) (W:World):Prop:=
 ak W bb 35 #[.slice (some ⟨g,o,none⟩) l.length c]/\lN W g o c l
theorem zT (m:Nat) (hm:1<=m) (bb g o c:Nat) (l:List ByteArray) (hl:l.length<=4096):
  PO Fence.wide m Tryz.prog 147 #[.pointer (some ⟨bb,0,none⟩)] adI (aaL bb g o c l) (fun pre x _=>(recs (rowsOf l))[pre.length]? =some x) (fun xs=>xs=recs (rowsOf l)):=by
 intro lv J Jx W hG hJ hJx hY h0;have HG:=zh hG;have HJ:=zh hJ;have HJx:=zh hJx;have HY:=zh hY;clear hG hJ hJx hY;have hlr:(rowsOf l).length=l.length:=lq ..;refine callsIn_of_wp Tryz.func147 rfl trivial ?_ rfl;simp only[Tryz.ntmps147,mG,AY,zag,Nat.reduceAdd,Nat.reduceSub,Array.replicate_succ,Array.replicate_zero,List.push_toArray,List.append_toArray,GI,List.cons_append];gi_wp2_with fail
 gi_loopw [3,4] (fun a b wr=>∃ (u la:Nat) (pre:List (Nat×Nat×List UInt8)),a= .int .i64 u/\b= .int .i64 la/\Hid (Path (rowsOf l) 0 0 pre u la)/\J pre wr) (fun a _ _=>l.length-(intOf a).toNat)
 case atStart=>exact⟨0,0,[],rfl,rfl,.nil _ _,h0⟩
 case round=>
  obtain⟨u,la,pre,rfl,rfl,hp,Jw⟩:=hrel;obtain⟨hbb,hrow⟩:=HG.out pre wr Jw;have c1:wr.cell? ⟨bb,0,none⟩=some (.slice (some ⟨g,o,none⟩) l.length c):=hbb.cell 0;have hul:u<=l.length:=by have:=Wq hp.out;rw[hlr] at this;omega
  by_cases hlt:u<l.length
  ·have hd1:decide (u<l.length)=true:=pW hlt;have hsl:=fun wx=>TW g o c l.length u hlt hrow.2.1 wx
   have hjn:=Sec.aaM (hrow.strs hlt);rw[KR] at hjn;have hus:=fun h=>oJ (l:=(rowsOf l).drop u) h
   rw[rX,hlr] at hus;have hra:Hid (recAt (rowsOf l) u la=if (joinL ((rowsOf l).drop u)).e=0/\la<(joinL ((rowsOf l).drop u)).number then some (u+(joinL ((rowsOf l).drop u)).used,(joinL ((rowsOf l).drop u)).number,(joinL ((rowsOf l).drop u)).text) else none):=by
    unfold Hid recAt;by_cases hc:(joinL ((rowsOf l).drop u)).e=0/\la<(joinL ((rowsOf l).drop u)).number
    ·rw[if_pos hc,if_pos ⟨by rw[hlr];exact hlt,hc⟩]
    ·rw[if_neg hc,if_neg (fun k=>hc k.2)]
   generalize joinL ((rowsOf l).drop u)=R at hjn hus hra;obtain⟨N,T,U,E⟩:=R;have HJn:=zh (callsIn_wide (n:=m-1) |>.2 hjn);unfold KT at HJn;dsimp only at hus hra HJn;clear hjn hrow hbb;by_cases he:E=0
   ·subst he;have agj:=hus rfl;by_cases hla:la<N
    ·obtain⟨z,hz⟩:∃ z,u+U=z:=⟨_,rfl⟩;have hx:recAt (rowsOf l) u la=some (z,N,T):=by rw[hra.out,if_pos ⟨rfl,hla⟩,hz]
     have hnx:=zh (KH hp.out hx);have hpn:=zh (uF hp.out hx);have dn:decide ((N:Int)<=(la:Int))=false:=dF (by omega);have dn':decide (N<=la)=false:=dF (by omega);have du:decide ((U:Int)<1)=false:=dF (by omega);have du':decide (U<1)=false:=dF (by omega);have hwu:wrap64 ((u:Int)+(U:Int))=(z:Int):=by rw[<-hz];exact xH (by omega)
     have Hz:=zh (And.intro hz agj);clear hz;clear hx hra hus agj hla;gi_wp2_with (refine⟨trivial,?_⟩;gi_at_call 148;refine HJn.out.mono ?_;rintro e w2 ⟨rfl,hB2⟩;obtain⟨fn,tmps,assign,body,hy,hR⟩:=HY.out pre (z,N,T) w2 (HJ.out pre wr w2 Jw hB2) hnx.out;have HR:=zh hR;clear hR;dsimp only[adI] at hy);refine HR.out.mono ?_;rintro e W' (⟨rfl,hJ'⟩ | ⟨rfl,hJ'⟩)
     ·gi_wp2
      go_roundw
      case rel=>exact⟨z,N,_,by go_num,rfl,hpn.out,hJ'⟩
      case measure=>have:=Hz.out;simp[intOf];omega
     ·gi_wp2
      (try simp only[Exit.inBlock,Exit.then])
      refine bU (results_none rfl _ _ _) rfl ?_;exact⟨⟨_,rfl⟩,.inr ⟨_,hJ'⟩⟩
    ·have hend:recAt (rowsOf l) u la=none:=by rw[hra.out,if_neg (fun k=>hla k.2)]
     have hre:=zh (xE hp.out hend);have dn:decide ((N:Int)<=(la:Int))=true:=pW (by omega);have dn':decide (N<=la)=true:=pW (by omega);clear hend hra hus agj hla;gi_wp2_with (refine⟨trivial,?_⟩;gi_at_call 148;refine HJn.out.mono ?_;rintro e w2 ⟨rfl,hB2⟩)
     (try simp only[Exit.inBlock,Exit.then])
     refine bU (results_none rfl _ _ _) rfl ?_;exact⟨⟨_,rfl⟩,.inl ⟨_,hre.out.symm,HJ.out pre wr w2 Jw hB2⟩⟩
   ·have hend:recAt (rowsOf l) u la=none:=by rw[hra.out,if_neg (fun k=>he k.1)]
    have hre:=zh (xE hp.out hend);have de:(E==0)=false:=by simpa using he
    have df:(E !=0)=true:=by simpa using he
    clear hend hra hus;gi_wp2_with (refine⟨trivial,?_⟩;gi_at_call 148;refine HJn.out.mono ?_;rintro e w2 ⟨rfl,hB2⟩)
    (try simp only[Exit.inBlock,Exit.then])
    refine bU (results_none rfl _ _ _) rfl ?_;exact⟨⟨_,rfl⟩,.inl ⟨_,hre.out.symm,HJ.out pre wr w2 Jw hB2⟩⟩
  ·have hd1:decide (u<l.length)=false:=dF hlt;have hend:recAt (rowsOf l) u la=none:=by
    unfold recAt;rw[if_neg (fun k=>hlt (by rw[<-hlr];exact k.1))]
   have hre:=xE hp.out hend;gi_wp2_with fail;go_end0;exact⟨⟨_,rfl⟩,.inl ⟨_,hre.symm,Jw⟩⟩
end
theorem Bz (w:World) (A:Option Addr) (n c:Nat):Calls Tryz.prog 107 #[.slice A n c] w fun e w'=>e= .returned (.func (.func 147) #[] #[.pointer (some ⟨w.heap.size,0,none⟩)])/\ak w' w.heap.size 35 #[.slice A n c]/\Below w.heap.size w w':=by
 go_enter Tryz.func107,Tryz.ntmps107;go_wp2_with fail;go_ret;exact⟨rfl,ak.new _ _ _,(bK _ _).alloc (aF _) _⟩
theorem xI:∀ (l:List (Nat×ByteArray)) (k:Nat) (e:Nat×ByteArray),l[k]? =some e->(dQ l)[k*2]? =some (.int .i64 (e.1:Int))/\(dQ l)[k*2+1]? =some (.string e.2)
 | [],k,e,h=>by simp at h
 | x::r,0,e,h=>by
  simp at h;subst h;exact⟨rfl,rfl⟩
 | x::r,k+1,e,h=>by
  have ih:=xI r k e (by simpa using h);have e1:dQ (x::r)= .int .i64 (x.1:Int):: .string x.2::dQ r:=rfl;rw[e1,show(k+1)*2=k*2+1+1 by omega,show k*2+1+1+1=(k*2+1)+1+1 by omega]
  simpa using ih
section
variable {w:World} {a:nP} {jb h:Nat} {J:qm} {v:Value}
theorem BA (kj:nU w jb a h J v) (hN:J.l.length<=1048576):
  Calls Tryz.prog 66 #[.pointer (some ⟨jb,0,none⟩)] w fun e w'=>∃ u,e= .returned u/\o8 w w' u (J.l.map Prod.snd):=by
 obtain⟨i0,hi,hz0,hz1,hz2⟩:=info_parts iw;obtain⟨L,hL⟩:∃ L,J.l=L:=⟨_,rfl⟩;have hrow:=kj.row;rw[hL] at hN hrow ⊢;obtain⟨A,c,rfl⟩:=Sec.aJ hrow;have c5:w.cell? ⟨jb,5,none⟩=some (.slice A L.length c):=kj.blk.cell 5;have Hr:=zh hrow;have Hjb:=zh kj.lt;clear kj hrow hL;go_enter Tryz.func66,Tryz.ntmps66;go_wp2_with fail;go_loopw [3,11] (fun u i wr=>∃ (k:Nat) (u0:Value),u0=u/\k<=L.length/\i= .int .i64 k/\wr.ownsRow w.heap.size 9 1 u0 k (strCells ((L.map Prod.snd).take k))/\(u0= .slice none 0 0 ↔ k=0)/\Below w.heap.size w wr) (fun _ i _=>L.length-(intOf i).toNat)
 case atStart=>exact⟨0,_,rfl,iT _,rfl,Ju _ _ _ _,by simp,bK _ _⟩
 case round=>
  obtain⟨k,u,rfl,hk,rfl,hown,hnil,hB⟩:=hrel;have hBs:=hB.size;have hwk:wrap64 ((k:Int)+1)=(k:Int)+1:=by unfold wrap64;omega
  by_cases hkl:k<L.length
  ·have hd1:decide (k<L.length)=true:=pW hkl;obtain⟨e,he⟩:∃ e,L[k]? =some e:=⟨_,jB hkl⟩;obtain⟨g,rfl⟩:∃ g,A=some ⟨g,0,none⟩:=by
    rcases Hr.out.2 with⟨_,h1⟩ | ⟨g,_,_,h0,_⟩
    ·omega
    ·cases h0;exact⟨g,rfl⟩
   obtain⟨q0,q1⟩:=xI L k e he;have hrw:=ownsRow_below Hr.out hB (aF _);have y0:wr.cell? ⟨g,k*2,none⟩=some (.int .i64 (e.1:Int)):=(World.ownsRow.cellAt hrw (k*2) (by omega)).trans q0;have y1:wr.cell? ⟨g,k*2+1,none⟩=some (.string e.2):=(World.ownsRow.cellAt hrw (k*2+1) (by omega)).trans q1;have hle:Hid (k+1<=maxLen):=by unfold Hid maxLen;omega
   have htk:Hid ((L.map Prod.snd).take (k+1)=(L.map Prod.snd).take k++ [e.2]):=by
    unfold Hid;rw[FD];simp[he]
   clear he q0 q1 hrw;go_wp2_with (at_builtin;refine wpList_append_own _ rfl _ _ 35 rfl w.heap.size 9 i0 _ 1 16 Tryz.underlying35 hi hz0 hz1 hz2 rfl (by decide) _ k (strCells ((L.map Prod.snd).take k)) rfl ((hown.alloc _).alloc _) ⟨wr.heap.size+1,0,none⟩ 1 1 [.string e.2] rfl rfl ?c1 ?c2 ?c3 ?c4 ?c5 ?_)
   case c1=>
    have:=gG (ak.new (wr.alloc (.cells #[.int .i64 (e.1:Int),.string e.2] 134)) 9 #[.string e.2]);rw[oz] at this;exact this
   case c2=>simp[Value.oneCell']
   case c3=>exact hle.out
   case c4=>omega
   case c5=>simp;omega
   intro v' w3 hown3 hg3 hn3;have hB3:Below w.heap.size w w3:=(((hB.alloc (by omega) _).alloc (by simp;omega) _)).grown hg3 (by simp;omega) (fun g e=>(hown.lt g e).1);have hnil3:v'= .slice none 0 0 ↔ k+1=0:=⟨fun e=>(hn3 e).elim,fun e=>by omega⟩;have hown4:w3.ownsRow w.heap.size 9 1 v' (k+1) (strCells ((L.map Prod.snd).take (k+1))):=by
    rw[htk.out,jE];exact hown3
   clear hg3 hn3 hown3 hown hnil;go_wp2_with fail;go_roundw
   case rel=>exact⟨k+1,_,rfl,by omega,by go_num,hown4,hnil3,hB3⟩
   case measure=>exact vM hkl
  ·obtain rfl:k=L.length:=by omega
   have hd1:decide (L.length<L.length)=false:=dF hkl;go_wp2_with fail;go_ret;have hn4:=hnil.trans (show L.length=0 ↔ L.map Prod.snd= [] by simp);rw[uo (by simp)] at hown;exact⟨_,rfl,by simpa using hown,hn4,hB⟩
end
section
variable {w:World} {a:nP} {jb h:Nat} {J:qm} {v:Value}
theorem vN (kj:nU w jb a h J v) (hN:J.l.length<=1048576):
  Calls Tryz.prog 67 #[.pointer (some ⟨jb,0,none⟩)] w fun e w'=>∃ u,e= .returned u/\adK w w' u (J.l.map Prod.fst):=by
 obtain⟨i0,hi,hz0,hz1,hz2⟩:=info_parts WB;obtain⟨L,hL⟩:∃ L,J.l=L:=⟨_,rfl⟩;have hrow:=kj.row;rw[hL] at hN hrow ⊢;obtain⟨A,c,rfl⟩:=Sec.aJ hrow;have c5:w.cell? ⟨jb,5,none⟩=some (.slice A L.length c):=kj.blk.cell 5;have Hr:=zh hrow;have Hjb:=zh kj.lt;clear kj hrow hL;go_enter Tryz.func67,Tryz.ntmps67;go_wp2_with fail;go_loopw [3,11] (fun u i wr=>∃ (k:Nat) (u0:Value),u0=u/\k<=L.length/\i= .int .i64 k/\wr.ownsRow w.heap.size 3 1 u0 k (intCells ((L.map Prod.fst).take k))/\(u0= .slice none 0 0 ↔ k=0)/\Below w.heap.size w wr) (fun _ i _=>L.length-(intOf i).toNat)
 case atStart=>exact⟨0,_,rfl,iT _,rfl,Ju _ _ _ _,by simp,bK _ _⟩
 case round=>
  obtain⟨k,u,rfl,hk,rfl,hown,hnil,hB⟩:=hrel;have hBs:=hB.size;have hwk:wrap64 ((k:Int)+1)=(k:Int)+1:=by unfold wrap64;omega
  by_cases hkl:k<L.length
  ·have hd1:decide (k<L.length)=true:=pW hkl;obtain⟨e,he⟩:∃ e,L[k]? =some e:=⟨_,jB hkl⟩;obtain⟨g,rfl⟩:∃ g,A=some ⟨g,0,none⟩:=by
    rcases Hr.out.2 with⟨_,h1⟩ | ⟨g,_,_,h0,_⟩
    ·omega
    ·cases h0;exact⟨g,rfl⟩
   obtain⟨q0,q1⟩:=xI L k e he;have hrw:=ownsRow_below Hr.out hB (aF _);have y0:wr.cell? ⟨g,k*2,none⟩=some (.int .i64 (e.1:Int)):=(World.ownsRow.cellAt hrw (k*2) (by omega)).trans q0;have y1:wr.cell? ⟨g,k*2+1,none⟩=some (.string e.2):=(World.ownsRow.cellAt hrw (k*2+1) (by omega)).trans q1;have hle:Hid (k+1<=maxLen):=by unfold Hid maxLen;omega
   have htk:Hid ((L.map Prod.fst).take (k+1)=(L.map Prod.fst).take k++ [e.1]):=by
    unfold Hid;rw[FD];simp[he]
   clear he q0 q1 hrw;go_wp2_with (at_builtin;refine wpList_append_own _ rfl _ _ 30 rfl w.heap.size 3 i0 _ 1 8 Tryz.underlying30 hi hz0 hz1 hz2 rfl (by decide) _ k (intCells ((L.map Prod.fst).take k)) rfl ((hown.alloc _).alloc _) ⟨wr.heap.size+1,0,none⟩ 1 1 [.int .i64 (e.1:Int)] rfl rfl ?c1 ?c2 ?c3 ?c4 ?c5 ?_)
   case c1=>
    have:=gG (ak.new (wr.alloc (.cells #[.int .i64 (e.1:Int),.string e.2] 134)) 3 #[.int .i64 (e.1:Int)]);rw[oz] at this;exact this
   case c2=>simp[Value.oneCell']
   case c3=>exact hle.out
   case c4=>omega
   case c5=>simp;omega
   intro v' w3 hown3 hg3 hn3;have hB3:Below w.heap.size w w3:=(((hB.alloc (by omega) _).alloc (by simp;omega) _)).grown hg3 (by simp;omega) (fun g e=>(hown.lt g e).1);have hnil3:v'= .slice none 0 0 ↔ k+1=0:=⟨fun e=>(hn3 e).elim,fun e=>by omega⟩;have hown4:w3.ownsRow w.heap.size 3 1 v' (k+1) (intCells ((L.map Prod.fst).take (k+1))):=by
    rw[htk.out,JQ];exact hown3
   clear hg3 hn3 hown3 hown hnil;go_wp2_with fail;go_roundw
   case rel=>exact⟨k+1,_,rfl,by omega,by go_num,hown4,hnil3,hB3⟩
   case measure=>exact vM hkl
  ·obtain rfl:k=L.length:=by omega
   have hd1:decide (L.length<L.length)=false:=dF hkl;go_wp2_with fail;go_ret;have hn4:=hnil.trans (show L.length=0 ↔ L.map Prod.fst= [] by simp);rw[uo (by simp)] at hown;exact⟨_,rfl,by simpa using hown,hn4,hB⟩
end
def xJ (x:Nat×Nat×List UInt8):Nat×ByteArray:=(x.2.1,⟨x.2.2.toArray⟩)
def vO (xs:List (Nat×Nat×List UInt8)):Nat:=(xs.getLast?.map fun x=>x.1).getD 0
theorem KU (B:dh):∀ (f u last:Nat),(uD f B u last).length<=f
 | 0,_,_=>aF _
 | f+1,u,last=>by
  show(match recAt B u last with | none=> [] | some x=>x::uD f B x.1 x.2.1).length<=f+1
  cases recAt B u last with
  | none=>exact iT _
  | some x=>exact Nat.succ_le_succ (KU B f _ _)
theorem aaN (B:dh):(recs B).length<=B.length+1:=KU B _ _ _
theorem EG (pre:List (Nat×Nat×List UInt8)) (x:Nat×Nat×List UInt8):vO (pre++ [x])=x.1:=by simp[vO]
theorem xK (pre:List (Nat×Nat×List UInt8)) (x:Nat×Nat×List UInt8):dQ ((pre++ [x]).map xJ)=dQ (pre.map xJ)++ [.int .i64 (x.2.1:Int),.string ⟨x.2.2.toArray⟩]:=by
 rw[Gh];unfold dQ;rw[List.flatMap_append];rfl
theorem fJ {W:World} {row:Option Nat} {k:Nat} {t:TypeId} {cs:Array Value} (hk:ak W k t cs) (hr:∀ r,row=some r->∃ o:Obj,W.heap[r]? =some o/\o.isCells=false):some k≠row:=by
 intro e;obtain⟨o,ho,hc⟩:=hr k e.symm;unfold ak at hk;rw[hk] at ho;cases ho;cases hc
theorem tJ {W W':World} {row:Option Nat} {base sz n:Nat} {e:TypeId} {v:Value} {cs:List Value} (h:W.ownsRow base e sz v n cs) (hg:W.grownBy W' row) (hr:∀ r,row=some r->∃ o:Obj,W.heap[r]? =some o/\o.isCells=false):W'.ownsRow base e sz v n cs:=by
 obtain⟨hl,⟨rfl,h0⟩ | ⟨g,cap,cur,rfl,h1,h2,h3⟩⟩:=h
 ·exact⟨hl,.inl ⟨rfl,h0⟩⟩
 ·have hk:ak W g e cur:=h2;exact⟨hl,.inr ⟨g,cap,cur,rfl,h1,hk.grown hg (fJ hk hr),h3⟩⟩
def Taking (w:World) (bx bb jb g o c:Nat) (l:List ByteArray) (f0 f1 f4 f6 f7:Value) (ay:Nat) (pre:List (Nat×Nat×List UInt8)) (W:World):Prop:=
 ak W bx 76 #[.pointer (some ⟨jb,0,none⟩)]/\ak W bb 35 #[.slice (some ⟨g,o,none⟩) l.length c]/\lN W g o c l/\
  (∃ u,ak W jb 126 #[f0,f1,.int .i64 ay,.int .i64 (vO pre:Int),f4,u,f6,f7]/\W.ownsRow w.heap.size 134 2 u pre.length (dQ (pre.map xJ)))/\w.grownBy W (some jb)
section
variable {w:World} {bx bb jb g o c ay:Nat} {l:List ByteArray} {f0 f1 f4 f6 f7:Value}
theorem mZ {W W':World} {row:Option Nat} (h:lN W g o c l) (hg:W.grownBy W' row) (hr:some g≠row):lN W' g o c l:=
 ⟨rY h.1 hg.size,h.2.1,h.2.2.1,fun i t ht=>hg.cell (h.2.2.2 i t ht) hr⟩
theorem KW {W:World} {row:Option Nat} (h:lN W g o c l) (h0:0<l.length) (hr:∀ r,row=some r->∃ o:Obj,W.heap[r]? =some o/\o.isCells=false):some g≠row:=by
 intro e;obtain⟨ob,h1,h2⟩:=hr g e.symm;have h3:=h.2.2.2 0 l[0] (jB h0);unfold World.cell? at h3;rw[h1] at h3;cases ob<;>first | (simp[Obj.isCells] at h2;done) | (simp at h3;done)
theorem GK {V w4:World} {u:Value} {k g2 cap z N n:Nat} {T:ByteArray} {cs:List Value} (hg:g<w.heap.size) (_hjb:jb<w.heap.size) (hbx:bx≠jb) (hbb:bb≠jb) (hgj:g≠jb) (hkj:k≠jb) (hok:u.ownBlock≠some k)
  (k1:ak V bx 76 #[.pointer (some ⟨jb,0,none⟩)]) (k2:ak V bb 35 #[.slice (some ⟨g,o,none⟩) l.length c]) (k3:lN V g o c l) (k4:ak V jb 126 #[f0,f1,.int .i64 ay,.int .i64 z,f4,u,f6,f7]) (k5:V.ownsRow w.heap.size 134 2 u n cs)
  (k6:w.grownBy V (some jb)) (kk:ak V k 134 #[.int .i64 N,.string T])
  (hown:w4.ownsRow w.heap.size 134 2 (.slice (some ⟨g2,0,none⟩) (n+1) cap) (n+1) (cs++ [.int .i64 N,.string T])) (hgrow:(V.drew.alloc (.cells #[.int .i64 N,.string T] 134)).grownBy w4 u.ownBlock):
  ak w4 jb 126 #[f0,f1,.int .i64 ay,.int .i64 z,f4,u,f6,f7]/\ak w4 bx 76 #[.pointer (some ⟨jb,0,none⟩)]/\ak w4 k 134 #[.int .i64 N,.string T]/\
  ak (w4.setCell ⟨jb,5,none⟩ (.slice (some ⟨g2,0,none⟩) (n+1) cap)) bx 76 #[.pointer (some ⟨jb,0,none⟩)]/\ak (w4.setCell ⟨jb,5,none⟩ (.slice (some ⟨g2,0,none⟩) (n+1) cap)) k 134 #[.int .i64 N,.string T]/\
  ak (w4.setCell ⟨jb,5,none⟩ (.slice (some ⟨g2,0,none⟩) (n+1) cap)) bb 35 #[.slice (some ⟨g,o,none⟩) l.length c]/\lN (w4.setCell ⟨jb,5,none⟩ (.slice (some ⟨g2,0,none⟩) (n+1) cap)) g o c l/\
  ak (w4.setCell ⟨jb,5,none⟩ (.slice (some ⟨g2,0,none⟩) (n+1) cap)) jb 126 #[f0,f1,.int .i64 ay,.int .i64 z,f4,.slice (some ⟨g2,0,none⟩) (n+1) cap,f6,f7]/\
  (w4.setCell ⟨jb,5,none⟩ (.slice (some ⟨g2,0,none⟩) (n+1) cap)).ownsRow w.heap.size 134 2 (.slice (some ⟨g2,0,none⟩) (n+1) cap) (n+1) (cs++ [.int .i64 N,.string T])/\
  w.grownBy (w4.setCell ⟨jb,5,none⟩ (.slice (some ⟨g2,0,none⟩) (n+1) cap)) (some jb)/\KeepsOthers V (w4.setCell ⟨jb,5,none⟩ (.slice (some ⟨g2,0,none⟩) (n+1) cap)):=by
 have gV:V.grownBy (V.drew.alloc (.cells #[.int .i64 N,.string T] 134)) u.ownBlock:=by
  have h:=World.grownBy_alloc V.drew (.cells #[.int .i64 N,.string T] 134) u.ownBlock;exact⟨h.os,h.tape,h.output,h.size,h.block⟩
 have gA:=gV.trans hgrow;have q1:=k1.grown gA (aA k5 k1 (by decide)).symm;have q2:=k2.grown gA (aA k5 k2 (by decide)).symm;have q3:=mZ k3 gA (fun e=>by have:=(k5.lt _ e.symm).1;omega);have q4:=k4.grown gA (aA k5 k4 (by decide)).symm;have qk:=kk.grown gA hok.symm;have gs:=au w4 jb 5 (.slice (some ⟨g2,0,none⟩) (n+1) cap);refine⟨q4,q1,qk,q1.grown gs (by simp;exact hbx),qk.grown gs (by simp;exact hkj),q2.grown gs (by simp;exact hbb),mZ q3 gs (by simp;exact hgj),q4.aB 5 _,hown.kept gs (.inr (aA hown q4 (by decide))),?_,?_⟩
 ·exact(k6.andThen gA (fun j e=> .inl (k5.lt j e).1)).trans gs
 ·refine(KeepsOthers.of_grownBy gA (fun j ob e ho=>?_)).trans (KeepsOthers.setCell _ _ _);obtain⟨hl,⟨rfl,h0⟩ | ⟨g3,cap3,cur,rfl,h1,h2,h3⟩⟩:=k5
  ·cases e
  ·cases e;rw[h2] at ho;cases ho;rfl
theorem TY (B:Nat) (hB:w.heap.size<=B) (h0:0<l.length):OwnFrom B (Taking w bx bb jb g o c l f0 f1 f4 f6 f7 ay):=by
 rintro pre W W' row ⟨h1,h2,h3,⟨u,h4,h5⟩,h6⟩ hg hr;have hr2:=fun r e=>(hr r e).2
 refine⟨h1.grown hg (fJ h1 hr2),h2.grown hg (fJ h2 hr2),mZ h3 hg (KW h3 h0 hr2),⟨u,h4.grown hg (fJ h4 hr2),tJ h5 hg hr2⟩,h6.andThen hg (fun j e=> .inl (by have:=(hr j e).1;omega))⟩
theorem KX {n0:Value} {u0:Value} {n1:Value} (hj:ak w jb 126 #[f0,f1,n0,n1,f4,u0,f6,f7]) (hrow:lN w g o c l) (h0:0<l.length) (hl:l.length<=4096) (hgj:g≠jb):
  Calls Tryz.prog 108 #[.pointer (some ⟨jb,0,none⟩),.int .i64 ay,.slice (some ⟨g,o,none⟩) l.length c] w fun e w'=>
   (∃ v,e= .returned v)/\∃ u,ak w' jb 126 #[f0,f1,.int .i64 ay,.int .i64 (vO (recs (rowsOf l)):Int),f4,u,f6,f7]/\w'.ownsRow w.heap.size 134 2 u (recs (rowsOf l)).length (dQ ((recs (rowsOf l)).map xJ))/\w.grownBy w' (some jb):=by
 obtain⟨i0,hi,hz0,hz1,hz2⟩:=info_parts WC;have hB1:Below w.heap.size w (w.alloc (.cells #[.pointer (some ⟨jb,0,none⟩)] 76)):=(bK _ w).alloc (aF _) _;have hx1:=ak.new w 76 #[.pointer (some ⟨jb,0,none⟩)];obtain⟨w1,hw1⟩:∃ w1,w.alloc (.cells #[.pointer (some ⟨jb,0,none⟩)] 76)=w1:=⟨_,rfl⟩;have hs1:w1.heap.size=w.heap.size+1:=by rw[<-hw1];simp
 rw[hw1] at hB1 hx1;have hj1:=hj.below hB1 hj.lt;have hrow1:=hrow.below hB1;have hjlt:=hj.lt;have hg1:w.grownBy w1 (some jb):=by rw[<-hw1];exact World.grownBy_alloc _ _ _
 refine(callsIn_wide (n:=4)).1 ?_;refine callsIn_of_wp_marks Tryz.func108 rfl trivial ?_ rfl;simp only[Tryz.ntmps108,mG,AY,zag,Nat.reduceAdd,Nat.reduceSub,Array.replicate_succ,Array.replicate_zero,List.push_toArray,List.append_toArray,GI,List.cons_append];have y0:w1.cell? ⟨w.heap.size,0,none⟩=some (.pointer (some ⟨jb,0,none⟩)):=hx1.cell 0;have y2:w1.cell? ⟨jb,2,none⟩=some n0:=hj1.cell 2;have y3:w1.cell? ⟨jb,3,none⟩=some n1:=hj1.cell 3;have y5:w1.cell? ⟨jb,5,none⟩=some u0:=hj1.cell 5;have z2:=hj1.frozen 2;have z3:=hj1.frozen 3;have z5:=hj1.frozen 5;have hne:jb≠w.heap.size:=by omega
 gi_wp2_with fail;refine wpIn_wide.2 ?_
 go_region_held3 (fun w'=>w'.cell? ⟨w.heap.size,0,none⟩=some (.pointer (some ⟨jb,0,none⟩))) (go_keep) (fail)
 have hj2:=(((hj1.aB 2 (.int .i64 (ay:Int))).aB 3 (.int .i64 0)).aB 5 (.slice none 0 0)).drew;have g2:=((au w1 jb 2 (.int .i64 (ay:Int))).trans (au _ jb 3 (.int .i64 0))).trans (au _ jb 5 (.slice none 0 0));have g3:w1.grownBy (((w1.setCell ⟨jb,2,none⟩ (.int .i64 (ay:Int))).setCell ⟨jb,3,none⟩ (.int .i64 0)).setCell ⟨jb,5,none⟩ (.slice none 0 0)).drew (some jb):=⟨g2.os,g2.tape,g2.output,g2.size,g2.block⟩;clear g2 y0 y2 y3 y5 z2 z3 z5;generalize (((w1.setCell ⟨jb,2,none⟩ (.int .i64 (ay:Int))).setCell ⟨jb,3,none⟩ (.int .i64 0)).setCell ⟨jb,5,none⟩ (.slice none 0 0)).drew=w2 at *;have hx2:ak w2 w.heap.size 76 #[.pointer (some ⟨jb,0,none⟩)]:=hx1.grown g3 (by simp;omega);have hrow2:=mZ hrow1 g3 (by simp;exact hgj);have hg2:w.grownBy w2 (some jb):=hg1.trans g3;have hs2:w.heap.size+1<=w2.heap.size:=by rw[<-hs1];exact g3.size
 gi_wp2_with (refine⟨trivial,?_⟩;gi_at_call 107;refine(callsIn_wide.2 (Bz w2 (some ⟨g,o,none⟩) l.length c)).mono ?_;rintro e w3 ⟨rfl,hb3,hB3⟩);have hle:w.heap.size<=w3.heap.size:=by have:=hB3.size;omega
 refine oG rfl (by decide) (gf:=147) (lb:= #[.pointer (some ⟨w2.heap.size,0,none⟩)]) rfl trivial (enters_of Tryz.func147 (by kernel_rfl) rfl)
  (zT 3 (by decide) w2.heap.size g o c l hl) (fun _=>rfl)
  (Taking w w.heap.size w2.heap.size jb g o c l f0 f1 f4 f6 f7 ay) (fun _ _ _=>False) (TY _ hle h0) (fun _ _ _ _ _ h _ _=>h)
  (fun pre W1 hI=>⟨hI.2.1,hI.2.2.1⟩) (fun pre x _ W W' row h hg hr=>h)
  ⟨hx2.below hB3 hx2.lt,hb3,hrow2.below hB3,⟨_,hj2.below hB3 hj2.lt,Ju _ _ _ _⟩,hg2.andThen (row':=none) ⟨hB3.os,hB3.tape,hB3.output,hB3.size,fun k hk _=>hB3.block k hk⟩ (fun j e=>by cases e)⟩
  (fun _ x a₁ W=>∃ (k:Nat) (cs:Array Value) (u:Value),ak W jb 126 cs/\cs[5]? =some u/\u.ownBlock≠some k/\a₁= { tmps:= #[.pointer (some ⟨jb,0,none⟩),.int .i64 ay,.slice (some ⟨g,o,none⟩) l.length c,.pointer (some ⟨w.heap.size,0,none⟩),undef,undef,.int .i64 (x.1:Int),.pointer (some ⟨k,0,none⟩),.pointer (some ⟨jb,0,none⟩),.pointer (some ⟨jb,0,none⟩),.pointer (some ⟨jb,0,none⟩),.int .i64 ay,.pointer (some ⟨jb,0,none⟩),.pointer (some ⟨jb,2,none⟩),.pointer (some ⟨jb,0,none⟩),.pointer (some ⟨jb,3,none⟩),.pointer (some ⟨jb,0,none⟩),.pointer (some ⟨jb,5,none⟩),.slice (some ⟨g,o,none⟩) l.length c,.func (.func 147) #[] #[.pointer (some ⟨w2.heap.size,0,none⟩)],.int .i64 (x.1:Int),.agg #[.int .i64 (x.2.1:Int),.string ⟨x.2.2.toArray⟩],undef,undef,undef,undef,undef,undef,undef,undef,undef,undef,undef,undef,undef,undef],defers:= [] }/\ak W k 134 #[.int .i64 (x.2.1:Int),.string ⟨x.2.2.toArray⟩]) ?has ?assign ?body ?done ?stop
 case has=>
  rintro pre x a₁ _ W W' row ⟨k,cs,u,hb,hu,hne,e,hk⟩ hg hr;exact⟨k,cs,u,hb.grown hg (fJ hb (fun r e=>(hr r e).2)),hu,hne,e,hk.grown hg (fJ hk (fun r e=>(hr r e).2))⟩
 case assign=>
  rintro lv pre ⟨z,N,T⟩ W K hW ⟨j1,j2,j3,⟨u,j4,j5⟩,j6⟩ hK;have HK:=zh hK;have hok:Hid (u.ownBlock≠some W.heap.size):=fun e=>by have:=(j5.lt _ e).2;omega
  have H4:=zh (j4.alloc (.cells #[.int .i64 (N:Int),.string ⟨T.toArray⟩] 134));clear hK j1 j2 j3 j4 j5 j6;dsimp only[adI]
  gi_wp2
  exact HK.out _ _ ⟨W.heap.size,_,u,H4.out,rfl,hok.out,rfl,ak.new _ _ _⟩ ((bK _ _).alloc (aF _) _)
 case body=>
  rintro lv pre ⟨z,N,T⟩ _ W hW ⟨j1,j2,j3,⟨u,j4,j5⟩,j6⟩ hnx ⟨k,cs,u',hcs,hu',hok,rfl,hk⟩;obtain rfl:u'=u:=by
   have e:Obj.cells cs 126=Obj.cells _ 126:=Option.some.inj (hcs.symm.trans j4);cases e;exact(Option.some.inj hu').symm
  have hlen:pre.length<(recs (rowsOf l)).length:=(List.getElem?_eq_some_iff.1 hnx).1;have hrl:=aaN (rowsOf l);have hlr:(rowsOf l).length=l.length:=lq ..;have hmx:Hid (pre.length+1<=maxLen/\pre.length<=4096):=by
   unfold Hid maxLen;omega
  have c0:W.cell? ⟨w.heap.size,0,none⟩=some (.pointer (some ⟨jb,0,none⟩)):=j1.cell 0;have c3:W.cell? ⟨jb,3,none⟩=some (.int .i64 (vO pre:Int)):=j4.cell 3;have f3:=j4.frozen 3;have hnk:jb≠k:=fun e=>j4.gY hk (by decide) e
  have k4:=j4.aB 3 (.int .i64 (z:Int));have k1:=j1.grown (au W jb 3 (.int .i64 (z:Int))) (by simp;omega);have k2:=j2.grown (au W jb 3 (.int .i64 (z:Int))) (by simp;omega);have k3:=mZ j3 (au W jb 3 (.int .i64 (z:Int))) (by simp;exact hgj);have k5:=j5.kept (au W jb 3 (.int .i64 (z:Int))) (.inr (aA j5 j4 (by decide)));have k6:=j6.trans (au W jb 3 (.int .i64 (z:Int)));have kk:=hk.grown (au W jb 3 (.int .i64 (z:Int))) (by simp;exact fun e=>hnk e.symm);have kK:=KeepsOthers.setCell W ⟨jb,3,none⟩ (.int .i64 (z:Int));dsimp only;gi_wp2_with fail;clear c0 c3 f3 j1 j2 j3 j4 j5 j6 hk hcs;generalize hV:W.setCell ⟨jb,3,none⟩ (.int .i64 (z:Int))=V at *;have x1:V.drew.cell? ⟨w.heap.size,0,none⟩=some (.pointer (some ⟨jb,0,none⟩)):=k1.drew.cell 0;have x2:V.drew.cell? ⟨k,0,none⟩=some (.int .i64 (N:Int)):=kk.drew.cell 0;have x3:V.drew.cell? ⟨k,1,none⟩=some (.string ⟨T.toArray⟩):=kk.drew.cell 1;have x5:V.drew.cell? ⟨jb,5,none⟩=some u':=k4.drew.cell 5;have kA:=k1.drew.alloc (.cells #[.int .i64 (N:Int),.string ⟨T.toArray⟩] 134);have kB:=kk.drew.alloc (.cells #[.int .i64 (N:Int),.string ⟨T.toArray⟩] 134);have hSA:(V.drew.alloc (.cells #[.int .i64 (N:Int),.string ⟨T.toArray⟩] 134)).cell? ⟨w.heap.size,0,none⟩=some (.pointer (some ⟨jb,0,none⟩))/\(V.drew.alloc (.cells #[.int .i64 (N:Int),.string ⟨T.toArray⟩] 134)).cell? ⟨k,0,none⟩=some (.int .i64 (N:Int))/\(V.drew.alloc (.cells #[.int .i64 (N:Int),.string ⟨T.toArray⟩] 134)).cell? ⟨k,1,none⟩=some (.string ⟨T.toArray⟩):=⟨kA.cell 0,kB.cell 0,kB.cell 1⟩;have x6:(V.alloc (.cells #[.int .i64 (N:Int),.string ⟨T.toArray⟩] 134)).drew.cell? ⟨jb,5,none⟩=some u':=(k4.drew.alloc (.cells #[.int .i64 (N:Int),.string ⟨T.toArray⟩] 134)).cell 5;have hkA:Hid ((V.drew.alloc (.cells #[.int .i64 (N:Int),.string ⟨T.toArray⟩] 134)).ownsRow w.heap.size 134 2 u' pre.length (dQ (pre.map xJ))):=(k5.drew).alloc _;have hsA:Hid (w.heap.size<=(V.drew.alloc (.cells #[.int .i64 (N:Int),.string ⟨T.toArray⟩] 134)).heap.size):=by
   have:=k6.size;unfold Hid;rw[oz];exact Nat.le_succ_of_le this
  have hnb:w2.heap.size≠jb:=by omega
  refine BD (S:=fun w'=>w'.cell? ⟨w.heap.size,0,none⟩=some (.pointer (some ⟨jb,0,none⟩))/\w'.cell? ⟨k,0,none⟩=some (.int .i64 (N:Int))/\w'.cell? ⟨k,1,none⟩=some (.string ⟨T.toArray⟩)) (by kernel_rfl) (by kernel_rfl) (by rintro⟨a,w,h⟩;exact h) ⟨x1,x2,x3⟩ (fun zs=>?_);refine' tk 0 rfl zs ?_;refine' tk 1 rfl zs ?_;refine' tk 2 rfl zs ?_;refine' tk 3 rfl zs ?_;refine' tk 5 rfl zs ?_;refine wpAnyH_ready (rs:= [4,6]) (by kernel_rfl) (by simp) ?_;refine AllReadyH.cons rfl (fun K hK=>?_) (AllReadyH.cons rfl (fun K hK=>?_) AllReadyH.nil)
  ·go_simp;refine hK.out _ _ zs (fun zs=>?_);clear hK K;try simp only[Act.put,zq]
   refine td 6 rfl (fun K hK=>?_);go_simp;refine hK.out _ _ hSA (fun zs=>?_);clear hK K;try simp only[Act.put,zq]
   refine td 7 rfl (fun K hK=>?_);refine step_append_lies _ (by rfl) _ _ _ (by rfl) w.heap.size 134 i0 _ 2 24 Tryz.underlying124 hi hz0 hz1 hz2 rfl (by omega) u' pre.length (dQ (pre.map xJ)) (by rfl) (hkA.out) ⟨V.heap.size,0,none⟩ 1 1 [.int .i64 (N:Int),.string ⟨T.toArray⟩] (by rfl) (by rfl) (fun j u hu=>World.news_of_block (heap_alloc_new V.drew _) j u hu) (by simp[Value.oneCell']) (by omega) hmx.out.1 (by have:=hmx.out.2;omega) hsA.out (V.heap.size+1) (by simp) ?_;intro g2 cap w4 hown4 hgrow4 _ _;obtain⟨p4,p1,pk,r1,rk,r2,r3,r4,r5,r6,r7⟩:=GK hrow.1 hjlt hne.symm hnb hgj hnk.symm hok k1 k2 k3 k4 k5 k6 kk hown4 hgrow4;have y5:w4.cell? ⟨jb,5,none⟩=some u':=p4.cell 5;have g5:=p4.frozen 5;refine hK.out _ _ ⟨p1.cell 0,pk.cell 0,pk.cell 1⟩ (fun zs=>?_);clear hK K hown4 hgrow4;try simp only[Act.put,zq]
   refine' tk 8 rfl zs ?_;refine' tk 9 rfl zs ?_;refine td 10 rfl (fun K hK=>?_);go_simp;refine hK.out _ _ ⟨r1.cell 0,rk.cell 0,rk.cell 1⟩ (fun zs=>?_);clear hK K;refine wZ (by kernel_rfl) ?_ _;refine⟨kK.trans r7,r1,r2,r3,⟨.slice (some ⟨g2,0,none⟩) (pre.length+1) cap,?_,?_⟩,r6⟩
   ·rw[EG];exact r4
   ·rw[xK,kM];exact r5
  ·go_simp;refine hK.out _ _ hSA (fun zs=>?_);clear hK K;try simp only[Act.put,zq]
   refine td 4 rfl (fun K hK=>?_);go_simp;refine hK.out _ _ zs (fun zs=>?_);clear hK K;try simp only[Act.put,zq]
   refine td 7 rfl (fun K hK=>?_);refine step_append_lies _ (by rfl) _ _ _ (by rfl) w.heap.size 134 i0 _ 2 24 Tryz.underlying124 hi hz0 hz1 hz2 rfl (by omega) u' pre.length (dQ (pre.map xJ)) (by rfl) (hkA.out) ⟨V.heap.size,0,none⟩ 1 1 [.int .i64 (N:Int),.string ⟨T.toArray⟩] (by rfl) (by rfl) (fun j u hu=>World.news_of_block (heap_alloc_new V.drew _) j u hu) (by simp[Value.oneCell']) (by omega) hmx.out.1 (by have:=hmx.out.2;omega) hsA.out (V.heap.size+1) (by simp) ?_;intro g2 cap w4 hown4 hgrow4 _ _;obtain⟨p4,p1,pk,r1,rk,r2,r3,r4,r5,r6,r7⟩:=GK hrow.1 hjlt hne.symm hnb hgj hnk.symm hok k1 k2 k3 k4 k5 k6 kk hown4 hgrow4;have y5:w4.cell? ⟨jb,5,none⟩=some u':=p4.cell 5;have g5:=p4.frozen 5;refine hK.out _ _ ⟨p1.cell 0,pk.cell 0,pk.cell 1⟩ (fun zs=>?_);clear hK K hown4 hgrow4;try simp only[Act.put,zq]
   refine' tk 8 rfl zs ?_;refine' tk 9 rfl zs ?_;refine td 10 rfl (fun K hK=>?_);go_simp;refine hK.out _ _ ⟨r1.cell 0,rk.cell 0,rk.cell 1⟩ (fun zs=>?_);clear hK K;refine wZ (by kernel_rfl) ?_ _;refine⟨kK.trans r7,r1,r2,r3,⟨.slice (some ⟨g2,0,none⟩) (pre.length+1) cap,?_,?_⟩,r6⟩
   ·rw[EG];exact r4
   ·rw[xK,kM];exact r5
 case done=>
  rintro E xs W hE hxs ⟨j1,j2,j3,⟨u,j4,j5⟩,j6⟩ hK
  gi_wp2
  refine⟨by simp,.inl ⟨_,_,rfl,run_takeDeferred hK,?_⟩⟩;have hgp:=grownBy_putObj' W E (.deferred none);have hrr:∀ r,some E=some r->∃ o:Obj,W.heap[r]? =some o/\o.isCells=false:=fun r e=>by cases e;exact⟨_,hK,rfl⟩
  subst hxs;exact⟨_,results_none rfl _ _ _,⟨_,rfl⟩,_,j4.grown hgp (fJ j4 hrr),tJ j5 hgp hrr,j6.andThen hgp (fun j e=>by cases e;exact .inl (by omega))⟩
 case stop=>
  rintro E c pre W hE hx;exact hx.elim
end
section
variable {w:World} {ab jc jb g o c h ay:Nat} {l:List ByteArray}
theorem Ak (g o c n u m:Nat) (hu:u<m) (hm:m<=n) (hc:n<=c) (w:World):(Instr.slice 35 (.slice (some ⟨g,o,none⟩) n c) (some (.int .i64 (u:Int))) (some (.int .i64 (m:Int))) none).run Tryz.prog w= .ok (.slice (some ⟨g,o+u,none⟩) (m-u) (c-u)) w:=by
 have e1:¬ m<u:=by omega
 have e2:¬ c<m:=by omega
 have e3:u<=m:=by omega
 have e4:¬ c=u:=by omega
 have e5:¬ c<u:=by omega
 have e6:m<=c:=by omega
 simp[go_sem,e3,e4,e6]
theorem lN.part {W:World} (hr:lN W g o c l) (u m:Nat) (hm:u+m<=l.length):lN W g (o+u) (c-u) ((l.drop u).take m):=by
 obtain⟨h1,h2,h3,h4⟩:=hr;have hlen:((l.drop u).take m).length=m:=by simp;omega
 refine⟨h1,by omega,by omega,fun i t ht=>?_⟩;have hi:i<m:=by have:=(List.getElem?_eq_some_iff.1 ht).1;omega
 rw[List.getElem?_take,if_pos hi,Nc] at ht;rw[Nat.add_assoc];exact h4 _ t ht
def Found (w:World) (r:Nat) (B:dh) (c:Code) (pre:List (Nat×Nat×List UInt8)) (W:World):Prop:=
 c= .ret/\ak W r 3 #[.int .i64 (eu B:Int)]/\Below w.heap.size w W/\pre=pre
def Finding (w:World) (r bb g o c:Nat) (l:List ByteArray) (pre:List (Nat×Nat×List UInt8)) (W:World):Prop:=
 pre= []/\ak W bb 35 #[.slice (some ⟨g,o,none⟩) l.length c]/\lN W g o c l/\ak W r 3 #[.int .i64 0]/\Below w.heap.size w W
theorem yT {W W':World} {row:Option Nat} {B:Nat} (h:Below w.heap.size w W) (hB:w.heap.size<=B) (hg:W.grownBy W' row) (hr:∀ r,row=some r->B<=r):Below w.heap.size w W':=
 h.grown hg h.size (fun g e=>by have:=hr g e;omega)
theorem PS {r bb:Nat} (B:Nat) (hB:w.heap.size<=B) (h0:0<l.length):OwnFrom B (Finding w r bb g o c l):=by
 rintro pre W W' row ⟨h1,h2,h3,h4,h5⟩ hg hr;have hr2:=fun r e=>(hr r e).2
 exact⟨h1,h2.grown hg (fJ h2 hr2),mZ h3 hg (KW h3 h0 hr2),h4.grown hg (fJ h4 hr2),yT h5 hB hg (fun r e=>(hr r e).1)⟩
theorem Yj {r:Nat} {Bk:dh} {cd:Code} (B:Nat) (hB:w.heap.size<=B):OwnFrom B (Found w r Bk cd):=by
 rintro pre W W' row ⟨h1,h4,h5,h6⟩ hg hr;have hr2:=fun r e=>(hr r e).2
 exact⟨h1,h4.grown hg (fJ h4 hr2),yT h5 hB hg (fun r e=>(hr r e).1),h6⟩
theorem EH {fn:Func} {p:Tmp} (h:fn.results= #[.cell p 3]) (tmps:Array Value) (w:World) (g:Nat) (v:Value) (hp:tmps.getD p undef= .pointer (some ⟨g,0,none⟩)) (hc:w.cell? ⟨g,0,none⟩=some v):
  (results fn tmps).run Tryz.prog w= .ok v w:=by
 have hp':tmps[p]?.getD undef= .pointer (some ⟨g,0,none⟩):=by simpa using hp
 simp[results,h,hp',loadVar,asAddr,go_sem,hc]
theorem GL (ha:ak w ab 35 #[.slice (some ⟨g,o,none⟩) l.length c]) (hjc:ak w jc 76 #[.pointer (some ⟨jb,0,none⟩)]) (hjb:jb<w.heap.size) (hj1:w.cell? ⟨jb,1,none⟩=some (.int .i64 (h:Int))) (hrow:lN w g o c l) (hbk:ay<=1) (hl:l.length=2*h) (hh:1<=h/\h<=2048):
  Calls Tryz.prog 106 #[.int .i64 (ay:Int),.pointer (some ⟨ab,0,none⟩),.pointer (some ⟨jc,0,none⟩)] w fun e w'=>
   e= .returned (.int .i64 (eu (rowsOf ((l.drop (ay*h)).take h)):Int))/\Below w.heap.size w w':=by
 obtain⟨lo,hlo⟩:∃ lo,ay*h=lo:=⟨_,rfl⟩;obtain⟨hi,hhi⟩:∃ hi,(ay+1)*h=hi:=⟨_,rfl⟩;have hlh:hi=lo+h:=by rw[<-hhi,<-hlo,Nat.add_mul,Nat.one_mul]
 have hlo2:lo<=h:=by
  rw[<-hlo];have:=Nat.mul_le_mul_right h hbk;omega
 have hpart:=hrow.part lo h (by omega);have hlp:((l.drop lo).take h).length=h:=by simp;omega
 have hB1:Below w.heap.size w (w.alloc (.cells #[.int .i64 0] 3)):=(bK _ w).alloc (aF _) _;have hx1:=ak.new w 3 #[.int .i64 0];obtain⟨w1,hw1⟩:∃ w1,w.alloc (.cells #[.int .i64 0] 3)=w1:=⟨_,rfl⟩;have hs1:w1.heap.size=w.heap.size+1:=by rw[<-hw1];simp
 rw[hw1] at hB1 hx1;have y0:w1.cell? ⟨ab,0,none⟩=some (.slice (some ⟨g,o,none⟩) l.length c):=(ha.below hB1 ha.lt).cell 0;have y1:w1.cell? ⟨jc,0,none⟩=some (.pointer (some ⟨jb,0,none⟩)):=(hjc.below hB1 hjc.lt).cell 0;have y2:w1.cell? ⟨jb,1,none⟩=some (.int .i64 (h:Int)):=(hB1.cell (p:=⟨jb,1,none⟩) hjb).trans hj1;have hsl:=fun wx=>Ak g o c l.length lo hi (by omega) (by omega) hrow.2.1 wx
 have hp1:=hpart.below hB1;have e0:∀ x:Int,IntKind.i64.wrap x=wrap64 x:=fun x=>by rw[IntKind.wrap_i64,wrap64]
 have n0:ab<w1.heap.size:=by have:=ha.lt;omega
 have n1:jc<w1.heap.size:=by have:=hjc.lt;omega
 have n2:jb<w1.heap.size:=by omega
 have hml:hi-lo=h:=by omega
 have big:∀ n:Nat,n<=8192->wrap64 (n:Int)=(n:Int):=fun n hn=>wrap_small (fU hn (by decide))
 have hlo3:lo<=8192:=by omega
 have hhi3:hi<=8192:=by omega
 have ai2:ay+1<=8192:=by omega
 have ai3:wrap64 ((ay:Int)+1)=((ay+1:Nat):Int):=big (ay+1) ai2;have hm1:(ay:Int)*(h:Int)=(lo:Int):=by rw[<-hlo];exact(Int.natCast_mul ay h).symm
 have hm2:((ay+1:Nat):Int)*(h:Int)=(hi:Int):=by rw[<-hhi];exact(Int.natCast_mul (ay+1) h).symm
 have q1:wrap64 ((ay:Int)*(h:Int))=(lo:Int):=by rw[hm1];exact big lo hlo3
 have q2:wrap64 (((ay+1:Nat):Int)*(h:Int))=(hi:Int):=by rw[hm2];exact big hi hhi3
 have q3:IntKind.i64.wrap ((ay:Int)*(h:Int))=(lo:Int):=by rw[e0];exact q1
 have q4:IntKind.i64.wrap (IntKind.i64.wrap ((ay:Int)+1)*(h:Int))=(hi:Int):=by rw[e0,e0,ai3];exact q2
 rw[hlo];rw[hml] at hsl;have Hh:=zh hh;have Hlp:=zh hlp;clear big hlo3 hhi3 ai2 hm1 hm2 e0 hlo hhi hlh hlo2 ha hjc hj1 hrow hbk hl hpart hlp hml hh;generalize (l.drop lo).take h=L at *;refine(callsIn_wide (n:=4)).1 ?_;refine callsIn_of_wp_marks Tryz.func106 rfl trivial ?_ rfl;simp only[Tryz.ntmps106,mG,AY,zag,Nat.reduceAdd,Nat.reduceSub,Array.replicate_succ,Array.replicate_zero,List.push_toArray,List.append_toArray,GI,List.cons_append];gi_wp2_with fail;refine wpIn_wide.2 ?_
 go_region_held3 (fun w'=>w'.cell? ⟨ab,0,none⟩=some (.slice (some ⟨g,o,none⟩) l.length c)/\w'.cell? ⟨jc,0,none⟩=some (.pointer (some ⟨jb,0,none⟩))/\w'.cell? ⟨jb,1,none⟩=some (.int .i64 (h:Int))) (go_keep)
  (first | (go_at_call 107;refine(Bz w1.drew (some ⟨g,o+lo,none⟩) h (c-lo)).mono ?_;rintro e w3 ⟨rfl,hb3,hB3⟩;have v0:=(hB3.cell (p:=⟨ab,0,none⟩) n0).trans y0;have v1:=(hB3.cell (p:=⟨jc,0,none⟩) n1).trans y1;have v2:=(hB3.cell (p:=⟨jb,1,none⟩) n2).trans y2))
 have hs2:w1.drew.heap.size=w.heap.size+1:=hs1;rw[hs2] at hb3 hB3;have hBw:Below w.heap.size w w3:=hB1.drew.trans (hB3.mono (wW _));have ai4:Below w1.heap.size w1 w3:=by
  rw[hs1];exact⟨hB3.os,hB3.tape,hB3.output,hB3.size,hB3.block⟩
 have hx3:ak w3 w.heap.size 3 #[.int .i64 0]:=hx1.below ai4 (by omega);have hp3:lN w3 g (o+lo) (c-lo) L:=hp1.below ai4;clear hsl v0 v1 v2 y0 y1 y2 n0 n1 n2 ai3 q1 q2 q3 q4;gi_wp2_with fail;have hle:w.heap.size<=w3.heap.size:=hBw.size;refine oG rfl (by decide) (gf:=147) (lb:= #[.pointer (some ⟨w.heap.size+1,0,none⟩)]) rfl trivial (enters_of Tryz.func147 (by kernel_rfl) rfl)
  (zT 3 (by decide) (w.heap.size+1) g (o+lo) (c-lo) L (by have:=Hlp.out;have:=Hh.out;omega)) (fun _=>rfl)
  (Finding w w.heap.size (w.heap.size+1) g (o+lo) (c-lo) L) (Found w w.heap.size (rowsOf L)) (PS _ hle (by have:=Hlp.out;have:=Hh.out;omega)) (fun _=>Yj _ hle)
  (fun pre W1 hI=>⟨hI.2.1,hI.2.2.1⟩) (fun pre x _ W W' row h hg hr=>h)
  ⟨rfl,by rw[Hlp.out];exact hb3,hp3,hx3,hBw⟩
  (fun _ x a₁ W=>∃ (k:Nat),a₁= { tmps:= #[.int .i64 (ay:Int),.pointer (some ⟨ab,0,none⟩),.pointer (some ⟨jc,0,none⟩),undef,.pointer (some ⟨w.heap.size,0,none⟩),undef,.pointer (some ⟨k,0,none⟩),.slice (some ⟨g,o,none⟩) l.length c,.int .i64 (ay:Int),.pointer (some ⟨jb,0,none⟩),.pointer (some ⟨jb,0,none⟩),.pointer (some ⟨jb,1,none⟩),.int .i64 (h:Int),.int .i64 (lo:Int),.int .i64 (ay:Int),.int .i64 (wrap64 ((ay:Int)+1)),.pointer (some ⟨jb,0,none⟩),.pointer (some ⟨jb,0,none⟩),.pointer (some ⟨jb,1,none⟩),.int .i64 (h:Int),.int .i64 (hi:Int),.slice (some ⟨g,o+lo,none⟩) h (c-lo),.func (.func 147) #[] #[.pointer (some ⟨w.heap.size+1,0,none⟩)],.int .i64 (x.1:Int),.agg #[.int .i64 (x.2.1:Int),.string ⟨x.2.2.toArray⟩],undef,undef],defers:= [] }/\ak W k 134 #[.int .i64 (x.2.1:Int),.string ⟨x.2.2.toArray⟩]) ?has ?assign ?body ?done ?stop
 case has=>
  rintro pre x a₁ _ W W' row ⟨k,e,hk⟩ hg hr;exact⟨k,e,hk.grown hg (fJ hk (fun r e=>(hr r e).2))⟩
 case assign=>
  rintro lv pre ⟨z,N,T⟩ W K hW _ hK;have HK:=zh hK;clear hK;dsimp only[adI]
  gi_wp2
  exact HK.out _ _ ⟨W.heap.size,rfl,ak.new _ _ _⟩ ((bK _ _).alloc (aF _) _)
 case body=>
  rintro lv pre ⟨z,N,T⟩ _ W hW ⟨rfl,j2,j3,j4,j5⟩ hnx ⟨k,rfl,hk⟩;have hf:eu (rowsOf L)=N:=by
   unfold eu;rw[List.head?_eq_getElem?];have e:(recs (rowsOf L))[0]? =some (z,N,T):=hnx;rw[e];rfl
  have c0:W.cell? ⟨w.heap.size,0,none⟩=some (.int .i64 0):=j4.cell 0;have f0:=j4.frozen 0;have c1:W.cell? ⟨k,0,none⟩=some (.int .i64 (N:Int)):=hk.cell 0;dsimp only
  gi_wp2
  exact⟨KeepsOthers.setCell _ _ _,rfl,by rw[hf];exact j4.aB 0 _,j5.setCell (p:=⟨w.heap.size,0,none⟩) (aF _) _,rfl⟩
 case done=>
  rintro E xs W hE hxs ⟨rfl,j2,j3,j4,j5⟩ hK;have hf:eu (rowsOf L)=0:=by
   unfold eu;have e:recs (rowsOf L)= []:=hxs.symm;rw[e];rfl
  have c0:W.cell? ⟨w.heap.size,0,none⟩=some (.int .i64 0):=j4.cell 0;have f0:=j4.frozen 0
  gi_wp2
  have hK2:=(KeepsOthers.setCell W ⟨w.heap.size,0,none⟩ (.int .i64 0)).same E _ hK rfl;refine⟨by simp,.inl ⟨_,_,rfl,run_takeDeferred hK2,?_⟩⟩;have q2:=j4.aB 0 (.int .i64 0);have hgp:=grownBy_putObj' (W.setCell ⟨w.heap.size,0,none⟩ (.int .i64 0)) E (.deferred none);have hrr:∀ r,some E=some r->∃ o:Obj,(W.setCell ⟨w.heap.size,0,none⟩ (.int .i64 0)).heap[r]? =some o/\o.isCells=false:=fun r e=>by cases e;exact⟨_,hK2,rfl⟩
  refine⟨_,EH rfl _ _ w.heap.size _ rfl ((q2.grown hgp (fJ q2 hrr)).cell 0),by rw[hf];rfl,yT (j5.setCell (p:=⟨w.heap.size,0,none⟩) (aF _) _) (aF _) hgp (fun r e=>by cases e;omega)⟩
 case stop=>
  rintro E _ pre W hE ⟨rfl,j4,j5,_⟩ hK
  gi_wp2
  refine⟨by simp,.inl ⟨_,_,rfl,run_takeDeferred hK,?_⟩⟩;have hgp:=grownBy_putObj' W E (.deferred none);have hrr:∀ r,some E=some r->∃ o:Obj,W.heap[r]? =some o/\o.isCells=false:=fun r e=>by cases e;exact⟨_,hK,rfl⟩
  exact⟨_,EH rfl _ _ w.heap.size _ rfl ((j4.grown hgp (fJ j4 hrr)).cell 0),rfl,yT j5 (aF _) hgp (fun r e=>by cases e;omega)⟩
end
end Go.Proofs.YtpghocekofdpbaaGreatDoor
