import Derived.Test.YtpghocekofdpbaaGreatDoorQr15
namespace Go.Proofs.YtpghocekofdpbaaGreatDoor
open Sec (iF eH aj bn joinL dw gJ bQ jJ fZ get_put adM xw je uG oK jd Yd KI qK)
structure Zl (T T':dh) (o:Nat) (P:dh):Prop where
 len:T'.length=T.length
 at_:∀ (i:Nat) (s:List UInt8),T'[i]? =some s->T[i]? =some s\/(∃ k,i=o+k/\P[k]? =some s)\/dw s=none
 out:∀ i,i<o\/o+P.length<=i->T'[i]? =T[i]?
theorem MF {T T':dh} {o N:Nat} {t:List UInt8} (h:Zl T T' o (iF N t)) (hN:1<=N/\N<=bn) (ht:t.length<=8000) (hu:Under T N) (b hh u:Nat) (hb:b+hh<=T.length)
  (hj:(joinL (aC T' b hh u)).e=0):
  ((joinL (aC T' b hh u)).number<N/\joinL (aC T b hh u)=joinL (aC T' b hh u))\/
  ((joinL (aC T' b hh u)).number=N/\b+u=o/\∀ k,k<aj t.length->T'[o+k]? =(iF N t)[k]?):=by
 have hl':(aC T' b hh u).length=hh-u:=fD _ _ _ _ (by rw[h.len];exact hb);have hus:=oJ hj;rw[hl'] at hus;have hget:∀ i,i<(joinL (aC T' b hh u)).used->(aC T' b hh u)[i]? =T'[b+u+i]? :=fun i hi=>fO _ _ _ _ _ (by omega)
 have hparts:=fun i hi=>Aj hj i hi
 have hpk:∀ (k:Nat) (s:List UInt8) (p:xw),(iF N t)[k]? =some s->dw s=some p->p.number=N/\p.part=k/\k<aj t.length/\p.left=t.length-44*k:=by
  intro k s p hk hp;have hkl:k<aj t.length:=by
   have:=(List.getElem?_eq_some_iff.1 hk).1;rw[je] at this;exact this
  rw[uG N t k hkl] at hk;cases hk;rw[qK N t k hN.1 hN.2 ht hkl] at hp;cases hp;exact⟨rfl,rfl,hkl,rfl⟩
 by_cases hn:(joinL (aC T' b hh u)).number=N
 ·right
  have hpos:∀ i,i<(joinL (aC T' b hh u)).used->b+u=o/\T'[o+i]? =(iF N t)[i]? :=by
   intro i hi;obtain⟨s,p,hs,hp,p1,p2⟩:=hparts i hi;rw[hget i hi] at hs;rcases h.at_ _ s hs with h1 | ⟨k,hk,h2⟩ | h3
   ·have:=hu _ s p h1 hp;omega
   ·obtain⟨_,q2,_⟩:=hpk k s p h2 hp;have hki:k=i:=by omega
    subst hki;have ho:b+u=o:=by omega
    exact⟨ho,by rw[<-ho,hs,h2]⟩
   ·rw[h3] at hp;cases hp
  obtain⟨ho,_⟩:=hpos 0 (by omega);refine⟨hn,ho,fun k hk=>?_⟩;obtain⟨s0,p0,t0,g1,_,g2,g3,_,_,ge⟩:=mY hj;have g1':(aC T' b hh u)[0]? =some s0:=g1;rw[hget 0 (by omega)] at g1';have hleft:p0.left=t.length:=by
   rcases h.at_ _ s0 g1' with h1 | ⟨k,hk,h2⟩ | h3
   ·have:=hu _ s0 p0 h1 g2;rw[ge] at hn;dsimp only at hn;omega
   ·obtain⟨_,q2,_,q4⟩:=hpk k s0 p0 h2 g2;have:k=0:=by omega
    subst this;rw[q4];omega
   ·rw[h3] at g2;cases g2
  have aiY:(joinL (aC T' b hh u)).used=aj t.length:=by rw[ge,<-hleft]
  exact(hpos k (by omega)).2
 ·left
  have hsame:∀ i,i<(joinL (aC T' b hh u)).used->(aC T b hh u)[i]? =(aC T' b hh u)[i]? :=by
   intro i hi;obtain⟨s,p,hs,hp,p1,p2⟩:=hparts i hi;rw[hget i hi] at hs;rw[hget i hi,fO _ _ _ _ _ (by omega),hs];rcases h.at_ _ s hs with h1 | ⟨k,hk,h2⟩ | h3
   ·exact h1
   ·obtain⟨q1,_⟩:=hpk k s p h2 hp;exact absurd (p1.symm.trans q1) hn
   ·rw[h3] at hp;cases hp
  have hlt:(joinL (aC T' b hh u)).number<N:=by
   obtain⟨s,p,hs,hp,p1,p2⟩:=hparts 0 (by omega);rw[hget 0 (by omega)] at hs;rcases h.at_ _ s hs with h1 | ⟨k,hk,h2⟩ | h3
   ·have:=hu _ s p h1 hp;omega
   ·obtain⟨q1,_⟩:=hpk k s p h2 hp;exact absurd (p1.symm.trans q1) hn
   ·rw[h3] at hp;cases hp
  exact⟨hlt,yN hj hsame⟩
theorem wK {T T':dh} {o N:Nat} {t:List UInt8} (h:Zl T T' o (iF N t)) (hN:1<=N/\N<=bn) (ht:t.length<=8000) (hu:Under T N):Under T' (N+1):=by
 intro i s p hs hp;rcases h.at_ i s hs with h1 | ⟨k,_,h2⟩ | h3
 ·have:=hu i s p h1 hp;omega
 ·have hkl:k<aj t.length:=by
   have:=(List.getElem?_eq_some_iff.1 h2).1;rw[je] at this;exact this
  rw[uG N t k hkl] at h2;cases h2;rw[qK N t k hN.1 hN.2 ht hkl] at hp;cases hp;show N<N+1
  omega
 ·rw[h3] at hp;cases hp
section
variable {h:Nat} {J:qm} {M M':List Sec} {t:ByteArray}
theorem zD {o N:Nat} (I:JInv h J M) (hp:Zl (aP M) (aP M') o (iF N t.data.toList)) (hb:o+aj t.size<=2*h):∀ (i:Nat) (s:List UInt8),2*h<=i->(aP M')[i]? =some s->dw s=none:=by
 intro i s hi hs;rw[hp.out i (.inr (by rw[je];show o+aj t.size<=i;omega))] at hs;exact I.rest i s hi hs
theorem Oj (I:JInv h J M) (hN:J.next<=bn) (ht:t.size<=8000) (hr:J.used+aj t.size<=h) (hf:Fine M') (hcl:Clean M') (hp:Zl (aP M) (aP M') (J.ay*h+J.used) (iF J.next t.data.toList)):
  JInv h { J with next:=J.next+1 } M'\/JInv h ⟨J.ay,J.used+aj t.size,J.next+1,J.l++ [(J.next,t)],false⟩ M':=by
 have hc:=jd t.size;obtain⟨b1,b2⟩:=I.ru;have hML:M'.length=M.length:=by have:=hp.len;rwa [eG,eG] at this
 have hr3:J.ay*h+J.used+aj t.size<=2*h:=by
  rcases I.ay with e | e<;>rw[e]<;>omega
 have hNN:1<=J.next/\J.next<=bn:=⟨I.next,hN⟩;have pz:=fun(b u:Nat) (hbb:b+h<=(aP M).length)=>MF hp hNN ht I.under b h u hbb
 obtain⟨xs,xC,hxs⟩:=I.path;have hT:J.ay*h+h<=(aP M).length:=by rw[eG];exact b1
 have hT2:(1-J.ay)*h+h<=(aP M).length:=by rw[eG];exact b2
 have hT':J.ay*h+h<=(aP M').length:=by rw[hp.len];exact hT
 have hlen:(aC (aP M') (J.ay*h) h 0).length=(aC (aP M) (J.ay*h) h 0).length:=by rw[fD _ _ _ _ hT',fD _ _ _ _ hT]
 have hkeep:∀ i,i<J.used->(aC (aP M') (J.ay*h) h 0)[i]? =(aC (aP M) (J.ay*h) h 0)[i]? :=by
  intro i hi;have:=I.used;rw[fO _ _ _ _ _ (by omega),fO _ _ _ _ _ (by omega)];exact hp.out _ (.inl (by omega))
 have Gx:=yO hlen xC hkeep;have TU:¬ (1-J.ay)*h+0=J.ay*h+J.used:=by
  have:=I.pos;rcases I.ay with e | e<;>rw[e]<;>simp<;>omega
 have hoth:(joinL (aC (aP M') ((1-J.ay)*h) h 0)).e=0->J.l≠ []/\(joinL (aC (aP M') ((1-J.ay)*h) h 0)).number<oL J.l:=by
  intro he;rcases pz _ 0 hT2 he with⟨_,e⟩ | ⟨_,e,_⟩
  ·rw[<-e] at he ⊢;exact I.other he
  ·exact absurd e TU
 by_cases hall:∀ k,k<aj t.data.toList.length->(aP M')[J.ay*h+J.used+k]? =(iF J.next t.data.toList)[k]?
 ·right
  have hnew:=FY (T':=aP M') (last:=nS J.l) hT' hNN ht (by omega:J.used+aj t.size<=h) I.last hall;refine⟨hf,hcl,by rw[hML];exact I.len,I.pos,I.ay,by show J.used+aj t.size<=h;omega,by show 1<=J.next+1;omega,wK hp hNN ht I.under,by show nS (J.l++ [(J.next,t)])<J.next+1;rw[oM];omega,⟨xs++ [(J.used+aj t.size,J.next,t.data.toList)],?_,?_⟩,?_,?_,?_,zD I hp hr3⟩
  ·show Path _ 0 0 _ (J.used+aj t.size) (nS (J.l++ [(J.next,t)]))
   rw[oM];exact uF Gx hnew
  ·show _=(J.l++ [(J.next,t)]).map _
   rw[Gh,hxs,Gh];rfl
  ·show recAt (aC (aP M') (J.ay*h) h 0) (J.used+aj t.size) (nS (J.l++ [(J.next,t)]))=none
   rw[oM];refine nT hT' (fun hu he=>?_);rcases pz _ _ hT he with⟨e,_⟩ | ⟨_,e,_⟩
   ·omega
   ·omega
  ·show(joinL (aC (aP M') ((1-J.ay)*h) h 0)).e=0->J.l++ [(J.next,t)]≠ []/\(joinL (aC (aP M') ((1-J.ay)*h) h 0)).number<oL (J.l++ [(J.next,t)])
   intro he;obtain⟨h1,h2⟩:=hoth he;exact⟨by simp,by rw[EC _ _ h1];exact h2⟩
  ·show J.l++ [(J.next,t)]= []->_
   intro e;simp at e
 ·left
  refine⟨hf,hcl,by rw[hML];exact I.len,I.pos,I.ay,I.used,by show 1<=J.next+1;omega,wK hp hNN ht I.under,Nat.lt_succ_of_lt I.last,⟨xs,Gx,hxs⟩,?_,hoth,I.none0,zD I hp hr3⟩;refine nT hT' (fun hu he=>?_);rcases pz _ _ hT he with⟨_,e⟩ | ⟨_,_,hg⟩
  ·rw[<-e] at he ⊢;exact FZ hT I.stop hu he
  ·exact absurd hg hall
theorem Ko (I:JInv h J M) (hN:J.next<=bn) (ht:t.size<=8000) (hr:aj t.size<=h) (hf:Fine M') (hcl:Clean M') (hp:Zl (aP M) (aP M') ((1-J.ay)*h) (iF J.next t.data.toList)):
  JInv h { J with next:=J.next+1 } M'\/JInv h ⟨1-J.ay,aj t.size,J.next+1,[(J.next,t)],false⟩ M':=by
 have hc:=jd t.size;obtain⟨b1,b2⟩:=I.ru;have hML:M'.length=M.length:=by have:=hp.len;rwa [eG,eG] at this
 have hNN:1<=J.next/\J.next<=bn:=⟨I.next,hN⟩;have pz:=fun(b u:Nat) (hbb:b+h<=(aP M).length)=>MF hp hNN ht I.under b h u hbb
 have hT:J.ay*h+h<=(aP M).length:=by rw[eG];exact b1
 have hT2:(1-J.ay)*h+h<=(aP M).length:=by rw[eG];exact b2
 have hT':J.ay*h+h<=(aP M').length:=by rw[hp.len];exact hT
 have aaD:(1-J.ay)*h+h<=(aP M').length:=by rw[hp.len];exact hT2
 have hr2:(1-J.ay)*h+aj t.size<=2*h:=by rcases I.ay with e | e<;>rw[e]<;>simp<;>omega
 by_cases hall:∀ k,k<aj t.data.toList.length->(aP M')[(1-J.ay)*h+k]? =(iF J.next t.data.toList)[k]?
 ·right
  have hnew:=FY (T':=aP M') (u:=0) (last:=0) aaD hNN ht (by omega:0+aj t.size<=h) hNN.1 (fun k hk=>by rw[Nat.add_zero];exact hall k hk);rw[AZ] at hnew;have hbk:1-J.ay=0\/1-J.ay=1:=by omega
  have hbb:1-(1-J.ay)=J.ay:=by rcases I.ay with e | e<;>rw[e]
  refine⟨hf,hcl,by rw[hML];exact I.len,I.pos,hbk,by show aj t.size<=h;omega,by show 1<=J.next+1;omega,wK hp hNN ht I.under,by show J.next<J.next+1;omega,⟨[(aj t.size,J.next,t.data.toList)],.cons hnew (.nil _ _),rfl⟩,?_,?_,fun e=>(by cases e),zD I hp hr2⟩
  ·show recAt (aC (aP M') ((1-J.ay)*h) h 0) (aj t.size) J.next=none
   refine nT aaD (fun hu he=>?_);rcases pz _ _ hT2 he with⟨e,_⟩ | ⟨_,e,_⟩
   ·omega
   ·omega
  ·show(joinL (aC (aP M') ((1-(1-J.ay))*h) h 0)).e=0-> [(J.next,t)]≠ []/\(joinL (aC (aP M') ((1-(1-J.ay))*h) h 0)).number<J.next
   rw[hbb];intro he;refine⟨by simp,?_⟩;rcases pz _ 0 hT he with⟨e,_⟩ | ⟨_,e,_⟩
   ·exact e
   ·exfalso
    have:=I.pos;rcases I.ay with e0 | e0<;>rw[e0] at e<;>simp at e<;>omega
 ·left
  obtain⟨xs,xC,hxs⟩:=I.path;have hlen:(aC (aP M') (J.ay*h) h 0).length=(aC (aP M) (J.ay*h) h 0).length:=by rw[fD _ _ _ _ hT',fD _ _ _ _ hT]
  have hkeep:∀ i,i<J.used->(aC (aP M') (J.ay*h) h 0)[i]? =(aC (aP M) (J.ay*h) h 0)[i]? :=by
   intro i hi;have hu:=I.used;rw[fO _ _ _ _ _ (by omega),fO _ _ _ _ _ (by omega)];refine hp.out _ ?_;rw[je];have hcc:aj t.data.toList.length=aj t.size:=rfl;rcases I.ay with e | e<;>rw[e]<;>simp<;>omega
  refine⟨hf,hcl,by rw[hML];exact I.len,I.pos,I.ay,I.used,by show 1<=J.next+1;omega,wK hp hNN ht I.under,Nat.lt_succ_of_lt I.last,⟨xs,yO hlen xC hkeep,hxs⟩,?_,?_,I.none0,zD I hp hr2⟩
  ·show recAt (aC (aP M') (J.ay*h) h 0) J.used (nS J.l)=none
   refine nT hT' (fun hu he=>?_);rcases pz _ _ hT he with⟨_,e⟩ | ⟨_,e,_⟩
   ·rw[<-e] at he ⊢;exact FZ hT I.stop hu he
   ·exfalso
    have:=I.pos;rcases I.ay with e0 | e0<;>rw[e0] at e<;>simp at e<;>omega
  ·intro he;rcases pz _ 0 hT2 he with⟨_,e⟩ | ⟨_,_,hg⟩
   ·have h3:=I.other;rw[e] at h3;exact h3 he
   ·exact absurd hg hall
end
theorem MG:∀ l:List UInt8,bQ l=0->l=List.replicate l.length 0
 | [],_=>rfl
 | b::r,h=>by
  have h1:b.toNat+256*bQ r=0:=h;have hb:b=0:=UInt8.toNat_inj.1 (by show b.toNat=0;omega);rw[hb,AY,List.replicate_succ,<-MG r (by omega)]
theorem wL (l:List UInt8) (hl:l.length=8) (h:bQ l<256):l=UInt8.ofNat (bQ l)::List.replicate 7 0:=by
 cases l with
 | nil=>cases hl
 | cons b r=>
  have h1:b.toNat+256*bQ r<256:=h;have hr:bQ r=0:=by omega
  have hrl:r.length=7:=by simpa using hl
  have h2:=MG r hr;rw[hrl] at h2;have h3:bQ (b::r)=b.toNat:=by show b.toNat+256*bQ r=_;omega
  rw[h3,UInt8.ofNat_toNat,h2]
theorem RG (a b:UInt8) (z:List UInt8) (n:Nat) (hn:1<=n):(b::z).take n++(a::z).drop n=b::z:=by
 cases n with
 | zero=>omega
 | succ n=>rw[List.take_succ_cons,List.drop_succ_cons,List.cons_append,List.take_append_drop]
theorem acs (y x:List UInt8) (n m:Nat) (hy:m<=y.length) (h:n<=m):(y.take n++x.drop n).drop m=x.drop m:=by
 have e:(y.take n).length=n:=by rw[ou];omega
 rw[List.drop_append,List.drop_of_length_le (by rw[e];exact h),GI,e,List.drop_drop]
 congr 1
 omega
theorem Zm (y x:List UInt8) (n m:Nat) (hy:n<=y.length) (h:m<=n):(y.take n++x.drop n).drop m=(y.drop m).take (n-m)++(x.drop m).drop (n-m):=by
 have e:(y.take n).length=n:=by rw[ou];omega
 rw[List.drop_append,e,List.drop_take,show m-n=0 by omega,List.drop_zero,List.drop_drop,show m+(n-m)=n by omega]
theorem acu (y x:List UInt8) (n m:Nat) (hy:n<=y.length):(y.take n++x.drop n).take m=(y.take m).take n++(x.take m).drop n:=by
 have e:(y.take n).length=n:=by rw[ou];omega
 rw[List.take_append,e,List.take_take,List.take_take,List.drop_take,Nat.min_comm]
theorem Fb {N j:Nat} {rec y x:List UInt8} (h0:1<=N) (hN:N<=255) (hy:y=eH N rec j) (hx:x.length=64) (x1:bQ (x.take 8)<N) (x2:bQ (x.drop 56)<N) (n:Nat) (hn:n<=64):
  (y.take n++x.drop n=x\/y.take n++x.drop n=y\/dw (y.take n++x.drop n)=none)/\bQ ((y.take n++x.drop n).take 8)<N+1/\bQ ((y.take n++x.drop n).drop 56)<N+1:=by
 have hmN:N<=bn:=by unfold Sec.bn;omega
 have hyl:y.length=64:=by rw[hy];exact oK _ _ _
 obtain⟨y1,y2⟩:=KP N rec j hmN;rw[<-hy,hyl] at y2;rw[<-hy] at y1;have y2':bQ (y.drop 56)=N:=y2;clear y2;have fy1:=wL (y.take 8) (by rw[ou];omega) (by omega);have fy2:=wL (y.drop 56) (by rw[rX];omega) (by omega);have fx1:=wL (x.take 8) (by rw[ou];omega) (by omega);have fx2:=wL (x.drop 56) (by rw[rX];omega) (by omega);rw[y1] at fy1;rw[y2'] at fy2;by_cases hz:n=0
 ·subst hz;rw[List.take_zero,List.drop_zero,GI];exact⟨.inl rfl,by omega,by omega⟩
 have hhead:(y.take n++x.drop n).take 8=y.take 8:=by
  rw[acu y x n 8 (by omega),fx1,fy1];exact RG _ _ _ n (by omega)
 rw[hhead,y1];by_cases h56:n<=56
 ·have ht:=acs y x n 56 (by omega) h56;rw[ht];refine⟨.inr (.inr ?_),by omega,by omega⟩;cases ho:dw (y.take n++x.drop n) with
  | none=>rfl
  | some p=>
   obtain⟨e,_⟩:=KI ho;rw[hhead,ht] at e;rw[<-e,y1] at x2;omega
 ·have htail:(y.take n++x.drop n).drop 56=y.drop 56:=by
   rw[Zm y x n 56 (by omega) (by omega),fx2,fy2];exact RG _ _ _ (n-56) (by omega)
  have hd:x.drop n=y.drop n:=by
   have e1:x.drop n=(x.drop 56).drop (n-56):=by rw[List.drop_drop];congr 1;omega
   have e2:y.drop n=(y.drop 56).drop (n-56):=by rw[List.drop_drop];congr 1;omega
   obtain⟨m,hm⟩:∃ m,n-56=m+1:=⟨n-57,by omega⟩;rw[e1,e2,fx2,fy2,hm,List.drop_succ_cons,List.drop_succ_cons]
  refine⟨.inr (.inl ?_),by omega,by rw[htail];omega⟩;rw[hd,List.take_append_drop]
end Go.Proofs.YtpghocekofdpbaaGreatDoor
