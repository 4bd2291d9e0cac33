import Derived.Test.YtpghocekofdpbaaGreatDoorQr12
namespace Go.Proofs.YtpghocekofdpbaaGreatDoor
open Sec
abbrev dh:=List (List UInt8)
theorem Ey {N L:Nat} {l l':dh}:∀ (k:Nat),(∀ i,i<k->l'[i]? =l[i]?)->iy N L l' k=iy N L l k
 | 0,_=>rfl
 | k+1,h=>by
  unfold iy;rw[Ey k (fun i hi=>h i (by omega)),h k (by omega)]
theorem mY {l:dh} (h:(joinL l).e=0):∃ s0 p t,l[0]? =some s0/\s0.length=64/\dw s0=some p/\p.part=0/\aj p.left<=l.length/\iy p.number p.left l (aj p.left)=some t/\joinL l=⟨p.number,t,aj p.left,0⟩:=by
 cases l with
 | nil=>simp[joinL] at h
 | cons s0 r=>
  unfold joinL at h ⊢;dsimp only at h ⊢;split at h
  ·rename_i h64;rw[if_pos h64];split at h
   ·cases h
   ·rename_i p hp;split at h
    ·rename_i hpart;split at h
     ·cases h
     ·rename_i hlen;split at h
      ·cases h
      ·rename_i t ht;refine⟨s0,p,t,rfl,h64,hp,hpart,by omega,ht,?_⟩;rw[if_pos hpart,if_neg hlen]
    ·cases h
  ·cases h
theorem oJ {l:dh} (h:(joinL l).e=0):1<=(joinL l).used/\(joinL l).used<=l.length:=by
 obtain⟨s0,p,t,_,_,_,_,hl,_,e⟩:=mY h;rw[e];exact⟨jd _,hl⟩
theorem Aj {l:dh} (h:(joinL l).e=0) (i:Nat) (hi:i<(joinL l).used):∃ s p,l[i]? =some s/\dw s=some p/\p.number=(joinL l).number/\p.part=i:=by
 obtain⟨s0,p,t,_,_,_,_,_,ht,e⟩:=mY h;rw[e] at hi ⊢;obtain⟨s,x,hs,hf⟩:=Ez ht i hi;obtain⟨q,_,hq,q1,q2,_⟩:=aaB hf;exact⟨s,q,hs,hq,q1,q2⟩
theorem yN {l l':dh} (h:(joinL l).e=0) (hl:∀ i,i<(joinL l).used->l'[i]? =l[i]?):joinL l'=joinL l:=by
 have hu:=oJ h;obtain⟨s0,p,t,h0,h64,hp,hpart,hlen,ht,e⟩:=mY h;rw[e] at hl ⊢;dsimp only at hl;have hc:=jd p.left;have h0':l'[0]? =some s0:=(hl 0 (by omega)).trans h0;have hlen':aj p.left<=l'.length:=by
  have hx:l[aj p.left-1]? =some (l[aj p.left-1]'(by omega)):=jB (by omega);have:=(List.getElem?_eq_some_iff.1 ((hl (aj p.left-1) (by omega)).trans hx)).1;omega
 have ht':iy p.number p.left l' (aj p.left)=some t:=(Ey _ hl).trans ht;cases l' with
 | nil=>simp at h0'
 | cons s r=>
  simp at h0';subst h0';unfold joinL;dsimp only;rw[if_pos h64,hp];dsimp only;rw[if_pos hpart,if_neg (by omega),ht']
def aC (T:dh) (o h u:Nat):dh:=((T.drop o).take h).drop u
theorem fO (T:dh) (o h u i:Nat) (hi:u+i<h):(aC T o h u)[i]? =T[o+u+i]? :=by
 unfold aC;rw[Nc,List.getElem?_take,if_pos hi,Nc,Nat.add_assoc]
theorem fD (T:dh) (o h u:Nat) (hT:o+h<=T.length):(aC T o h u).length=h-u:=by
 unfold aC;rw[rX,ou,rX];omega
def recAt (B:dh) (u last:Nat):Option (Nat×Nat×List UInt8):=
 if u<B.length/\(joinL (B.drop u)).e=0/\last<(joinL (B.drop u)).number then some (u+(joinL (B.drop u)).used,(joinL (B.drop u)).number,(joinL (B.drop u)).text) else none
theorem o9 {B:dh} {u last:Nat} {x:Nat×Nat×List UInt8} (h:recAt B u last=some x):u<x.1/\x.1<=B.length/\last<x.2.1:=by
 unfold recAt at h;split at h
 ·rename_i hc;cases h;have:=oJ hc.2.1;rw[rX] at this;exact⟨by dsimp only;omega,by dsimp only;omega,hc.2.2⟩
 ·cases h
def uD:Nat->dh->Nat->Nat->List (Nat×Nat×List UInt8)
 | 0,_,_,_=> []
 | f+1,B,u,last=>match recAt B u last with
  | none=> []
  | some x=>x::uD f B x.1 x.2.1
def recs (B:dh):List (Nat×Nat×List UInt8):=uD (B.length+1) B 0 0
inductive Path (B:dh):Nat->Nat->List (Nat×Nat×List UInt8)->Nat->Nat->Prop
 | nil (u last:Nat):Path B u last [] u last
 | cons {u last:Nat} {x:Nat×Nat×List UInt8} {xs:List (Nat×Nat×List UInt8)} {u' last':Nat} (h:recAt B u last=some x) (r:Path B x.1 x.2.1 xs u' last'):Path B u last (x::xs) u' last'
theorem DI {B:dh} {u last u' last':Nat} {xs:List (Nat×Nat×List UInt8)} (h:Path B u last xs u' last') (he:recAt B u' last'=none):∀ f,B.length<f+u->uD f B u last=xs:=by
 induction h with
 | nil u last=>
  intro f hf;cases f with
  | zero=>rfl
  | succ f=>unfold uD;rw[he]
 | cons hx r ih=>
  intro f hf;cases f with
  | zero=>
   have:=o9 hx;omega
  | succ f=>
   have:=o9 hx;unfold uD;rw[hx];dsimp only;rw[ih he f (by omega)]
theorem uF {B:dh} {u last u' last':Nat} {xs:List (Nat×Nat×List UInt8)} {x:Nat×Nat×List UInt8} (h:Path B u last xs u' last') (hx:recAt B u' last'=some x):Path B u last (xs++ [x]) x.1 x.2.1:=by
 induction h with
 | nil u last=>exact .cons hx (.nil _ _)
 | cons hy r ih=>exact .cons hy (ih hx)
theorem Wp {B:dh} {u last u' last':Nat} {xs:List (Nat×Nat×List UInt8)} (h:Path B u last xs u' last'):u<=u'/\last<=last':=by
 induction h with
 | nil u last=>exact⟨aF _,aF _⟩
 | cons hx r ih=>
  have:=o9 hx;omega
theorem yO {B B':dh} (hl:B'.length=B.length) {u last u' last':Nat} {xs:List (Nat×Nat×List UInt8)} (h:Path B u last xs u' last') (hk:∀ i,i<u'->B'[i]? =B[i]?):Path B' u last xs u' last':=by
 induction h with
 | nil u last=>exact .nil _ _
 | cons hx r ih=>
  refine .cons ?_ (ih hk);rename_i u last x xs u' last';have h1:=Wp r;unfold recAt at hx ⊢;split at hx
  ·rename_i hc;cases hx;dsimp only at h1;have e:joinL (B'.drop u)=joinL (B.drop u):=yN hc.2.1 (fun i hi=>by
    rw[Nc,Nc];exact hk _ (by omega))
   rw[e,if_pos ⟨by rw[hl];exact hc.1,hc.2⟩]
  ·cases hx
structure aaC (T T':dh) (o:Nat) (P:dh):Prop where
 len:T'.length=T.length
 at_:∀ (i:Nat) (s:List UInt8),T'[i]? =some s->T[i]? =some s\/∃ k,i=o+k/\P[k]? =some s
 out:∀ i,i<o\/o+P.length<=i->T'[i]? =T[i]?
def Under (T:dh) (N:Nat):Prop:=∀ (i:Nat) (s:List UInt8) (p:xw),T[i]? =some s->dw s=some p->p.number<N
theorem Px {T T':dh} {o N:Nat} {t:List UInt8} (h:aaC T T' o (iF N t)) (hN:1<=N/\N<=bn) (ht:t.length<=8000) (hu:Under T N) (b hh u:Nat) (hb:b+hh<=T.length)
  (hj:(joinL (aC T' b hh u)).e=0):
  ((joinL (aC T' b hh u)).number<N/\joinL (aC T b hh u)=joinL (aC T' b hh u))\/
  ((joinL (aC T' b hh u)).number=N/\b+u=o/\∀ k,k<aj t.length->T'[o+k]? =(iF N t)[k]?):=by
 have hl':(aC T' b hh u).length=hh-u:=fD _ _ _ _ (by rw[h.len];exact hb);have hus:=oJ hj;rw[hl'] at hus;have hget:∀ i,i<(joinL (aC T' b hh u)).used->(aC T' b hh u)[i]? =T'[b+u+i]? :=fun i hi=>fO _ _ _ _ _ (by omega)
 have hparts:=fun i hi=>Aj hj i hi
 have hpk:∀ (k:Nat) (s:List UInt8) (p:xw),(iF N t)[k]? =some s->dw s=some p->p.number=N/\p.part=k/\k<aj t.length/\p.left=t.length-44*k:=by
  intro k s p hk hp;have hkl:k<aj t.length:=by
   have:=(List.getElem?_eq_some_iff.1 hk).1;rw[je] at this;exact this
  rw[uG N t k hkl] at hk;cases hk;rw[qK N t k hN.1 hN.2 ht hkl] at hp;cases hp;exact⟨rfl,rfl,hkl,rfl⟩
 by_cases hn:(joinL (aC T' b hh u)).number=N
 ·right
  have hpos:∀ i,i<(joinL (aC T' b hh u)).used->b+u=o/\T'[o+i]? =(iF N t)[i]? :=by
   intro i hi;obtain⟨s,p,hs,hp,p1,p2⟩:=hparts i hi;rw[hget i hi] at hs;rcases h.at_ _ s hs with h1 | ⟨k,hk,h2⟩
   ·have:=hu _ s p h1 hp;omega
   ·obtain⟨_,q2,_⟩:=hpk k s p h2 hp;have hki:k=i:=by omega
    subst hki;have ho:b+u=o:=by omega
    exact⟨ho,by rw[<-ho,hs,h2]⟩
  obtain⟨ho,_⟩:=hpos 0 (by omega);refine⟨hn,ho,fun k hk=>?_⟩;obtain⟨s0,p0,t0,g1,_,g2,g3,_,_,ge⟩:=mY hj;have g1':(aC T' b hh u)[0]? =some s0:=g1;rw[hget 0 (by omega)] at g1';have hleft:p0.left=t.length:=by
   rcases h.at_ _ s0 g1' with h1 | ⟨k,hk,h2⟩
   ·have:=hu _ s0 p0 h1 g2;rw[ge] at hn;dsimp only at hn;omega
   ·obtain⟨_,q2,_,q4⟩:=hpk k s0 p0 h2 g2;have:k=0:=by omega
    subst this;rw[q4];omega
  have aiY:(joinL (aC T' b hh u)).used=aj t.length:=by rw[ge,<-hleft]
  exact(hpos k (by omega)).2
 ·left
  have hsame:∀ i,i<(joinL (aC T' b hh u)).used->(aC T b hh u)[i]? =(aC T' b hh u)[i]? :=by
   intro i hi;obtain⟨s,p,hs,hp,p1,p2⟩:=hparts i hi;rw[hget i hi] at hs;rw[hget i hi,fO _ _ _ _ _ (by omega),hs];rcases h.at_ _ s hs with h1 | ⟨k,hk,h2⟩
   ·exact h1
   ·obtain⟨q1,_⟩:=hpk k s p h2 hp;exact absurd (p1.symm.trans q1) hn
  have hlt:(joinL (aC T' b hh u)).number<N:=by
   obtain⟨s,p,hs,hp,p1,p2⟩:=hparts 0 (by omega);rw[hget 0 (by omega)] at hs;rcases h.at_ _ s hs with h1 | ⟨k,hk,h2⟩
   ·have:=hu _ s p h1 hp;omega
   ·obtain⟨q1,_⟩:=hpk k s p h2 hp;exact absurd (p1.symm.trans q1) hn
  exact⟨hlt,yN hj hsame⟩
theorem yP {T T':dh} {o N:Nat} {t:List UInt8} (h:aaC T T' o (iF N t)) (hN:1<=N/\N<=bn) (ht:t.length<=8000) (hu:Under T N):Under T' (N+1):=by
 intro i s p hs hp;rcases h.at_ i s hs with h1 | ⟨k,_,h2⟩
 ·have:=hu i s p h1 hp;omega
 ·have hkl:k<aj t.length:=by
   have:=(List.getElem?_eq_some_iff.1 h2).1;rw[je] at this;exact this
  rw[uG N t k hkl] at h2;cases h2;rw[qK N t k hN.1 hN.2 ht hkl] at hp;cases hp;show N<N+1
  omega
end Go.Proofs.YtpghocekofdpbaaGreatDoor
