import Derived.Test.YtpghocekofdpbaaGreatDoorQr34
namespace Go.Proofs.YtpghocekofdpbaaGreatDoor
open Sec (aj bn iF eH)
structure Goes (h:Nat) (b:Nat) (r:uZ) (root:ByteArray) (image:Option ByteArray) (texts:List ByteArray):Prop where
 ok:∃ V,r.2.1=some V/\jy h V r.2.2 b/\V.root=root/\V.image=image/\V.texts=texts
structure Falls (h:Nat) (b:Nat) (r:uZ) (A:ByteArray->Option ByteArray->List ByteArray->Prop):Prop where
 none:r.2.1=none
 down:r.2.2.down=true
 lies:∀ P,∃ root image texts,A root image texts/\Lies h (r.2.2.mount P) b root image texts
section
variable {h b:Nat} {V:mJ} {D:Dev}
theorem Ou (D:Dev) (P:List Int):(D.mount P).M=kZ D.M P:=rfl
theorem acf (D:Dev) (P:List Int):DUp (D.mount P):=⟨rfl,rfl⟩
theorem MO {V':mJ} {E:Dev} (hE:nM E) (hJ:vk h V'.J E.M b) (hsp:V'.J.dL=false) {s1:ByteArray} (hs:E.slots= [V'.root,s1,zero32]) (hr:V'.root.size=32/\V'.root≠zero32) {R:JA} (hR:jR V'.root V'.J.l=some R) (e1:R.chain=V'.chain) (e2:R.image=V'.image) (e3:R.texts=V'.texts) (hb1:V'.J.l≠ []/\s1=R.before):
  ((dR V'.chain V' E).1=0/\Goes h b (dR V'.chain V' E) V'.root V'.image V'.texts)\/
  ((dR V'.chain V' E).1=14/\Falls h b (dR V'.chain V' E) (fun r i t=>r=V'.root/\i=V'.image/\t=V'.texts)/\0<=E.left):=by
 unfold dR;rcases iD hE (1,V'.chain) with⟨h0,e⟩ | ⟨h0,e⟩
 ·right
  rw[e,if_neg (show ¬ (14:Int)=0 by decide)];refine⟨rfl,⟨rfl,rfl,fun P=>⟨_,_,_,⟨rfl,rfl,rfl⟩,⟨V'.J,R,V'.root,s1,zero32,?_,hR,e2,e3,hs,.inr hb1,.inl rfl⟩,hr,by show jA E.slots;rw[hs];exact jA.mk hr rfl⟩⟩,by omega⟩;rw[Ou];show vk h V'.J (kZ E.M P) b
  rw[mQ hJ.inv.clean];exact hJ
 ·left
  rw[e,if_pos rfl];obtain⟨d1,d2⟩:=qG hE h0 (1,V'.chain);refine⟨rfl,⟨V',rfl,⟨d1,by rw[d2.M];exact hJ,hsp,?_,hr,R,hR,e1,e2,e3⟩,rfl,rfl,rfl⟩⟩;show E.slots.set 1 V'.chain=_
  rw[hs];rfl
theorem lH (t:ByteArray) (J:qm):(h<J.used+aj t.size/\gK h t J D= .err 15)\/
  (J.used+aj t.size<=h/\D.fails (aj t.size+1)/\gK h t J D= .down (D.off (nI ((aQ J.next t).take D.left.toNat) (J.ay*h+J.used) D.M)))\/
  (J.used+aj t.size<=h/\(D.left<0\/((aj t.size+1:Nat):Int)<=D.left)/\gK h t J D= .ok J.next ⟨J.ay,J.used+aj t.size,J.next+1,J.l++ [(J.next,t)],false⟩ (D.on (aj t.size+1) (dW (aQ J.next t) (J.ay*h+J.used) D.M))):=by
 unfold gK;by_cases h1:h<J.used+aj t.size
 ·exact .inl ⟨h1,if_pos h1⟩
 ·rw[if_neg h1];by_cases h2:D.fails (aj t.size+1)
  ·exact .inr (.inl ⟨by omega,h2,if_pos h2⟩)
  ·exact .inr (.inr ⟨by omega,zF h2,if_neg h2⟩)
theorem kJ (t:ByteArray) (J:qm):(h<aj t.size/\fA h t J D= .err 15)\/
  (aj t.size<=h/\D.fails (aj t.size+1)/\fA h t J D= .down (D.off (nI ((aQ J.next t).take D.left.toNat) ((1-J.ay)*h) D.M)))\/
  (aj t.size<=h/\(D.left<0\/((aj t.size+1:Nat):Int)<=D.left)/\fA h t J D= .ok J.next ⟨1-J.ay,aj t.size,J.next+1,[(J.next,t)],false⟩ (D.on (aj t.size+1) (dW (aQ J.next t) ((1-J.ay)*h) D.M))):=by
 unfold fA;by_cases h1:h<aj t.size
 ·exact .inl ⟨h1,if_pos h1⟩
 ·rw[if_neg h1];by_cases h2:D.fails (aj t.size+1)
  ·exact .inr (.inl ⟨by omega,h2,if_pos h2⟩)
  ·exact .inr (.inr ⟨by omega,zF h2,if_neg h2⟩)
theorem Jd (I:jy h V D b) (hb:b<255) (t:ByteArray) (ht:t.size<=7971):
  (h<V.J.used+aj (t.size+29)/\dX h V D t=(15,some V,D))\/
  (V.J.used+aj (t.size+29)<=h/\(dX h V D t).1=0/\Goes h (b+1) (dX h V D t) V.root V.image (V.texts++ [t])/\∃ V',(dX h V D t).2.1=some V'/\V'.J.used=V.J.used+aj (t.size+29))\/
  (0<=D.left/\(dX h V D t).1=14/\Falls h (b+1) (dX h V D t) (fun r i l=>r=V.root/\i=V.image/\(l=V.texts\/l=V.texts++ [t]))):=by
 obtain⟨R,hR,e1,e2,e3⟩:=I.read;have hsz:(aV V.root V.J.next (jQ t)).size=t.size+29:=by rw[nD,Ed]
 have hr2:=Ef hR V.J.next t;rw[e1] at hr2;obtain⟨B,hB⟩:∃ B,aV V.root V.J.next (jQ t)=B:=⟨_,rfl⟩;have hun:dX h V D t=match gK h B V.J D with
  | .err c=>(c,some V,D)
  | .down D'=>(14,none,D')
  | .ok n J' D'=>dR (dG V.chain n B) ⟨J',V.root,dG V.chain n B,V.image,V.texts++ [t]⟩ D':=by
  unfold dX;rw[if_neg (by omega),hB];rfl
 rw[hB] at hsz hr2;rw[hun];rcases lH (h:=h) (D:=D) B V.J with⟨a1,a2⟩ | ⟨a1,a2,a3⟩ | ⟨a1,a2,a3⟩
 ·left
  rw[a2];exact⟨by rw[<-hsz];exact a1,rfl⟩
 ·right;right
  rw[a3];refine⟨a2.1,rfl,rfl,rfl,fun P=>?_⟩;rcases Vy I.CJ hb (by omega:B.size<=8000) a1 a2 P with k | k
  ·exact⟨V.root,V.image,V.texts,⟨rfl,rfl,.inl rfl⟩,⟨_,R,V.root,V.chain,zero32,k,hR,e2,e3,I.slots,.inl e1.symm,.inl rfl⟩,I.root,by show jA D.slots;rw[I.slots];exact jA.mk I.root rfl⟩
  ·exact⟨V.root,V.image,V.texts++ [t],⟨rfl,rfl,.inr rfl⟩,⟨_,_,V.root,V.chain,zero32,k,hr2,e2,by rw[<-e3],I.slots,.inr ⟨by simp,rfl⟩,.inl rfl⟩,I.root,by show jA D.slots;rw[I.slots];exact jA.mk I.root rfl⟩
 ·right
  rw[a3];have hon:=Fe (k:=aj B.size+1) (M:=dW (aQ V.J.next B) (V.J.ay*h+V.J.used) D.M) I.on a2;have hok:=Zr I.CJ hb (by omega:B.size<=8000) a1 I.dL;have hc:=MO (V':=⟨⟨V.J.ay,V.J.used+aj B.size,V.J.next+1,V.J.l++ [(V.J.next,B)],false⟩,V.root,dG V.chain V.J.next B,V.image,V.texts++ [t]⟩) hon hok rfl (s1:=V.chain) I.slots I.root hr2 rfl e2 (by rw[<-e3]) ⟨by simp,rfl⟩;dsimp only at hc ⊢;rcases hc with⟨c1,c2⟩ | ⟨c1,c2,c3⟩
  ·left
   refine⟨by rw[<-hsz];exact a1,c1,c2,?_⟩;obtain⟨V',v1,_⟩:=c2.ok;refine⟨V',v1,?_⟩;unfold dR at v1 c1;split at v1
   ·cases v1;show V.J.used+aj B.size=_
    rw[hsz]
   ·cases v1
  ·right
   refine⟨?_,c1,c2.none,c2.down,fun P=>?_⟩
   ·have:0<=I8 D.left (aj B.size+1):=c3;unfold I8 at this;split at this<;>omega
   ·obtain⟨r,i,l,⟨q1,q2,q3⟩,L⟩:=c2.lies P;exact⟨r,i,l,⟨q1,q2,.inr q3⟩,L⟩
end
section
variable {h b:Nat} {V:mJ} {D:Dev}
theorem sW (hd:nM D) (hJ:vk h V.J D.M b) (hb:b<255) (hc:V.chain.size=32) (root image:ByteArray) (hi:image.size<=7939):
  (h<aj (image.size+61)/\dY h V D root image=(15,some V,D))\/
  (∃ D',dY h V D root image=(14,none,D')/\0<=D.left/\D'.down=true/\D'.slots=D.slots/\∀ P,(∃ J,vk h J (D'.mount P).M (b+1)/\J.l=V.J.l)\/
   (∃ J ch,vk h J (D'.mount P).M (b+1)/\J.l≠ []/\jR root J.l=some ⟨ch,V.chain,some image,[]⟩))\/
  (aj (image.size+61)<=h/\∃ V' D',dY h V D root image=(0,some V',D')/\nM D'/\(D.left<0->D'.left<0)/\D'.slots=D.slots/\vk h V'.J D'.M (b+1)/\V'.J.dL=false/\V'.root=root/\V'.image=some image/\V'.texts= []/\V'.J.l≠ []/\V'.J.used=aj (image.size+61)/\
   jR root V'.J.l=some ⟨V'.chain,V.chain,some image,[]⟩):=by
 have hsz:(aV root V.J.next (kY V.chain image)).size=image.size+61:=by rw[nD,Ee,hc];omega
 have hrd:=Zp root V.J.next V.chain image hc;obtain⟨B,hB⟩:∃ B,aV root V.J.next (kY V.chain image)=B:=⟨_,rfl⟩;rw[hB] at hsz hrd;have hun:dY h V D root image=match fA h B V.J D with
  | .err c=>(c,some V,D)
  | .down D'=>(14,none,D')
  | .ok n J' D'=>(0,some ⟨J',root,dG V.chain n B,some image,[]⟩,D'):=by
  unfold dY;rw[hB];rfl
 rw[hun];rcases kJ (h:=h) (D:=D) B V.J with⟨a1,a2⟩ | ⟨a1,a2,a3⟩ | ⟨a1,a2,a3⟩
 ·left
  rw[a2];exact⟨by rw[<-hsz];exact a1,rfl⟩
 ·right;left
  rw[a3];refine⟨_,rfl,a2.1,rfl,rfl,fun P=>?_⟩;rcases RS hJ hb (by omega:B.size<=8000) a1 a2 P with k | k
  ·exact .inl ⟨_,k,rfl⟩
  ·exact .inr ⟨_,_,k,(by simp),hrd⟩
 ·right;right
  rw[a3];have hon:=Fe (k:=aj B.size+1) (M:=dW (aQ V.J.next B) ((1-V.J.ay)*h) D.M) hd a2;have hok:=Vx hJ hb (by omega:B.size<=8000) a1;refine⟨by rw[<-hsz];exact a1,_,_,rfl,hon,fun hl=>?_,rfl,hok,rfl,rfl,rfl,rfl,by simp,?_,hrd⟩
  ·show I8 D.left (aj B.size+1)<0
   unfold I8;rw[if_pos hl];exact hl
  ·show aj B.size=_
   rw[hsz]
theorem CW (I:jy h V D b) (hb:b<255) (image:ByteArray) (hi:image.size<=7939):
  (h<aj (image.size+61)/\dK h V D image=(15,some V,D))\/
  (aj (image.size+61)<=h/\(dK h V D image).1=0/\Goes h (b+1) (dK h V D image) V.root (some image) [])\/
  (0<=D.left/\(dK h V D image).1=14/\Falls h (b+1) (dK h V D image) (fun r i l=>r=V.root/\((i=V.image/\l=V.texts)\/(i=some image/\l= [])))):=by
 obtain⟨R,hR,e1,e2,e3⟩:=I.read;have hun:dK h V D image=match dY h V D V.root image with
  | (0,some V',D')=>dR V'.chain V' D'
  | x=>x:=by
  unfold dK;rw[if_neg (by omega)];rfl
 rw[hun];rcases sW I.on I.CJ hb I.chain V.root image hi with⟨a1,a2⟩ | ⟨D',a1,a2,a3,a4,a5⟩ | ⟨a0,V',D',a1,a2,a2l,a3,a4,a5,a6,a7,a8,a9,_,a10⟩
 ·left
  rw[a2];exact⟨a1,rfl⟩
 ·right;right
  rw[a1];refine⟨a2,rfl,rfl,a3,fun P=>?_⟩;rcases a5 P with⟨J,k1,k2⟩ | ⟨J,ch,k1,k2,k3⟩
  ·exact⟨V.root,V.image,V.texts,⟨rfl,.inl ⟨rfl,rfl⟩⟩,⟨J,R,V.root,V.chain,zero32,k1,by rw[k2];exact hR,e2,e3,a4.trans I.slots,.inl e1.symm,.inl rfl⟩,I.root,by show jA D'.slots;rw[a4,I.slots];exact jA.mk I.root rfl⟩
  ·exact⟨V.root,some image,[],⟨rfl,.inr ⟨rfl,rfl⟩⟩,⟨J,_,V.root,V.chain,zero32,k1,k3,rfl,rfl,a4.trans I.slots,.inr ⟨k2,rfl⟩,.inl rfl⟩,I.root,by show jA D'.slots;rw[a4,I.slots];exact jA.mk I.root rfl⟩
 ·right
  rw[a1];have hc:=MO (V':=V') a2 a4 a5 (s1:=V.chain) (by rw[a3,I.slots,a6]) (by rw[a6];exact I.root) (by rw[a6];exact a10) rfl a7.symm a8.symm ⟨a9,rfl⟩;rw[a6,a7,a8] at hc;try dsimp only
  rcases hc with⟨c1,c2⟩ | ⟨c1,c2,c3⟩
  ·exact .inl ⟨a0,c1,c2⟩
  ·refine .inr ⟨?_,c1,c2.none,c2.down,fun P=>?_⟩
   ·by_cases hl:0<=D.left
    ·exact hl
    ·have:=a2l (by omega);omega
   ·obtain⟨r,i,l,⟨q1,q2,q3⟩,L⟩:=c2.lies P;exact⟨r,i,l,⟨q1,.inr ⟨q2,q3⟩⟩,L⟩
theorem aeB {V':mJ} {E:Dev} (hE:nM E) (hJ:vk h V'.J E.M b) (hsp:V'.J.dL=false) {s0 s1:ByteArray} (hs:E.slots= [s0,s1,V'.root]) (h0:s0.size=32/\s0≠zero32) (hr:V'.root.size=32/\V'.root≠zero32) {R:JA} (hR:jR V'.root V'.J.l=some R) (e1:R.chain=V'.chain) (e2:R.image=V'.image) (e3:R.texts=V'.texts) (hb1:V'.J.l≠ []/\s1=R.before):
  ((rU V' E).1=0/\Goes h b (rU V' E) V'.root V'.image V'.texts)\/
  ((rU V' E).1=14/\Falls h b (rU V' E) (fun r i t=>r=V'.root/\i=V'.image/\t=V'.texts)/\0<=E.left):=by
 unfold rU;rcases lI [(0,V'.root),(1,V'.chain),(2,zero32)] E hE with⟨e,d1,d2,d3⟩ | ⟨e,d1,d2,d3⟩
 ·left
  rw[if_pos e];refine⟨rfl,V',rfl,⟨d1,by rw[d2.M];exact hJ,hsp,?_,hr,R,hR,e1,e2,e3⟩,rfl,rfl,rfl⟩;rw[d3,hs];rfl
 ·right
  rw[if_neg (by rw[e];show ¬ (14:Int)=0;decide)];have hq:=pI (Q:=fun s=>∃ t0 t1 t2,s= [t0,t1,t2]/\(t1=R.chain\/(V'.J.l≠ []/\t1=R.before))/\(t0=V'.root\/t2=V'.root)) [(0,V'.root),(1,V'.chain)] E hE ⟨s0,s1,V'.root,hs,.inr hb1,.inr rfl⟩ (fun x hx s hsx=>by
   obtain⟨t0,t1,t2,rfl,a,c⟩:=hsx;simp only[List.mem_cons,List.not_mem_nil,or_false] at hx;rcases hx with rfl | rfl
   ·exact⟨V'.root,t1,t2,rfl,a,.inl rfl⟩
   ·exact⟨t0,V'.chain,t2,rfl,.inl e1.symm,c⟩)
  have hall:∃ t0 t1 t2,(aH [(0,V'.root),(1,V'.chain),(2,zero32)] E).2.slots= [t0,t1,t2]/\(t1=R.chain\/(V'.J.l≠ []/\t1=R.before))/\(t0=V'.root\/t2=V'.root):=by
   have key:∀ (l:List (Nat×ByteArray)) (E:Dev) (x:Nat×ByteArray),nM E->(aH (l++ [x]) E).1=14->(aH (l++ [x]) E).2.slots=(aH l E).2.slots:=by
    intro l
    induction l with
    | nil=>
     intro E x hE h14;rcases iD hE x with⟨z0,e0⟩ | ⟨z0,e0⟩
     ·have e2:aH ([]++ [x]) E=E.slot x:=by
       show(if (E.slot x).1=0 then _ else _)=_
       rw[if_neg (by rw[e0];show ¬ (14:Int)=0;decide)]
      rw[e2,e0];rfl
     ·exfalso
      have e2:aH ([]++ [x]) E=(0,(E.slot x).2):=by
       show(if (E.slot x).1=0 then _ else _)=_
       rw[if_pos (by rw[e0])];rfl
      rw[e2] at h14;cases h14
    | cons y r ih=>
     intro E x hE h14;rcases iD hE y with⟨z0,e0⟩ | ⟨z0,e0⟩
     ·have e2:∀ m,aH (y::m) E=E.slot y:=fun m=>by
       show(if (E.slot y).1=0 then _ else _)=_
       rw[if_neg (by rw[e0];show ¬ (14:Int)=0;decide)]
      rw[List.cons_append,e2,e2]
     ·have e2:∀ m,aH (y::m) E=aH m (E.slot y).2:=fun m=>by
       show(if (E.slot y).1=0 then _ else _)=_
       rw[if_pos (by rw[e0])]
      rw[List.cons_append,e2] at h14 ⊢;rw[e2];rw[e0] at h14 ⊢;exact ih _ x (qG hE z0 y).1 h14
   have:=key [(0,V'.root),(1,V'.chain)] E (2,zero32) hE e;rw[show[(0,V'.root),(1,V'.chain)]++ [(2,zero32)]= [(0,V'.root),(1,V'.chain),(2,zero32)] from rfl] at this;rw[this];exact hq
  obtain⟨t0,t1,t2,q1,q2,q3⟩:=hall;refine⟨rfl,⟨rfl,d1,fun P=>⟨_,_,_,⟨rfl,rfl,rfl⟩,⟨V'.J,R,t0,t1,t2,?_,hR,e2,e3,q1,q2,?_⟩,hr,pI (Q:=jA) _ E hE (by rw[hs];exact jA.mk h0 hr.1) (fun x hx s hsx=>?_)⟩⟩,d3⟩
  ·rw[Ou,d2,mQ hJ.inv.clean];exact hJ
  ·rcases q3 with e | e
   ·exact .inl e.symm
   ·exact .inr ⟨e.symm,hb1.1⟩
  ·have h3:x=(0,V'.root)\/x=(1,V'.chain)\/x=(2,zero32):=by simpa using hx
   rcases h3 with rfl | rfl | rfl
   ·exact hsx.set0 hr
   ·exact hsx.set1 _
   ·exact hsx.set2 rfl
theorem Eh (I:jy h V D b) (hb:b<255) (root image:ByteArray) (hr:root.size=32/\root≠zero32) (hi:image.size<=7939):
  ((eY h V D root image).1=15/\((eY h V D root image).2.1=some V/\jy h V (eY h V D root image).2.2 b\/0<=D.left/\Falls h (b+1) (eY h V D root image) (fun r i l=>r=V.root/\i=V.image/\l=V.texts)))\/
  ((eY h V D root image).1=0/\Goes h (b+1) (eY h V D root image) root (some image) [])\/
  (0<=D.left/\(eY h V D root image).1=14/\Falls h (b+1) (eY h V D root image) (fun r i l=>(r=V.root/\i=V.image/\l=V.texts)\/(r=root/\i=some image/\l= []))):=by
 obtain⟨R,hR,e1,e2,e3⟩:=I.read;unfold eY;rw[if_neg (by omega)];have hlies:∀ {J:qm} {M:List Sec} {s2:ByteArray} {D':Dev},D'.slots= [V.root,V.chain,s2]->s2.size=32->D'.M=M->vk h J M (b+1)->J.l=V.J.l->Lies h D' (b+1) V.root V.image V.texts:=by
  intro J M s2 D' hs hs2 hM hJ hl;exact⟨⟨J,R,V.root,V.chain,s2,by rw[hM];exact hJ,by rw[hl];exact hR,e2,e3,hs,.inl e1.symm,.inl rfl⟩,I.root,by rw[hs];exact jA.mk I.root hs2⟩
 rcases iD I.on (2,root) with⟨h0,e⟩ | ⟨h0,e⟩
 ·right;right
  rw[if_pos (by rw[e];show ¬ (14:Int)=0;decide),e];refine⟨by omega,rfl,rfl,rfl,fun P=>⟨_,_,_,.inl ⟨rfl,rfl,rfl⟩,hlies (s2:=zero32) I.slots rfl rfl (J:=V.J) ?_ rfl⟩⟩;rw[Ou];show vk h V.J (kZ D.M P) (b+1)
  rw[mQ I.CJ.inv.clean];exact I.CJ.up (by omega)
 ·rw[if_neg (by rw[e];exact fun h=>h rfl),e];obtain⟨d1,d2⟩:=qG I.on h0 (2,root);obtain⟨E,hE⟩:∃ E:Dev,({ D.on 1 D.M with slots:=D.slots.set 2 root }:Dev)=E:=⟨_,rfl⟩;have hEs:E.slots= [V.root,V.chain,root]:=by rw[<-hE];show D.slots.set 2 root=_;rw[I.slots];rfl
  have hEl:0<=E.left->0<=D.left:=by
   rw[<-hE];show 0<=I8 D.left 1->_
   unfold I8;split<;>omega
  rw[hE] at d1 d2;dsimp only;rw[hE];have hJE:vk h V.J E.M b:=by rw[d2.M];exact I.CJ
  rcases sW d1 hJE hb I.chain root image hi with⟨a1,a2⟩ | ⟨D',a1,a2,a3,a4,a5⟩ | ⟨a0,V',D',a1,a2,a2l,a3,a4,a5,a6,a7,a8,a9,_,a10⟩
  ·left
   rw[a2];rcases iD d1 (2,zero32) with⟨z0,ez⟩ | ⟨z0,ez⟩
   ·refine⟨rfl,.inr ⟨hEl (by omega),?_,?_,fun P=>⟨_,_,_,⟨rfl,rfl,rfl⟩,hlies (s2:=root) ?_ hr.1 rfl (J:=V.J) ?_ rfl⟩⟩⟩
    ·show(if (E.slot (2,zero32)).1=0 then some V else none)=none
     rw[ez];exact if_neg (show ¬ (14:Int)=0 by decide)
    ·show(E.slot (2,zero32)).2.down=true
     rw[ez];rfl
    ·show(E.slot (2,zero32)).2.slots=_
     rw[ez];exact hEs
    ·show vk h V.J (kZ (E.slot (2,zero32)).2.M P) (b+1)
     rw[ez];show vk h V.J (kZ E.M P) (b+1)
     rw[mQ hJE.inv.clean];exact hJE.up (by omega)
   ·obtain⟨f1,f2⟩:=qG d1 z0 (2,zero32);refine⟨rfl,.inl ⟨?_,?_⟩⟩
    ·show(if (E.slot (2,zero32)).1=0 then some V else none)=some V
     rw[ez];exact if_pos rfl
    ·show jy h V (E.slot (2,zero32)).2 b
     rw[ez];refine⟨f1,by rw[f2.M];exact hJE,I.dL,?_,I.root,R,hR,e1,e2,e3⟩;show E.slots.set 2 zero32=_
     rw[hEs];rfl
  ·right;right
   rw[a1];refine⟨hEl a2,rfl,rfl,a3,fun P=>?_⟩;rcases a5 P with⟨J,k1,k2⟩ | ⟨J,ch,k1,k2,k3⟩
   ·exact⟨_,_,_,.inl ⟨rfl,rfl,rfl⟩,hlies (s2:=root) (a4.trans hEs) hr.1 rfl k1 k2⟩
   ·exact⟨root,some image,[],.inr ⟨rfl,rfl,rfl⟩,⟨J,_,V.root,V.chain,root,k1,k3,rfl,rfl,a4.trans hEs,.inr ⟨k2,rfl⟩,.inr ⟨rfl,k2⟩⟩,hr,by show jA D'.slots;rw[a4,hEs];exact jA.mk I.root hr.1⟩
  ·right
   rw[a1];have hc:=aeB (V':=V') a2 a4 a5 (s0:=V.root) (s1:=V.chain) (by rw[a3,hEs,a6]) I.root (by rw[a6];exact hr) (by rw[a6];exact a10) rfl a7.symm a8.symm ⟨a9,rfl⟩;rw[a6,a7,a8] at hc;try dsimp only
   rcases hc with⟨c1,c2⟩ | ⟨c1,c2,c3⟩
   ·exact .inl ⟨c1,c2⟩
   ·refine .inr ⟨?_,c1,c2.none,c2.down,fun P=>?_⟩
    ·by_cases hl:0<=E.left
     ·exact hEl hl
     ·have:=a2l (by omega);omega
    ·obtain⟨r,i,l,⟨q1,q2,q3⟩,L⟩:=c2.lies P;exact⟨r,i,l,.inr ⟨q1,q2,q3⟩,L⟩
end
end Go.Proofs.YtpghocekofdpbaaGreatDoor
