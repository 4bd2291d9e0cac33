import Derived.Test.YtpghocekofdpbaaGreatDoorQr13
import Derived.Test.YtpghocekofdpbaaGreatDoorQr14
import Derived.Test.YtpghocekofdpbaaGreatDoorQr08
namespace Go.Proofs.YtpghocekofdpbaaGreatDoor
section
open Sec (iF eH aj bn joinL dw gJ bQ xw je uG oK jd)
def aQ (N:Nat) (t:ByteArray):List ByteArray:=(List.range (aj t.size)).map (gJ N t)
theorem jf (N:Nat) (t:ByteArray):(aQ N t).length=aj t.size:=by simp[aQ]
theorem nR (N:Nat) (t:ByteArray) (k:Nat) (h:k<aj t.size):(aQ N t)[k]? =some (gJ N t k):=by
 unfold aQ;rw[sD,List.getElem?_range h];rfl
theorem Ns (N:Nat) (t:ByteArray):(aQ N t).map (fun s=>s.data.toList)=iF N t.data.toList:=by
 unfold aQ iF;rw[List.map_map];rfl
theorem Bo (N:Nat) (t:ByteArray) (k:Nat):(gJ N t k).size=64:=by
 show(eH N t.data.toList k).toArray.size=64
 rw[mG,oK]
theorem jU (N:Nat) (t:ByteArray):∀ s ∈ aQ N t,s.size=64:=by
 intro s hs;unfold aQ at hs;obtain⟨k,_,rfl⟩:=List.mem_map.1 hs;exact Bo N t k
def Clean (M:List Sec):Prop:=∀ s ∈ M,s.dirty=false
def nI:List ByteArray->Nat->List Sec->List Sec
 | [],_,M=>M
 | s::r,o,M=>nI r (o+1) (upd (fun x=>x.write s) M o)
theorem qj:∀ (l:List ByteArray) (o:Nat) (M:List Sec),(nI l o M).length=M.length
 | [],_,_=>rfl
 | s::r,o,M=>by
  show(nI r (o+1) (upd _ M o)).length=_
  rw[qj r,V8]
theorem Py:∀ (l:List ByteArray) (s:ByteArray) (o:Nat) (M:List Sec),nI (l++ [s]) o M=upd (fun x=>x.write s) (nI l o M) ((o+l.length:Nat):Int)
 | [],_,_,_=>rfl
 | x::r,s,o,M=>by
  show nI (r++ [s]) (o+1) _=upd _ (nI r (o+1) _) _
  rw[Py r s (o+1)]
  congr 1
  simp;omega
theorem FX:∀ (l:List ByteArray) (o:Nat) (M:List Sec) (i:Nat),i<o\/o+l.length<=i->(nI l o M)[i]? =M[i]?
 | [],_,_,_,_=>rfl
 | s::r,o,M,i,h=>by
  show(nI r (o+1) (upd _ M o))[i]? =_
  rw[FX r (o+1) _ i (by simp at h;omega)];unfold upd;rw[Int.toNat_natCast,List.getElem?_set_ne (by simp at h;omega)]
theorem TQ:∀ (l:List ByteArray) (o:Nat) (M:List Sec) (k:Nat) (x:Sec) (s:ByteArray),M[o+k]? =some x->l[k]? =some s->(nI l o M)[o+k]? =some (x.write s)
 | [],_,_,_,_,_,_,h=>by simp at h
 | t::r,o,M,0,x,s,hx,hs=>by
  simp at hs;subst hs;show(nI r (o+1) (upd _ M o))[o+0]? =_
  rw[FX r (o+1) _ (o+0) (by omega)];have hj:=(List.getElem?_eq_some_iff.1 hx).1;unfold upd;rw[Int.toNat_natCast];have e:M.getD o default=x:=by rw[En];rw[Nat.add_zero] at hx;rw[hx];rfl
  rw[e,Nat.add_zero,List.getElem?_set_self (by omega)]
 | t::r,o,M,k+1,x,s,hx,hs=>by
  show(nI r (o+1) (upd _ M o))[o+(k+1)]? =_
  have e:o+(k+1)=(o+1)+k:=by omega
  rw[e];refine TQ r (o+1) _ k x s ?_ (by simpa using hs);unfold upd;rw[Int.toNat_natCast,List.getElem?_set_ne (by omega),<-e];exact hx
theorem uH:∀ (l:List ByteArray) (o:Nat) (M:List Sec),Fine M->(∀ s ∈ l,s.size=64)->o+l.length<=M.length->Fine (nI l o M)
 | [],_,_,h,_,_=>h
 | s::r,o,M,h,hl,hb=>by
  simp at hb;exact uH r (o+1) _ (Gp h s _ ⟨⟨by omega,by omega⟩,hl s (by simp)⟩) (fun x hx=>hl x (by simp[hx])) (by rw[V8];omega)
def dW (l:List ByteArray) (o:Nat) (M:List Sec):List Sec:=iI (fun _=>64) (nI l o M) (idxs Sec.dirty (nI l o M))
theorem ku (l:List ByteArray) (o:Nat) (M:List Sec):(dW l o M).length=M.length:=by unfold dW;rw[qJ,qj]
section
variable {l:List ByteArray} {o:Nat} {M:List Sec}
theorem Bq (hf:Fine M) (hl:∀ s ∈ l,s.size=64) (hb:o+l.length<=M.length):dW l o M=(nI l o M).map Sec.flushed:=by
 unfold dW;exact XZ (uH l o M hf hl hb)
theorem uI {x:Sec} (h:x.dirty=false):x.flushed=x:=by unfold Sec.flushed;rw[if_neg (by rw[h];decide)]
theorem tC {x:Sec} (h:x.dirty=false) (s:ByteArray):(x.eX=true/\(x.write s).flushed=x)\/(x.eX=false/\(x.write s).flushed.now=s/\(x.write s).flushed.eX=false):=by
 cases hw:x.eX
 ·right
  refine⟨rfl,?_,?_⟩<;>(unfold Sec.write Sec.flushed;rw[hw];rfl)
 ·left
  refine⟨rfl,?_⟩;have:x.write s=x:=by unfold Sec.write;rw[if_pos hw]
  rw[this,uI h]
theorem Gw (hf:Fine M) (hc:Clean M) (hl:∀ s ∈ l,s.size=64) (hb:o+l.length<=M.length) (i:Nat) (hi:i<o\/o+l.length<=i):(dW l o M)[i]? =M[i]? :=by
 rw[Bq hf hl hb,sD,FX l o M i hi];cases hx:M[i]? with
 | none=>rfl
 | some x=>exact congrArg some (uI (hc x (zI hx)))
theorem Nu (hf:Fine M) (hl:∀ s ∈ l,s.size=64) (hb:o+l.length<=M.length) (k:Nat) (x:Sec) (s:ByteArray) (hx:M[o+k]? =some x) (hs:l[k]? =some s):(dW l o M)[o+k]? =some (x.write s).flushed:=by
 rw[Bq hf hl hb,sD,TQ l o M k x s hx hs];rfl
theorem qZ (hf:Fine M) (hl:∀ s ∈ l,s.size=64) (hb:o+l.length<=M.length):Clean (dW l o M):=by
 rw[Bq hf hl hb];intro s hs;obtain⟨x,_,rfl⟩:=List.mem_map.1 hs;exact JF x
theorem uJ (hf:Fine M) (hl:∀ s ∈ l,s.size=64) (hb:o+l.length<=M.length):Fine (dW l o M):=by
 have h:=uH l o M hf hl hb;rw[Bq hf hl hb];intro s hs;obtain⟨x,hx,rfl⟩:=List.mem_map.1 hs;have hx2:=h x hx;unfold Sec.flushed;split
 ·rename_i hd;exact⟨hx2.2.2 hd,hx2.1,fun e=>by cases e⟩
 ·exact hx2
theorem Yb (hf:Fine M) (hc:Clean M) (hl:∀ s ∈ l,s.size=64) (hb:o+l.length<=M.length) (i:Nat) (x y:Sec) (hx:M[i]? =some x) (hy:(dW l o M)[i]? =some y):y.eX=x.eX:=by
 by_cases hi:i<o\/o+l.length<=i
 ·rw[Gw hf hc hl hb i hi,hx] at hy;cases hy;rfl
 ·obtain⟨k,rfl⟩:∃ k,i=o+k:=⟨i-o,by omega⟩;have hk:k<l.length:=by omega
  rw[Nu hf hl hb k x _ hx (jB hk)] at hy;cases hy;rcases tC (hc x (zI hx)) l[k] with⟨h1,h2⟩ | ⟨h1,_,h2⟩
  ·rw[h2]
  ·rw[h2,h1]
end
def badM (l:List ByteArray) (o:Nat) (M:List Sec) (k:Nat):Bool:=(List.range k).any fun i=> !((M.getD (o+i) default).now.data.toList==(l.getD i ⟨#[]⟩).data.toList)
theorem Yc (l:List ByteArray) (o:Nat) (M:List Sec) (k:Nat) (x:Sec) (s:ByteArray) (hx:M[o+k]? =some x) (hs:l[k]? =some s):badM l o M (k+1)=(badM l o M k || !(x.now.data.toList==s.data.toList)):=by
 have e1:M.getD (o+k) default=x:=by rw[En,hx];rfl
 have e2:l.getD k ⟨#[]⟩=s:=by rw[En,hs];rfl
 unfold badM;rw[List.range_succ,List.any_append,List.any_cons,List.any_nil,Bool.or_false,e1,e2]
theorem adH {l:List ByteArray} {o:Nat} {M:List Sec} {k:Nat} (h:badM l o M k=false) (i:Nat) (hi:i<k) (x:Sec) (s:ByteArray) (hx:M[o+i]? =some x) (hs:l[i]? =some s):x.now=s:=by
 unfold badM at h;rw[List.any_eq_false] at h;have h1:=h i (List.mem_range.2 hi);have e1:M.getD (o+i) default=x:=by rw[En,hx];rfl
 have e2:l.getD i ⟨#[]⟩=s:=by rw[En,hs];rfl
 rw[e1,e2] at h1;have h2:x.now.data.toList=s.data.toList:=by simpa using h1
 apply ByteArray.ext;exact Array.ext' h2
theorem Pz {l:List ByteArray} {o:Nat} {M:List Sec} {k:Nat} (h:∀ i,i<k->∃ (x:Sec) (s:ByteArray),M[o+i]? =some x/\l[i]? =some s/\x.now=s):badM l o M k=false:=by
 unfold badM;rw[List.any_eq_false];intro i hi;obtain⟨x,s,hx,hs,e⟩:=h i (List.mem_range.1 hi);have e1:M.getD (o+i) default=x:=by rw[En,hx];rfl
 have e2:l.getD i ⟨#[]⟩=s:=by rw[En,hs];rfl
 rw[e1,e2,e];simp
def aP (M:List Sec):dh:=M.map fun s=>s.now.data.toList
theorem pq (M:List Sec) (i:Nat):(aP M)[i]? =(M[i]?).map fun s=>s.now.data.toList:=sD ..
theorem eG (M:List Sec):(aP M).length=M.length:=lq ..
theorem xA {M:List Sec} {o N:Nat} {t:ByteArray} (hf:Fine M) (hc:Clean M) (hb:o+aj t.size<=M.length):aaC (aP M) (aP (dW (aQ N t) o M)) o (iF N t.data.toList):=by
 have hl:=jU N t;have hb':o+(aQ N t).length<=M.length:=by rw[jf];exact hb
 refine⟨by rw[eG,eG,ku],fun i s hs=>?_,fun i hi=>?_⟩
 ·rw[pq] at hs ⊢;by_cases hi:i<o\/o+(aQ N t).length<=i
  ·rw[Gw hf hc hl hb' i hi] at hs;exact .inl hs
  ·obtain⟨k,rfl⟩:∃ k,i=o+k:=⟨i-o,by omega⟩;have hk:k<(aQ N t).length:=by omega
   have hkc:k<aj t.size:=by rw[jf] at hk;exact hk
   obtain⟨x,hx⟩:∃ x,M[o+k]? =some x:=⟨_,jB (by omega)⟩;rw[Nu hf hl hb' k x _ hx (nR N t k hkc)] at hs;rcases tC (hc x (zI hx)) (gJ N t k) with⟨_,h2⟩ | ⟨_,h2,_⟩
   ·rw[h2] at hs
    left
    rw[hx];exact hs
   ·right
    refine⟨k,rfl,?_⟩;rw[<-Ns,sD,nR N t k hkc];have hs':some ((gJ N t k).data.toList)=some s:=by rw[<-hs];show _=some (x.write (gJ N t k)).flushed.now.data.toList;rw[h2]
    exact hs'
 ·rw[pq,pq,Gw hf hc hl hb' i (by rw[jf];rw[je] at hi;exact hi)]
theorem PD {M:List Sec} {o N:Nat} {t:ByteArray} (_hf:Fine M) (hb:o+aj t.size<=M.length) (hg:badM (aQ N t) o (dW (aQ N t) o M) (aj t.size)=false) (k:Nat) (hk:k<aj t.size):
  (aP (dW (aQ N t) o M))[o+k]? =(iF N t.data.toList)[k]? :=by
 obtain⟨y,hy⟩:∃ y,(dW (aQ N t) o M)[o+k]? =some y:=⟨_,jB (by rw[ku];omega)⟩;have e:=adH hg k hk y _ hy (nR N t k hk);rw[pq,hy,<-Ns,sD,nR N t k hk];show some y.now.data.toList=some _
 rw[e]
theorem TR {M:List Sec} {o N:Nat} {t:ByteArray} (hf:Fine M) (hc:Clean M) (hb:o+aj t.size<=M.length) (hw:∀ i x,o<=i->i<o+aj t.size->M[i]? =some x->x.eX=false):
  badM (aQ N t) o (dW (aQ N t) o M) (aj t.size)=false:=by
 apply Pz;intro i hi;have hl:=jU N t;have hb':o+(aQ N t).length<=M.length:=by rw[jf];exact hb
 obtain⟨x,hx⟩:∃ x,M[o+i]? =some x:=⟨_,jB (by omega)⟩;refine⟨_,_,Nu hf hl hb' i x _ hx (nR N t i hi),nR N t i hi,?_⟩;rcases tC (hc x (zI hx)) (gJ N t i) with⟨h1,_⟩ | ⟨_,h2,_⟩
 ·rw[hw (o+i) x (by omega) (by omega) hx] at h1;cases h1
 ·exact h2
end
section
open Sec (iF eH aj bn joinL dw gJ bQ xw je uG oK jd Yd KI)
structure qm where
 ay:Nat
 used:Nat
 next:Nat
 l:List (Nat×ByteArray)
 dL:Bool
def nS (l:List (Nat×ByteArray)):Nat:=(l.getLast?.map Prod.fst).getD 0
def oL (l:List (Nat×ByteArray)):Nat:=(l.head?.map Prod.fst).getD 0
def oV (h:Nat) (t:ByteArray) (J:qm) (M:List Sec):(Int×Int)×qm×List Sec:=
 if J.dL=true then ((0,23),J,M)
 else if h<J.used+aj t.size then ((0,15),J,M)
 else if badM (aQ J.next t) (J.ay*h+J.used) (dW (aQ J.next t) (J.ay*h+J.used) M) (aj t.size)=true then
  ((0,23),{ J with next:=J.next+1,dL:=true },dW (aQ J.next t) (J.ay*h+J.used) M)
 else ((J.next,0),⟨J.ay,J.used+aj t.size,J.next+1,J.l++ [(J.next,t)],false⟩,dW (aQ J.next t) (J.ay*h+J.used) M)
def lY (h:Nat) (t:ByteArray) (J:qm) (M:List Sec):(Int×Int)×qm×List Sec:=
 if h<aj t.size then ((0,15),J,M)
 else if badM (aQ J.next t) ((1-J.ay)*h) (dW (aQ J.next t) ((1-J.ay)*h) M) (aj t.size)=true then
  ((0,23),{ J with next:=J.next+1 },dW (aQ J.next t) ((1-J.ay)*h) M)
 else ((J.next,0),⟨1-J.ay,aj t.size,J.next+1,[(J.next,t)],false⟩,dW (aQ J.next t) ((1-J.ay)*h) M)
structure JInv (h:Nat) (J:qm) (M:List Sec):Prop where
 fine:Fine M
 clean:Clean M
 len:2*h<=M.length
 pos:1<=h
 ay:J.ay=0\/J.ay=1
 used:J.used<=h
 next:1<=J.next
 under:Under (aP M) J.next
 last:nS J.l<J.next
 path:∃ xs,Path (aC (aP M) (J.ay*h) h 0) 0 0 xs J.used (nS J.l)/\xs.map (fun x=>(x.2.1,x.2.2))=J.l.map fun e=>(e.1,e.2.data.toList)
 stop:recAt (aC (aP M) (J.ay*h) h 0) J.used (nS J.l)=none
 other:(joinL (aC (aP M) ((1-J.ay)*h) h 0)).e=0->J.l≠ []/\(joinL (aC (aP M) ((1-J.ay)*h) h 0)).number<oL J.l
 none0:J.l= []->J.ay=0
 rest:∀ (i:Nat) (s:List UInt8),2*h<=i->(aP M)[i]? =some s->dw s=none
theorem xB (T:dh) (o h u:Nat):(aC T o h 0).drop u=aC T o h u:=by
 unfold aC;rw[List.drop_zero]
theorem oM (l:List (Nat×ByteArray)) (n:Nat) (t:ByteArray):nS (l++ [(n,t)])=n:=by simp[nS]
theorem EC (l:List (Nat×ByteArray)) (e:Nat×ByteArray) (h:l≠ []):oL (l++ [e])=oL l:=by
 cases l with
 | nil=>exact absurd rfl h
 | cons x r=>rfl
section
variable {h:Nat} {J:qm} {M:List Sec} {t:ByteArray}
theorem JInv.ru (I:JInv h J M):J.ay*h+h<=M.length/\(1-J.ay)*h+h<=M.length:=by
 have:=I.len;rcases I.ay with e | e<;>rw[e]<;>simp<;>omega
theorem KG {N o:Nat} (hb:o+aj t.size<=M.length) (hg:∀ k,k<aj t.data.toList.length->(aP (dW (aQ N t) o M))[o+k]? =(iF N t.data.toList)[k]?):badM (aQ N t) o (dW (aQ N t) o M) (aj t.size)=false:=by
 apply Pz;intro i hi;obtain⟨y,hy⟩:∃ y,(dW (aQ N t) o M)[o+i]? =some y:=⟨_,jB (by rw[ku];omega)⟩;refine⟨y,_,hy,nR N t i hi,?_⟩;have h1:=hg i hi;rw[pq,hy,<-Ns,sD,nR N t i hi] at h1;have h2:y.now.data.toList=(gJ N t i).data.toList:=by simpa using h1
 apply ByteArray.ext;exact Array.ext' h2
theorem FY {T':dh} {o hh u N last:Nat} (hT:o+hh<=T'.length) (hN:1<=N/\N<=bn) (ht:t.size<=8000) (hu:u+aj t.size<=hh) (hl:last<N) (hg:∀ k,k<aj t.size->T'[o+u+k]? =(iF N t.data.toList)[k]?):
  recAt (aC T' o hh 0) u last=some (u+aj t.size,N,t.data.toList):=by
 have hp:joinL (iF N t.data.toList++ [])=⟨N,t.data.toList,aj t.size,0⟩:=Yd N t.data.toList [] hN.1 hN.2 ht;have hc:=jd t.size;have e:joinL (aC T' o hh u)=⟨N,t.data.toList,aj t.size,0⟩:=by
  rw[<-hp];refine yN (by rw[hp]) (fun i hi=>?_);rw[hp] at hi;have hi':i<aj t.size:=hi;rw[fO _ _ _ _ _ (by omega),hg i hi',List.append_nil]
 unfold recAt;rw[xB,e,if_pos ⟨by rw[fD _ _ _ _ hT];omega,rfl,hl⟩]
theorem nT {T':dh} {o hh u last:Nat} (hT:o+hh<=T'.length) (hj:u<hh->(joinL (aC T' o hh u)).e=0->(joinL (aC T' o hh u)).number<=last):recAt (aC T' o hh 0) u last=none:=by
 unfold recAt;rw[xB,if_neg];rintro⟨h1,h2,h3⟩;rw[fD _ _ _ _ hT] at h1;have:=hj (by omega) h2;omega
theorem FZ {T:dh} {o hh u last:Nat} (hT:o+hh<=T.length) (h0:recAt (aC T o hh 0) u last=none) (hu:u<hh) (he:(joinL (aC T o hh u)).e=0):(joinL (aC T o hh u)).number<=last:=by
 unfold recAt at h0;rw[xB] at h0;split at h0
 ·cases h0
 ·rename_i hc;by_cases hl:last<(joinL (aC T o hh u)).number
  ·exact absurd ⟨by rw[fD _ _ _ _ hT];omega,he,hl⟩ hc
  ·omega
theorem Bv {o N:Nat} (I:JInv h J M) (hb:o+aj t.size<=2*h):∀ (i:Nat) (s:List UInt8),2*h<=i->(aP (dW (aQ N t) o M))[i]? =some s->dw s=none:=by
 intro i s hi hs;have hp:=xA (t:=t) (N:=N) (o:=o) I.fine I.clean (by have:=I.len;omega);rw[hp.out i (.inr (by rw[je];show o+aj t.size<=i;omega))] at hs;exact I.rest i s hi hs
theorem TS (I:JInv h J M) (hN:J.next<=bn) (ht:t.size<=8000):JInv h (oV h t J M).2.1 (oV h t J M).2.2:=by
 unfold oV;split
 ·exact I
 split
 ·exact I
 rename_i hr;have hc:=jd t.size;obtain⟨b1,b2⟩:=I.ru;have hl:=jU J.next t;have hr3:J.ay*h+J.used+aj t.size<=2*h:=by
  rcases I.ay with e | e<;>rw[e]<;>omega
 have hb:J.ay*h+J.used+aj t.size<=M.length:=by omega
 have hb':J.ay*h+J.used+(aQ J.next t).length<=M.length:=by rw[jf];exact hb
 have hp:=xA (t:=t) (N:=J.next) (o:=J.ay*h+J.used) I.fine I.clean hb;have hNN:1<=J.next/\J.next<=bn:=⟨I.next,hN⟩;have pz:=fun(b u:Nat) (hbb:b+h<=(aP M).length)=>Px hp hNN ht I.under b h u hbb
 obtain⟨xs,xC,hxs⟩:=I.path;have hT:J.ay*h+h<=(aP M).length:=by rw[eG];exact b1
 have hT2:(1-J.ay)*h+h<=(aP M).length:=by rw[eG];exact b2
 have hT':J.ay*h+h<=(aP (dW (aQ J.next t) (J.ay*h+J.used) M)).length:=by rw[hp.len];exact hT
 have hlen:(aC (aP (dW (aQ J.next t) (J.ay*h+J.used) M)) (J.ay*h) h 0).length=(aC (aP M) (J.ay*h) h 0).length:=by rw[fD _ _ _ _ hT',fD _ _ _ _ hT]
 have hkeep:∀ i,i<J.used->(aC (aP (dW (aQ J.next t) (J.ay*h+J.used) M)) (J.ay*h) h 0)[i]? =(aC (aP M) (J.ay*h) h 0)[i]? :=by
  intro i hi;have:=I.used;rw[fO _ _ _ _ _ (by omega),fO _ _ _ _ _ (by omega)];exact hp.out _ (.inl (by omega))
 have Gx:=yO hlen xC hkeep;have TU:¬ (1-J.ay)*h+0=J.ay*h+J.used:=by
  have:=I.pos;rcases I.ay with e | e<;>rw[e]<;>simp<;>omega
 have hoth:(joinL (aC (aP (dW (aQ J.next t) (J.ay*h+J.used) M)) ((1-J.ay)*h) h 0)).e=0->J.l≠ []/\(joinL (aC (aP (dW (aQ J.next t) (J.ay*h+J.used) M)) ((1-J.ay)*h) h 0)).number<oL J.l:=by
  intro he;rcases pz _ 0 hT2 he with⟨_,e⟩ | ⟨_,e,_⟩
  ·rw[<-e] at he ⊢;exact I.other he
  ·exact absurd e TU
 split
 ·rename_i hbad;refine⟨uJ I.fine hl hb',qZ I.fine hl hb',by rw[ku];exact I.len,I.pos,I.ay,I.used,by show 1<=J.next+1;omega,yP hp hNN ht I.under,Nat.lt_succ_of_lt I.last,⟨xs,Gx,hxs⟩,?_,hoth,I.none0,Bv I hr3⟩;refine nT hT' (fun hu he=>?_);rcases pz _ _ hT he with⟨_,e⟩ | ⟨_,_,hg⟩
  ·rw[<-e] at he ⊢;exact FZ hT I.stop hu he
  ·rw[KG hb hg] at hbad;cases hbad
 ·rename_i hbad;have hgood:=PD (t:=t) (N:=J.next) (o:=J.ay*h+J.used) I.fine hb (by simpa using hbad);have hnew:=FY (T':=aP (dW (aQ J.next t) (J.ay*h+J.used) M)) (last:=nS J.l) hT' hNN ht (by omega:J.used+aj t.size<=h) I.last hgood;refine⟨uJ I.fine hl hb',qZ I.fine hl hb',by rw[ku];exact I.len,I.pos,I.ay,by show J.used+aj t.size<=h;omega,by show 1<=J.next+1;omega,yP hp hNN ht I.under,by show nS (J.l++ [(J.next,t)])<J.next+1;rw[oM];omega,⟨xs++ [(J.used+aj t.size,J.next,t.data.toList)],?_,?_⟩,?_,?_,?_,Bv I hr3⟩
  ·show Path _ 0 0 _ (J.used+aj t.size) (nS (J.l++ [(J.next,t)]))
   rw[oM];exact uF Gx hnew
  ·show _=(J.l++ [(J.next,t)]).map _
   rw[Gh,hxs,Gh];rfl
  ·show recAt (aC (aP (dW (aQ J.next t) (J.ay*h+J.used) M)) (J.ay*h) h 0) (J.used+aj t.size) (nS (J.l++ [(J.next,t)]))=none
   rw[oM];refine nT hT' (fun hu he=>?_);rcases pz _ _ hT he with⟨e,_⟩ | ⟨_,e,_⟩
   ·omega
   ·omega
  ·show(joinL (aC (aP (dW (aQ J.next t) (J.ay*h+J.used) M)) ((1-J.ay)*h) h 0)).e=0->J.l++ [(J.next,t)]≠ []/\(joinL (aC (aP (dW (aQ J.next t) (J.ay*h+J.used) M)) ((1-J.ay)*h) h 0)).number<oL (J.l++ [(J.next,t)])
   intro he;obtain⟨h1,h2⟩:=hoth he;exact⟨by simp,by rw[EC _ _ h1];exact h2⟩
  ·show J.l++ [(J.next,t)]= []->_
   intro e;simp at e
theorem PE (I:JInv h J M) (hN:J.next<=bn) (ht:t.size<=8000):JInv h (lY h t J M).2.1 (lY h t J M).2.2:=by
 unfold lY;split
 ·exact I
 rename_i hr;have hc:=jd t.size;obtain⟨b1,b2⟩:=I.ru;have hl:=jU J.next t;have hb:(1-J.ay)*h+aj t.size<=M.length:=by omega
 have hb':(1-J.ay)*h+(aQ J.next t).length<=M.length:=by rw[jf];exact hb
 have hp:=xA (t:=t) (N:=J.next) (o:=(1-J.ay)*h) I.fine I.clean hb;have hNN:1<=J.next/\J.next<=bn:=⟨I.next,hN⟩;have pz:=fun(b u:Nat) (hbb:b+h<=(aP M).length)=>Px hp hNN ht I.under b h u hbb
 have hT:J.ay*h+h<=(aP M).length:=by rw[eG];exact b1
 have hT2:(1-J.ay)*h+h<=(aP M).length:=by rw[eG];exact b2
 have hT':J.ay*h+h<=(aP (dW (aQ J.next t) ((1-J.ay)*h) M)).length:=by rw[hp.len];exact hT
 have aaD:(1-J.ay)*h+h<=(aP (dW (aQ J.next t) ((1-J.ay)*h) M)).length:=by rw[hp.len];exact hT2
 have hr2:(1-J.ay)*h+aj t.size<=2*h:=by rcases I.ay with e | e<;>rw[e]<;>simp<;>omega
 split
 ·rename_i hbad;obtain⟨xs,xC,hxs⟩:=I.path;have hlen:(aC (aP (dW (aQ J.next t) ((1-J.ay)*h) M)) (J.ay*h) h 0).length=(aC (aP M) (J.ay*h) h 0).length:=by rw[fD _ _ _ _ hT',fD _ _ _ _ hT]
  have hkeep:∀ i,i<J.used->(aC (aP (dW (aQ J.next t) ((1-J.ay)*h) M)) (J.ay*h) h 0)[i]? =(aC (aP M) (J.ay*h) h 0)[i]? :=by
   intro i hi;have hu:=I.used;rw[fO _ _ _ _ _ (by omega),fO _ _ _ _ _ (by omega)];refine hp.out _ ?_;rw[je];have hcc:aj t.data.toList.length=aj t.size:=rfl;rcases I.ay with e | e<;>rw[e]<;>simp<;>omega
  refine⟨uJ I.fine hl hb',qZ I.fine hl hb',by rw[ku];exact I.len,I.pos,I.ay,I.used,by show 1<=J.next+1;omega,yP hp hNN ht I.under,Nat.lt_succ_of_lt I.last,⟨xs,yO hlen xC hkeep,hxs⟩,?_,?_,I.none0,Bv I hr2⟩
  ·show recAt (aC (aP (dW (aQ J.next t) ((1-J.ay)*h) M)) (J.ay*h) h 0) J.used (nS J.l)=none
   refine nT hT' (fun hu he=>?_);rcases pz _ _ hT he with⟨_,e⟩ | ⟨_,e,_⟩
   ·rw[<-e] at he ⊢;exact FZ hT I.stop hu he
   ·exfalso
    have:=I.pos;rcases I.ay with e0 | e0<;>rw[e0] at e<;>simp at e<;>omega
  ·intro he;rcases pz _ 0 hT2 he with⟨_,e⟩ | ⟨_,_,hg⟩
   ·have h3:=I.other;rw[e] at h3;exact h3 he
   ·rw[KG hb hg] at hbad;cases hbad
 ·rename_i hbad;have hgood:=PD (t:=t) (N:=J.next) (o:=(1-J.ay)*h) I.fine hb (by simpa using hbad);have hnew:=FY (T':=aP (dW (aQ J.next t) ((1-J.ay)*h) M)) (u:=0) (last:=0) aaD hNN ht (by omega:0+aj t.size<=h) hNN.1 (fun k hk=>by rw[Nat.add_zero];exact hgood k hk);rw[AZ] at hnew;have hbk:1-J.ay=0\/1-J.ay=1:=by omega
  have hbb:1-(1-J.ay)=J.ay:=by rcases I.ay with e | e<;>rw[e]
  refine⟨uJ I.fine hl hb',qZ I.fine hl hb',by rw[ku];exact I.len,I.pos,hbk,by show aj t.size<=h;omega,by show 1<=J.next+1;omega,yP hp hNN ht I.under,by show J.next<J.next+1;omega,⟨[(aj t.size,J.next,t.data.toList)],.cons hnew (.nil _ _),rfl⟩,?_,?_,fun e=>(by cases e),Bv I hr2⟩
  ·show recAt (aC (aP (dW (aQ J.next t) ((1-J.ay)*h) M)) ((1-J.ay)*h) h 0) (aj t.size) J.next=none
   refine nT aaD (fun hu he=>?_);rcases pz _ _ hT2 he with⟨e,_⟩ | ⟨_,e,_⟩
   ·omega
   ·omega
  ·show(joinL (aC (aP (dW (aQ J.next t) ((1-J.ay)*h) M)) ((1-(1-J.ay))*h) h 0)).e=0-> [(J.next,t)]≠ []/\(joinL (aC (aP (dW (aQ J.next t) ((1-J.ay)*h) M)) ((1-(1-J.ay))*h) h 0)).number<J.next
   rw[hbb];intro he;refine⟨by simp,?_⟩;rcases pz _ 0 hT he with⟨e,_⟩ | ⟨_,e,_⟩
   ·exact e
   ·exfalso
    have:=I.pos;rcases I.ay with e0 | e0<;>rw[e0] at e<;>simp at e<;>omega
end
end
section
open Sec (joinL)
theorem Ye {B:dh} {u last u' last':Nat} {xs:List (Nat×Nat×List UInt8)} (h:Path B u last xs u' last'):∀ f,B.length<f+u->∃ f',uD f B u last=xs++uD f' B u' last'/\B.length<f'+u':=by
 induction h with
 | nil u last=>exact fun f hf=>⟨f,rfl,hf⟩
 | cons hx r ih=>
  intro f hf;have h1:=o9 hx;cases f with
  | zero=>omega
  | succ f=>
   obtain⟨f',e,hf'⟩:=ih f (by omega);refine⟨f',?_,hf'⟩;show(match recAt B _ _ with | none=> [] | some x=>x::uD f B x.1 x.2.1)=_
   rw[hx];show _::uD f B _ _=_
   rw[e];rfl
theorem KH {B:dh} {u last:Nat} {xs:List (Nat×Nat×List UInt8)} {x:Nat×Nat×List UInt8} (h:Path B 0 0 xs u last) (hx:recAt B u last=some x):(recs B)[xs.length]? =some x:=by
 obtain⟨f,e,hf⟩:=Ye h (B.length+1) (by omega);unfold recs;rw[e,ZP (aF _),Nat.sub_self];have h1:=o9 hx;cases f with
 | zero=>omega
 | succ f=>
  show(match recAt B _ _ with | none=> [] | some x=>x::uD f B x.1 x.2.1)[0]? =_
  rw[hx];rfl
theorem xE {B:dh} {u last:Nat} {xs:List (Nat×Nat×List UInt8)} (h:Path B 0 0 xs u last) (hx:recAt B u last=none):recs B=xs:=DI h hx _ (by omega)
theorem Wq {B:dh} {u last:Nat} {xs:List (Nat×Nat×List UInt8)} {u0 ED:Nat} (h:Path B u0 ED xs u last):u<=max u0 B.length:=by
 induction h with
 | nil u last=>omega
 | cons hx r ih=>
  have:=o9 hx;omega
end
section
open Sec (joinL dw bQ xw bn KI)
def nx (m n:Nat):Nat:=if n<=bn then max m (n+1) else m
def iQ:dh->Nat->Nat
 | [],m=>m
 | s::r,m=>iQ r (nx (nx m (bQ (s.take 8))) (bQ (s.drop (s.length-8))))
theorem Wu (m n:Nat):m<=nx m n:=by
 unfold nx;split
 ·exact Nat.le_max_left _ _
 ·exact aF _
theorem aaE (m n:Nat) (h:n<=bn):n<nx m n:=by
 unfold nx;rw[if_pos h];exact rY (Nat.lt_succ_self n) (Nat.le_max_right _ _)
theorem xG:∀ (l:dh) (m:Nat),m<=iQ l m
 | [],_=>aF _
 | _::r,m=>fU (fU (Wu m _) (Wu _ _)) (xG r _)
theorem Yf {s:List UInt8} {p:xw} (h:dw s=some p):bQ (s.take 8)<=bn:=by
 unfold dw at h;split at h
 ·rename_i hc;exact hc.2.2.1
 ·cases h
theorem EF:∀ (l:dh) (m:Nat) (s:List UInt8) (p:xw),s ∈ l->dw s=some p->p.number<iQ l m
 | [],_,_,_,h,_=>by simp at h
 | t::r,m,s,p,h,hp=>by
  show p.number<iQ r _
  rcases List.mem_cons.1 h with rfl | h1
  ·have h2:=(KI hp).2.1;have h3:=aaE m _ (Yf hp);rw[<-h2] at h3;exact rY h3 (fU (by rw[h2];exact Wu _ _) (xG r _))
  ·exact EF r _ s p h1 hp
def eu (B:dh):Nat:=((recs B).head?.map fun x=>x.2.1).getD 0
def fH (h:Nat) (M:List Sec):Nat:=if eu (aC (aP M) (0*h) h 0)<eu (aC (aP M) (1*h) h 0) then 1 else 0
def bT (h:Nat) (M:List Sec):qm:=
 ⟨fH h M,((recs (aC (aP M) (fH h M*h) h 0)).getLast?.map fun x=>x.1).getD 0,iQ ((aP M).take (2*h)) 1,(recs (aC (aP M) (fH h M*h) h 0)).map fun x=>(x.2.1,⟨x.2.2.toArray⟩),false⟩
section
variable {h:Nat} {J:qm} {M:List Sec}
theorem KJ {B:dh} {u last u0 ED:Nat} {xs:List (Nat×Nat×List UInt8)} (h:Path B u0 ED xs u last):u=(xs.getLast?.map fun x=>x.1).getD u0/\last=(xs.getLast?.map fun x=>x.2.1).getD ED:=by
 induction h with
 | nil u last=>exact⟨rfl,rfl⟩
 | cons hx r ih=>
  rename_i u last x xs u' last';cases xs with
  | nil=>exact ih
  | cons y ys=>
   rw[List.getLast?_cons_cons];obtain⟨e1,e2⟩:=ih;cases hg:(y::ys).getLast? with
   | none=>simp at hg
   | some z=>rw[hg] at e1 e2;exact⟨e1,e2⟩
theorem aaF (l:List (Nat×ByteArray)) (xs:List (Nat×Nat×List UInt8)) (hx:xs.map (fun x=>(x.2.1,x.2.2))=l.map fun e=>(e.1,e.2.data.toList)):(xs.map fun x=>((x.2.1,⟨x.2.2.toArray⟩):Nat×ByteArray))=l:=by
 have e:(xs.map fun x=>((x.2.1,⟨x.2.2.toArray⟩):Nat×ByteArray))=(xs.map (fun x=>(x.2.1,x.2.2))).map fun y:Nat×List UInt8=>(y.1,(⟨y.2.toArray⟩:ByteArray)):=by
  rw[List.map_map];rfl
 rw[e,hx,List.map_map];have:∀ y:Nat×ByteArray,((fun y:Nat×List UInt8=>(y.1,(⟨y.2.toArray⟩:ByteArray))) ∘ fun e:Nat×ByteArray=>(e.1,e.2.data.toList)) y=y:=fun y=>rfl
 conv=>rhs;rw[<-List.map_id l]
 apply List.map_congr_left;intro y _;exact this y
theorem mP (I:JInv h J M):(bT h M).ay=J.ay/\(bT h M).used=J.used/\(bT h M).l=J.l:=by
 obtain⟨xs,hp,hx⟩:=I.path;have hre:=xE hp I.stop;have hfirst:eu (aC (aP M) (J.ay*h) h 0)=oL J.l:=by
  unfold eu oL;rw[hre];cases xs with
  | nil=>
   cases hl:J.l with
   | nil=>rfl
   | cons y ys=>rw[hl] at hx;simp at hx
  | cons x r=>
   cases hl:J.l with
   | nil=>rw[hl] at hx;simp at hx
   | cons y ys=>
    rw[hl] at hx;simp at hx;exact hx.1.1
 have hother:eu (aC (aP M) ((1-J.ay)*h) h 0)=0\/(J.l≠ []/\eu (aC (aP M) ((1-J.ay)*h) h 0)<oL J.l):=by
  cases hr:recAt (aC (aP M) ((1-J.ay)*h) h 0) 0 0 with
  | none=>
   left
   unfold eu;rw[xE (.nil 0 0) hr];rfl
  | some x=>
   right
   have h1:(recs (aC (aP M) ((1-J.ay)*h) h 0))[0]? =some x:=KH (.nil 0 0) hr;have h2:eu (aC (aP M) ((1-J.ay)*h) h 0)=x.2.1:=by
    unfold eu;rw[List.head?_eq_getElem?,h1];rfl
   rw[h2];unfold recAt at hr;split at hr
   ·rename_i hc;cases hr;rw[List.drop_zero] at hc ⊢;exact I.other hc.2.1
   ·cases hr
 have aaG:fH h M=J.ay:=by
  unfold fH;rcases I.ay with e | e
  ·rw[e] at hfirst hother ⊢;rw[hfirst];rcases hother with h0 | ⟨_,h0⟩
   ·rw[if_neg];have h0':eu (aC (aP M) (1*h) h 0)=0:=h0;omega
   ·rw[if_neg];have h0':eu (aC (aP M) (1*h) h 0)<oL J.l:=h0;omega
  ·rw[e] at hfirst hother ⊢;rw[hfirst];have hne:J.l≠ []:=fun e0=>by have:=I.none0 e0;omega
   have hpos:0<oL J.l:=by
    cases xs with
    | nil=>
     cases hl:J.l with
     | nil=>exact absurd hl hne
     | cons y ys=>rw[hl] at hx;simp at hx
    | cons x r=>
     cases hp with
     | cons hx0 _=>
      have:=o9 hx0;have e1:oL J.l=x.2.1:=by
       rw[<-hfirst];rw[e] at hre;unfold eu;rw[hre];rfl
      omega
   rcases hother with h0 | ⟨_,h0⟩
   ·rw[if_pos];have h0':eu (aC (aP M) (0*h) h 0)=0:=h0;omega
   ·rw[if_pos];exact h0
 obtain⟨p1,_⟩:=KJ hp;refine⟨aaG,?_,?_⟩
 ·show((recs (aC (aP M) (fH h M*h) h 0)).getLast?.map fun x=>x.1).getD 0=_
  rw[aaG,hre];exact p1.symm
 ·show(recs (aC (aP M) (fH h M*h) h 0)).map _=_
  rw[aaG,hre];exact aaF _ _ hx
end
end
section
open Sec (joinL dw bQ xw bn)
theorem aaH {B:dh} {u last u0 ED:Nat} {xs:List (Nat×Nat×List UInt8)} (h:Path B u0 ED xs u last):last=ED\/∃ (i:Nat) (s:List UInt8) (p:xw),B[i]? =some s/\dw s=some p/\p.number=last:=by
 induction h with
 | nil u last=>exact .inl rfl
 | cons hx r ih=>
  rename_i u last x xs u' last';rcases ih with e | ih
  ·right
   unfold recAt at hx;split at hx
   ·rename_i hc;cases hx;obtain⟨s,p,hs,hp,hn,_⟩:=Aj hc.2.1 0 (by have:=oJ hc.2.1;omega);rw[Nc] at hs;exact⟨_,s,p,hs,hp,hn.trans e.symm⟩
   ·cases hx
  ·exact .inr ih
section
variable {h:Nat} {J:qm} {M:List Sec}
theorem open_inv (I:JInv h J M):JInv h (bT h M) M:=by
 obtain⟨e1,e2,e3⟩:=mP I;have hK:bT h M=⟨J.ay,J.used,iQ ((aP M).take (2*h)) 1,J.l,false⟩:=by
  rw[<-e1,<-e2,<-e3];rfl
 have aaI:Under (aP M) (iQ ((aP M).take (2*h)) 1):=by
  intro i s p hs hp;by_cases hi:i<2*h
  ·refine EF _ 1 s p (zI (i:=i) ?_) hp;rw[List.getElem?_take,if_pos hi];exact hs
  ·rw[I.rest i s (by omega) hs] at hp;cases hp
 have hlast:nS J.l<iQ ((aP M).take (2*h)) 1:=by
  obtain⟨xs,hp,_⟩:=I.path;rcases aaH hp with e | ⟨i,s,p,hs,ho,hn⟩
  ·rw[e];exact rY Nat.zero_lt_one (xG _ 1)
  ·have hil:i<h:=by
    have h1:=(List.getElem?_eq_some_iff.1 hs).1;obtain⟨b1,_⟩:=I.ru;rw[fD _ _ _ _ (by rw[eG];exact b1)] at h1;omega
   rw[fO _ _ _ _ _ (by omega)] at hs;have:=aaI _ s p hs ho;omega
 rw[hK];exact⟨I.fine,I.clean,I.len,I.pos,I.ay,I.used,xG _ 1,aaI,hlast,I.path,I.stop,I.other,I.none0,I.rest⟩
end
end
open Sec (iF eH aj bn joinL dw gJ bQ jJ fZ get_put xw je uG oK jd WA DJ uK gQ Yl)
def Low (T:dh) (m:Nat):Prop:=∀ (i:Nat) (s:List UInt8),T[i]? =some s->bQ (s.take 8)<m/\bQ (s.drop (s.length-8))<m
theorem Wv {k m a:Nat} (h:a<m) (hk:k<=m):nx k a<=m:=by
 unfold nx;split<;>omega
theorem KN:∀ (T:dh) (k m:Nat),Low T m->k<=m->iQ T k<=m
 | [],_,_,_,h=>h
 | s::r,k,m,h,hk=>by
  show iQ r _<=m
  obtain⟨h1,h2⟩:=h 0 s rfl;exact KN r _ m (fun i t ht=>h (i+1) t (by simpa using ht)) (Wv h2 (Wv h1 hk))
theorem KO:∀ (T:dh) (k:Nat),Low T (bn+1)->Low T (iQ T k)
 | [],_,_=>fun i s h=>by simp at h
 | s::r,k,h=>by
  obtain⟨h1,h2⟩:=h 0 s rfl;intro i t ht;show _<iQ r _/\_<iQ r _
  cases i with
  | zero=>
   cases ht;have a1:=aaE k (bQ (s.take 8)) (by omega);have a2:=aaE (nx k (bQ (s.take 8))) (bQ (s.drop (s.length-8))) (by omega);have a3:=Wu (nx k (bQ (s.take 8))) (bQ (s.drop (s.length-8)));have a4:=xG r (nx (nx k (bQ (s.take 8))) (bQ (s.drop (s.length-8))));exact⟨by omega,by omega⟩
  | succ i=>exact KO r _ (fun i t ht=>h (i+1) t (by simpa using ht)) i t (by simpa using ht)
theorem agh {T:dh} {m n:Nat} (h:Low T m) (hn:m<=n):Low T n:=fun i s hs=>by
 obtain⟨h1,h2⟩:=h i s hs;exact⟨rY h1 hn,rY h2 hn⟩
theorem aaJ {T T':dh} {o:Nat} {P:dh} (h:aaC T T' o P) (n:Nat) (i:Nat) (s:List UInt8) (hs:(T'.take n)[i]? =some s):(T.take n)[i]? =some s\/∃ k,i=o+k/\P[k]? =some s:=by
 rw[List.getElem?_take] at hs ⊢;split at hs
 ·rename_i hi;rw[if_pos hi];exact h.at_ i s hs
 ·cases hs
theorem KP (N:Nat) (t:List UInt8) (i:Nat) (hN:N<=bn):bQ ((eH N t i).take 8)=N/\bQ ((eH N t i).drop ((eH N t i).length-8))=N:=by
 have hn:N<256^8:=by unfold Sec.bn at hN;omega
 have e1:(eH N t i).take 8=jJ N 8:=uK _ _ (fZ _ _);have htl:((t.drop (44*i)).take 44).length=min (t.length-44*i) 44:=by rw[ou,rX,Nat.min_comm]
 have e4:(eH N t i).drop 56=jJ N 8:=by
  unfold Sec.eH;rw[gQ _ _ (fZ 8 N) (by omega),gQ _ _ (fZ 2 i) (by omega),gQ _ _ (fZ 2 _) (by omega),gQ _ _ htl (by omega),gQ _ _ (FT) (by rw[htl];omega),htl];rw[show 56-8-2-2-min (t.length-44*i) 44-(44-min (t.length-44*i) 44)=0 by omega];rfl
 rw[oK,show 64-8=56 by rfl,e1,e4];exact⟨get_put 8 N hn,get_put 8 N hn⟩
theorem Wy {T T':dh} {o N:Nat} {t:List UInt8} (h:aaC T T' o (iF N t)) (hN:N<=bn) (n:Nat) (hl:Low (T.take n) N):Low (T'.take n) (N+1):=by
 intro i s hs;rcases aaJ h n i s hs with h1 | ⟨k,_,h2⟩
 ·obtain⟨a,b⟩:=hl i s h1;exact⟨by omega,by omega⟩
 ·unfold Sec.iF at h2;rw[sD] at h2;obtain⟨j,_,rfl⟩:=Option.map_eq_some_iff.1 h2;obtain⟨a,b⟩:=KP N t j hN;rw[a,b];exact⟨Nat.lt_succ_self N,Nat.lt_succ_self N⟩
section
variable {h:Nat} {J:qm} {M:List Sec} {t:ByteArray}
theorem TV (I:JInv h J M) (hN:J.next<=bn) (hl:Low ((aP M).take (2*h)) J.next):Low ((aP (oV h t J M).2.2).take (2*h)) (oV h t J M).2.1.next:=by
 unfold oV;split
 ·exact hl
 split
 ·exact hl
 rename_i hr;have hb:J.ay*h+J.used+aj t.size<=M.length:=by
  have:=I.len;rcases I.ay with e | e<;>rw[e]<;>omega
 have hp:=Wy (xA (t:=t) (N:=J.next) I.fine I.clean hb) hN (2*h) hl;split
 ·exact hp
 ·exact hp
theorem PG (I:JInv h J M) (hN:J.next<=bn) (hl:Low ((aP M).take (2*h)) J.next):Low ((aP (lY h t J M).2.2).take (2*h)) (lY h t J M).2.1.next:=by
 unfold lY;split
 ·exact hl
 rename_i hr;have hb:(1-J.ay)*h+aj t.size<=M.length:=by
  have:=I.ru.2;omega
 have hp:=Wy (xA (t:=t) (N:=J.next) I.fine I.clean hb) hN (2*h) hl;split
 ·exact hp
 ·exact hp
theorem Gy (I:JInv h J M) (hl:Low ((aP M).take (2*h)) J.next):(bT h M).next<=J.next:=KN _ 1 _ hl I.next
theorem JL (hN:J.next<=bn) (hl:Low ((aP M).take (2*h)) J.next):Low ((aP M).take (2*h)) (bT h M).next:=KO _ 1 (agh hl (by omega))
theorem PI (I:JInv h J M):bT h M=⟨J.ay,J.used,iQ ((aP M).take (2*h)) 1,J.l,false⟩:=by
 obtain⟨e1,e2,e3⟩:=mP I;rw[<-e1,<-e2,<-e3];rfl
end
def J0:qm:=⟨0,0,1,[],false⟩
theorem Yg (l:dh) (hl:∀ s ∈ l,s=WA):(joinL l).e≠0:=by
 intro h;obtain⟨s0,p,_,h0,_,hp,_⟩:=mY h;rw[hl s0 (zI h0),DJ] at hp;cases hp
theorem yQ (n:Nat):∀ s ∈ aP (List.replicate n Sec.blank),s=WA:=by
 intro s hs;unfold aP at hs;obtain⟨x,hx,rfl⟩:=List.mem_map.1 hs;rw[List.eq_of_mem_replicate hx];rfl
theorem aaK {T:dh} {o hh u:Nat} {s:List UInt8} (h:s ∈ aC T o hh u):s ∈ T:=by
 unfold aC at h;exact List.mem_of_mem_drop (List.mem_of_mem_take (List.mem_of_mem_drop h))
theorem yR (n h:Nat) (h1:1<=h) (hn:2*h<=n):JInv h J0 (List.replicate n Sec.blank):=by
 have hz:∀ o hh u,(joinL (aC (aP (List.replicate n Sec.blank)) o hh u)).e≠0:=fun o hh u=>Yg _ fun s hs=>yQ n s (aaK hs)
 refine⟨fun x hx=>?_,fun x hx=>?_,by rw[FT];exact hn,h1,.inl rfl,iT _,aF _,fun i s p hs hp=>?_,Nat.zero_lt_one,⟨[],.nil _ _,rfl⟩,?_,fun e=>absurd e (hz _ _ _),fun _=>rfl,fun i s _ hs=>?_⟩
 ·rw[List.eq_of_mem_replicate hx];exact⟨Gn,Gn,fun e=>by cases e⟩
 ·rw[List.eq_of_mem_replicate hx];rfl
 ·rw[yQ n s (zI hs),DJ] at hp;cases hp
 ·exact nT (by rw[eG,FT];show 0*h+h<=n;omega) (fun _ e=>absurd e (hz _ _ _))
 ·rw[yQ n s (zI hs)];exact DJ
theorem Yh (n m:Nat):Low ((aP (List.replicate n Sec.blank)).take m) 1:=by
 intro i s hs;rw[yQ n s (List.mem_of_mem_take (zI hs))];exact⟨by decide,by decide⟩
def lT (o:Nat) (M:List Sec):Prop:=∀ (i:Nat) (x:Sec),o<=i->M[i]? =some x->x.eX=false
section
variable {h:Nat} {J:qm} {M:List Sec} {t:ByteArray}
theorem KQ {o N b:Nat} (hf:Fine M) (hc:Clean M) (hb:b+aj t.size<=M.length) (hw:lT o M):lT o (dW (aQ N t) b M):=by
 intro i y hi hy;have hl:=(List.getElem?_eq_some_iff.1 hy).1;rw[ku] at hl;have hb':b+(aQ N t).length<=M.length:=by rw[jf];exact hb
 have:=Yb hf hc (jU N t) hb' i _ y (jB hl) hy;rw[this];exact hw i _ hi (jB hl)
theorem vK {N b:Nat} (hf:Fine M) (hc:Clean M) (hb:b+aj t.size<=M.length) (hw:lT b M):badM (aQ N t) b (dW (aQ N t) b M) (aj t.size)=false:=
 TR hf hc hb fun i x h1 _ hx=>hw i x h1 hx
theorem uM {a b:Nat} (h:lT a M) (hb:a<=b):lT b M:=fun i x hi hx=>h i x (fU hb hi) hx
theorem JM (I:JInv h J M) (hw:lT (J.ay*h) M) (hs:J.dL=false) (t:ByteArray):
  oV h t J M=if h<J.used+aj t.size then (((0:Int),(15:Int)),J,M) else (((J.next:Int),(0:Int)),⟨J.ay,J.used+aj t.size,J.next+1,J.l++ [(J.next,t)],false⟩,dW (aQ J.next t) (J.ay*h+J.used) M):=by
 unfold oV;rw[if_neg (by rw[hs];decide)];by_cases hr:h<J.used+aj t.size
 ·rw[if_pos hr,if_pos hr]
 ·rw[if_neg hr,if_neg hr];have hb:J.ay*h+J.used+aj t.size<=M.length:=by
   have:=I.len;rcases I.ay with e | e<;>rw[e]<;>omega
  rw[vK I.fine I.clean hb (uM hw (Nat.le_add_right _ _))];rfl
theorem Gz (I:JInv h J M) (hw:lT ((1-J.ay)*h) M) (t:ByteArray):
  lY h t J M=if h<aj t.size then (((0:Int),(15:Int)),J,M) else (((J.next:Int),(0:Int)),⟨1-J.ay,aj t.size,J.next+1,[(J.next,t)],false⟩,dW (aQ J.next t) ((1-J.ay)*h) M):=by
 unfold lY;by_cases hr:h<aj t.size
 ·rw[if_pos hr,if_pos hr]
 ·rw[if_neg hr,if_neg hr];have hb:(1-J.ay)*h+aj t.size<=M.length:=by have:=I.ru.2;omega
  rw[vK I.fine I.clean hb hw];rfl
theorem PK {o:Nat} (I:JInv h J M) (hw:lT o M):lT o (oV h t J M).2.2:=by
 unfold oV;split
 ·exact hw
 split
 ·exact hw
 rename_i hr;have hb:J.ay*h+J.used+aj t.size<=M.length:=by
  have:=I.len;rcases I.ay with e | e<;>rw[e]<;>omega
 split<;>exact KQ I.fine I.clean hb hw
theorem Nv {o:Nat} (I:JInv h J M) (hw:lT o M):lT o (lY h t J M).2.2:=by
 unfold lY;split
 ·exact hw
 have hb:(1-J.ay)*h+aj t.size<=M.length:=by have:=I.ru.2;omega
 split<;>exact KQ I.fine I.clean hb hw
theorem Nw (n o:Nat):lT o (List.replicate n Sec.blank):=fun i x _ hx=>by
 rw[List.eq_of_mem_replicate (zI hx)];rfl
end
end Go.Proofs.YtpghocekofdpbaaGreatDoor
