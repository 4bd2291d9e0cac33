import Derived.Test.YtpghocekofdpbaaGreatDoorQr16
import Derived.Test.YtpghocekofdpbaaGreatDoorQr17
namespace Go.Proofs.YtpghocekofdpbaaGreatDoor
open Sec (iF eH aj bn dw gJ bQ je uG oK jd)
structure nM (D:Dev):Prop where
 down:D.down=false
 left: -1<=D.left/\D.left<=9223372036854775807
theorem DUp.on {D:Dev} (h:DUp D):nM D:=⟨h.down,h.le⟩
def I8 (f:Int) (k:Nat):Int:=if f<0 then f else f-k
theorem acv (f:Int):I8 f 0=f:=by unfold I8;split<;>omega
def Dev.on (D:Dev) (k:Nat) (M:List Sec):Dev:= { D with M:=M,left:=I8 D.left k }
def Dev.off (D:Dev) (M:List Sec):Dev:= { D with M:=M,down:=true,left:= -1 }
theorem Om {D:Dev} (h:nM D) (F:Dev->Dev) (k:Nat) (M:List Sec) (hk:D.left<0\/(k:Int)<D.left):(D.on k M).jq 0 F=(0,F (D.on (k+1) M)):=by
 have h1:=h.down;have h2:=h.left;unfold Dev.jq Dev.on;dsimp only;rw[if_neg (by rw[h1];decide),if_neg (by decide)];have hl:¬ I8 D.left k=0:=by unfold I8;split<;>omega
 rw[if_neg hl];have e:max (I8 D.left k-1) (-1)=I8 D.left (k+1):=by
  unfold I8;split<;>omega
 rw[e]
theorem I9 {D:Dev} (h:nM D) (F:Dev->Dev) (k:Nat) (M:List Sec) (hk:(k:Int)=D.left):(D.on k M).jq 0 F=(14,D.off M):=by
 have h1:=h.down;unfold Dev.jq Dev.on Dev.off;dsimp only;rw[if_neg (by rw[h1];decide),if_neg (by decide)];have hl:I8 D.left k=0:=by unfold I8;split<;>omega
 rw[if_pos hl]
theorem Oo (D:Dev):D.on 0 D.M=D:=by
 unfold Dev.on;rw[acv]
def Dev.fails (D:Dev) (n:Nat):Prop:=0<=D.left/\D.left<n
instance (D:Dev) (n:Nat):Decidable (D.fails n):=inferInstanceAs (Decidable (_/\_))
theorem Fe {D:Dev} (hd:nM D) {k:Nat} {M:List Sec} (hk:D.left<0\/(k:Int)<=D.left):nM (D.on k M):=by
 refine⟨hd.down,?_⟩;have:=hd.left;show -1<=I8 D.left k/\I8 D.left k<=_
 unfold I8;split<;>omega
theorem zF {D:Dev} {n:Nat} (h:¬ D.fails n):D.left<0\/(n:Int)<=D.left:=by unfold Dev.fails at h;omega
theorem Vw (s:Sec) (n:Nat) (h1:s.now.size=64):SV (s.settle n).now=if 0<n then (SV s.fresh).take n++(SV s.now).drop n else SV s.now:=by
 unfold Sec.settle;split
 ·rename_i hn;show SV (s.fresh.extract 0 n++s.now.extract n s.now.size)=_
  rw[TF,Es,Es,h1,Nat.sub_zero,List.drop_zero]
  congr 1
  rw[uo];rw[rX,FV,h1];exact aF _
 ·rfl
theorem RN (s:Sec) (n:Nat):(s.settle n).eX=s.eX:=by unfold Sec.settle;split<;>rfl
theorem Oq {x:Sec} (h:x.eX=false) (t:ByteArray):x.write t= { x with fresh:=t,dirty:=true }:=by unfold Sec.write;rw[if_neg (by rw[h];decide)]
theorem Ot {T:dh} {n m i:Nat} {s:List UInt8} (h:Low (T.take n) m) (hi:i<n) (hs:T[i]? =some s):bQ (s.take 8)<m/\bQ (s.drop (s.length-8))<m:=
 h i s (by rw[List.getElem?_take,if_pos hi];exact hs)
section
variable {M:List Sec} {t:ByteArray} {o N h k:Nat}
def kZ (M:List Sec) (P:List Int):List Sec:=iI (pick P) M (idxs Sec.dirty M)
theorem BG (P:List Int):(kZ M P).length=M.length:=qJ _ _ _
theorem acw (hf:Fine M) (hc:Clean M) (hw:lT 0 M) (hk:k<=aj t.size) (_hb:o+aj t.size<=M.length) (P:List Int) (i:Nat) (y:Sec) (hy:(kZ (nI ((aQ N t).take k) o M) P)[i]? =some y):
  y.dirty=false/\y.eX=false/\∃ x,M[i]? =some x/\((y=x)\/∃ j n,i=o+j/\j<k/\n<=64/\y.now.data.toList=(eH N t.data.toList j).take n++x.now.data.toList.drop n/\y.now.size=64/\y.before.size=64):=by
 have hl:((aQ N t).take k).length=k:=by rw[ou,jf];omega
 have hi:i<M.length:=by
  have:=(List.getElem?_eq_some_iff.1 hy).1;rw[BG,qj] at this;exact this
 obtain⟨x,hx⟩:∃ x,M[i]? =some x:=⟨_,jB hi⟩;have hxc:=hc x (zI hx);have hxw:=hw i x (iT _) hx;obtain⟨hx1,hx2,_⟩:=hf x (zI hx);by_cases hin:i<o\/o+k<=i
 ·have hz:(nI ((aQ N t).take k) o M)[i]? =some x:=by rw[FX _ _ _ _ (by rw[hl];exact hin)];exact hx
  rcases V7 P hz with⟨_,e⟩ | ⟨hd,_⟩
  ·unfold kZ at hy;rw[e] at hy;cases hy;exact⟨hxc,hxw,_,hx,.inl rfl⟩
  ·rw[hxc] at hd;cases hd
 ·obtain⟨j,rfl⟩:∃ j,i=o+j:=⟨i-o,by omega⟩;have hjk:j<k:=by omega
  have hjc:j<aj t.size:=by omega
  have hsj:((aQ N t).take k)[j]? =some (gJ N t j):=by rw[List.getElem?_take,if_pos hjk];exact nR N t j hjc
  have hz:(nI ((aQ N t).take k) o M)[o+j]? =some (x.write (gJ N t j)):=TQ _ _ _ j x _ hx hsj;rw[Oq hxw] at hz;rcases V7 P hz with⟨hd,_⟩ | ⟨_,n,hn,e⟩
  ·cases hd
  ·unfold kZ at hy;rw[e] at hy;cases hy;refine⟨Nk _ _,by rw[RN];exact hxw,x,hx,?_⟩;have YR:=Vw { x with fresh:=gJ N t j,dirty:=true } n hx1;by_cases h0:0<n
   ·rw[if_pos h0] at YR;refine .inr ⟨j,n,rfl,hjk,hn,YR,?_,?_⟩
    ·have h3:=congrArg List.length YR;rw[FV,kM,ou,rX,FV,FV] at h3;have h4:(gJ N t j).size=64:=Bo N t j;dsimp only at h3;omega
    ·unfold Sec.settle;rw[if_pos h0];exact hx1
   ·have hn0:n=0:=by omega
    subst hn0;refine .inr ⟨j,0,rfl,hjk,iT _,?_,?_,?_⟩
    ·rw[List.take_zero,List.drop_zero,GI];rfl
    ·exact hx1
    ·exact hx2
theorem MH (hf:Fine M) (hc:Clean M) (hw:lT 0 M) (hk:k<=aj t.size) (hb:o+aj t.size<=2*h) (hM:2*h<=M.length) (h1:1<=N) (ak8:N<=255) (hlow:Low ((aP M).take (2*h)) N) (P:List Int):
  Zl (aP M) (aP (kZ (nI ((aQ N t).take k) o M) P)) o (iF N t.data.toList)/\Low ((aP (kZ (nI ((aQ N t).take k) o M) P)).take (2*h)) (N+1)/\
   Fine (kZ (nI ((aQ N t).take k) o M) P)/\Clean (kZ (nI ((aQ N t).take k) o M) P)/\lT 0 (kZ (nI ((aQ N t).take k) o M) P):=by
 have hg:=acw (N:=N) hf hc hw hk (fU hb hM) P;have hlen:(kZ (nI ((aQ N t).take k) o M) P).length=M.length:=by rw[BG,qj]
 generalize kZ (nI ((aQ N t).take k) o M) P=M' at hg hlen;have ahl:∀ (i:Nat) (s:List UInt8),(aP M')[i]? =some s->∃ x,(aP M)[i]? =some x/\x.length=64/\(s=x\/∃ j n,i=o+j/\j<k/\n<=64/\s=(eH N t.data.toList j).take n++x.drop n):=by
  intro i s hs;rw[pq] at hs;obtain⟨y,hy,rfl⟩:=Option.map_eq_some_iff.1 hs;obtain⟨_,_,x,hx,hor⟩:=hg i y hy;refine⟨x.now.data.toList,by rw[pq,hx];rfl,?_,?_⟩
  ·have:=(hf x (zI hx)).1;have h2:x.now.data.toList.length=x.now.size:=Di;omega
  ·rcases hor with rfl | ⟨j,n,e1,e2,e3,e4,_⟩
   ·exact .inl rfl
   ·exact .inr ⟨j,n,e1,e2,e3,e4⟩
 refine⟨⟨by rw[eG,eG];exact hlen,fun i s hs=>?_,fun i hi=>?_⟩,?_,?_,?_,?_⟩
 ·obtain⟨x,hx,hxl,rfl | ⟨j,n,rfl,hj,hn,rfl⟩⟩:=ahl i s hs
  ·exact .inl hx
  ·obtain⟨l1,l2⟩:=Ot hlow (by omega) hx;rw[hxl] at l2;obtain⟨hor,_⟩:=Fb (rec:=t.data.toList) (j:=j) h1 ak8 rfl hxl l1 l2 n hn;rcases hor with e | e | e
   ·rw[e];exact .inl hx
   ·exact .inr (.inl ⟨j,rfl,by rw[e];exact uG N _ j (by show j<aj t.data.toList.length;have:aj t.data.toList.length=aj t.size:=rfl;omega)⟩)
   ·exact .inr (.inr e)
 ·by_cases hiM:i<M.length
  ·obtain⟨s,hs⟩:∃ s,(aP M')[i]? =some s:=⟨_,jB (by rw[eG,hlen];exact hiM)⟩;obtain⟨x,hx,_,rfl | ⟨j,n,rfl,hj,_,_⟩⟩:=ahl i s hs
   ·rw[hs,hx]
   ·rw[je] at hi;have:aj t.data.toList.length=aj t.size:=rfl;omega
  ·rw[List.getElem?_eq_none (by rw[eG,hlen];omega),List.getElem?_eq_none (by rw[eG];omega)]
 ·intro i s hs;rw[List.getElem?_take] at hs;split at hs
  ·rename_i hi;obtain⟨x,hx,hxl,rfl | ⟨j,n,rfl,hj,hn,rfl⟩⟩:=ahl i s hs
   ·obtain⟨l1,l2⟩:=Ot hlow hi hx;exact⟨by omega,by omega⟩
   ·obtain⟨l1,l2⟩:=Ot hlow hi hx;rw[hxl] at l2;obtain⟨_,r1,r2⟩:=Fb (rec:=t.data.toList) (j:=j) h1 ak8 rfl hxl l1 l2 n hn;refine⟨r1,?_⟩;have hl:((eH N t.data.toList j).take n++x.drop n).length=64:=by rw[kM,ou,rX,oK,hxl];omega
    rw[hl];exact r2
  ·cases hs
 ·intro y hy;obtain⟨i,hi⟩:=List.mem_iff_getElem?.1 hy;obtain⟨hd,_,x,hx,rfl | ⟨_,_,_,_,_,_,e1,e2⟩⟩:=hg i y hi
  ·exact hf y (zI hx)
  ·exact⟨e1,e2,fun e=>by rw[hd] at e;cases e⟩
 ·intro y hy;obtain⟨i,hi⟩:=List.mem_iff_getElem?.1 hy;exact(hg i y hi).1
 ·exact fun i y _ hi=>(hg i y hi).2.1
end
end Go.Proofs.YtpghocekofdpbaaGreatDoor
