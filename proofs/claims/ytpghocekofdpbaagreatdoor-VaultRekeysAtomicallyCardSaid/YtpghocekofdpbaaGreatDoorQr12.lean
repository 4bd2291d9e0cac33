import Derived.Test.YtpghocekofdpbaaGreatDoorQr00
namespace Go.Proofs.YtpghocekofdpbaaGreatDoor.Sec
def jJ:Nat->Nat->List UInt8
 | _,0=> []
 | n,k+1=>UInt8.ofNat (n % 256)::jJ (n/256) k
def bQ:List UInt8->Nat
 | []=>0
 | b::r=>b.toNat+256*bQ r
theorem fZ:∀ (k n:Nat),(jJ n k).length=k
 | 0,_=>rfl
 | k+1,n=>by rw[jJ,AY,fZ k]
theorem get_put:∀ (k n:Nat),n<256^k->bQ (jJ n k)=n
 | 0,n,h=>by simp at h;rw[h];rfl
 | k+1,n,h=>by
  rw[jJ,bQ,get_put k (n/256) (by rw[Nat.pow_succ] at h;omega)];simp;omega
theorem GH:∀ l:List UInt8,bQ l<256^l.length
 | []=>by simp[bQ]
 | b::r=>by
  have:=GH r;have hb:=b.toNat_lt;rw[bQ,AY,Nat.pow_succ];omega
theorem adM:∀ l:List UInt8,jJ (bQ l) l.length=l
 | []=>rfl
 | b::r=>by
  have hb:=b.toNat_lt;rw[AY,jJ,bQ];have h1:(b.toNat+256*bQ r) % 256=b.toNat:=by omega
  have h2:(b.toNat+256*bQ r)/256=bQ r:=by omega
  rw[h1,h2,adM r];simp
theorem Yl:∀ k,bQ (List.replicate k (0:UInt8))=0
 | 0=>rfl
 | k+1=>by rw[List.replicate_succ,bQ,Yl k];rfl
def aj (n:Nat):Nat:=max 1 ((n+43)/44)
def bn:Nat:=4611686018427387904
def eH (number:Nat) (rec:List UInt8) (i:Nat):List UInt8:=
 jJ number 8++(jJ i 2++(jJ (rec.drop (44*i)).length 2++((rec.drop (44*i)).take 44++(List.replicate (44-((rec.drop (44*i)).take 44).length) 0++jJ number 8))))
def iF (number:Nat) (rec:List UInt8):List (List UInt8):=(List.range (aj rec.length)).map (eH number rec)
structure xw where
 number:Nat
 part:Nat
 left:Nat
 text:List UInt8
def dw (s:List UInt8):Option xw:=
 if s.take 8=s.drop 56/\1<=bQ (s.take 8)/\bQ (s.take 8)<=bn/\44*bQ ((s.drop 8).take 2)+bQ ((s.drop 10).take 2)<=8000/\
   (0<bQ ((s.drop 8).take 2)->0<bQ ((s.drop 10).take 2))/\((s.drop (12+min (bQ ((s.drop 10).take 2)) 44)).take (44-min (bQ ((s.drop 10).take 2)) 44)).all (· ==0)=true then
  some ⟨bQ (s.take 8),bQ ((s.drop 8).take 2),bQ ((s.drop 10).take 2),(s.drop 12).take (min (bQ ((s.drop 10).take 2)) 44)⟩
 else none
def uN (number left0 i:Nat) (s:List UInt8):Option (List UInt8):=
 if s.length=64 then
  match dw s with
  | some p=>if p.number=number/\p.part=i/\(p.left:Int)=left0-44*i then some p.text else none
  | none=>none
 else none
def iy (number left0:Nat) (l:List (List UInt8)):Nat->Option (List UInt8)
 | 0=>some []
 | k+1=>
  match iy number left0 l k with
  | none=>none
  | some t=>match l[k]? with
   | none=>none
   | some s=>match uN number left0 k s with
    | none=>none
    | some x=>some (t++x)
structure vS where
 number:Nat
 text:List UInt8
 used:Nat
 e:Int
def joinL (l:List (List UInt8)):vS:=
 match l with
 | []=>⟨0,[],0,11⟩
 | s0::_=>
  if s0.length=64 then
   match dw s0 with
   | none=>⟨0,[],0,11⟩
   | some p=>
    if p.part=0 then
     if l.length<aj p.left then ⟨0,[],0,7⟩
     else match iy p.number p.left l (aj p.left) with
      | none=>⟨0,[],0,7⟩
      | some t=>⟨p.number,t,aj p.left,0⟩
    else ⟨0,[],0,11⟩
  else ⟨0,[],0,11⟩
theorem oK (number:Nat) (rec:List UInt8) (i:Nat):(eH number rec i).length=64:=by
 unfold eH;simp only[kM,fZ,FT];have:((rec.drop (44*i)).take 44).length<=44:=List.length_take_le _ _;omega
theorem je (number:Nat) (rec:List UInt8):(iF number rec).length=aj rec.length:=by simp[iF]
theorem uG (number:Nat) (rec:List UInt8) (i:Nat) (h:i<aj rec.length):(iF number rec)[i]? =some (eH number rec i):=by
 simp[iF,h]
theorem jd (n:Nat):1<=aj n:=by unfold aj;omega
theorem GR {n i:Nat} (h:i<aj n) (hi:0<i):44*i<n:=by
 unfold aj at h;omega
theorem uK {α:Type} (a b:List α) {n:Nat} (h:a.length=n):(a++b).take n=a:=by subst h;simp
theorem gQ {α:Type} (a b:List α) {n m:Nat} (h:a.length=n) (hm:n<=m):(a++b).drop m=b.drop (m-n):=by
 subst h;rw[List.drop_append,List.drop_eq_nil_of_le hm];rfl
theorem qK (number:Nat) (rec:List UInt8) (i:Nat) (h1:1<=number) (h2:number<=bn) (hr:rec.length<=8000) (hi:i<aj rec.length):
  dw (eH number rec i)=some ⟨number,i,rec.length-44*i,(rec.drop (44*i)).take 44⟩:=by
 have hlen:(rec.drop (44*i)).length=rec.length-44*i:=by simp
 have htl:((rec.drop (44*i)).take 44).length=min (rec.length-44*i) 44:=by rw[ou,hlen];omega
 have hn:number<256^8:=by unfold bn at h2;omega
 have hi2:i<256^2:=by
  unfold aj at hi;omega
 have hl2:rec.length-44*i<256^2:=by omega
 have e1:(eH number rec i).take 8=jJ number 8:=uK _ _ (fZ _ _);have e2:((eH number rec i).drop 8).take 2=jJ i 2:=by
  unfold eH;rw[gQ _ _ (fZ 8 number) (aF _)];exact uK _ _ (fZ _ _)
 have e3:((eH number rec i).drop 10).take 2=jJ (rec.length-44*i) 2:=by
  unfold eH;rw[gQ _ _ (fZ 8 number) (by omega),gQ _ _ (fZ 2 i) (by omega),hlen];exact uK _ _ (fZ _ _)
 have e4:(eH number rec i).drop 56=jJ number 8:=by
  unfold eH;rw[gQ _ _ (fZ 8 number) (by omega),gQ _ _ (fZ 2 i) (by omega),gQ _ _ (fZ 2 _) (by omega),gQ _ _ htl (by omega),gQ _ _ (FT) (by rw[htl];omega),htl];rw[show 56-8-2-2-min (rec.length-44*i) 44-(44-min (rec.length-44*i) 44)=0 by omega];rfl
 have e5:∀ m,(eH number rec i).drop (12+m)=((rec.drop (44*i)).take 44++(List.replicate (44-((rec.drop (44*i)).take 44).length) 0++jJ number 8)).drop m:=by
  intro m;unfold eH;rw[gQ _ _ (fZ 8 number) (by omega),gQ _ _ (fZ 2 i) (by omega),gQ _ _ (fZ 2 _) (by omega)]
  congr 1
  omega
 have g1:bQ (jJ number 8)=number:=get_put 8 number hn;have g2:bQ (jJ i 2)=i:=get_put 2 i hi2;have g3:bQ (jJ (rec.length-44*i) 2)=rec.length-44*i:=get_put 2 _ hl2;have e6:(eH number rec i).drop 12=(rec.drop (44*i)).take 44++(List.replicate (44-((rec.drop (44*i)).take 44).length) 0++jJ number 8):=e5 0;have e7:((eH number rec i).drop (12+min (rec.length-44*i) 44)).take (44-min (rec.length-44*i) 44)=List.replicate (44-min (rec.length-44*i) 44) 0:=by
  rw[e5,gQ _ _ htl (aF _),Nat.sub_self,List.drop_zero,htl];exact uK _ _ FT
 unfold dw;rw[e1,e2,e3,e4,g1,g2,g3,e7,e6];have c1:44*i+(rec.length-44*i)<=8000:=by
  rcases Nat.eq_zero_or_pos i with h0 | hp
  ·omega
  ·have:=GR hi hp;omega
 have c2:0<i->0<rec.length-44*i:=by
  intro hp;have:=GR hi hp;omega
 rw[if_pos ⟨rfl,h1,h2,c1,c2,by simp⟩,uK _ _ htl]
theorem aaP (number:Nat) (rec:List UInt8) (i:Nat) (h1:1<=number) (h2:number<=bn) (hr:rec.length<=8000) (hi:i<aj rec.length):
  uN number rec.length i (eH number rec i)=some ((rec.drop (44*i)).take 44):=by
 unfold uN;rw[if_pos (oK _ _ _),qK number rec i h1 h2 hr hi];dsimp only;have c:((rec.length-44*i:Nat):Int)=rec.length-44*i:=by
  rcases Nat.eq_zero_or_pos i with h0 | hp
  ·omega
  ·have:=GR hi hp;omega
 rw[if_pos ⟨rfl,rfl,c⟩]
theorem KZ (number:Nat) (rec:List UInt8) (l:List (List UInt8)) (hl:∀ i,i<aj rec.length->∃ s,l[i]? =some s/\uN number rec.length i s=some ((rec.drop (44*i)).take 44)):
  ∀ k,k<=aj rec.length->iy number rec.length l k=some (rec.take (44*k))
 | 0,_=>by simp[iy]
 | k+1,h=>by
  obtain⟨s,h1,h2⟩:=hl k (by omega);rw[iy,KZ number rec l hl k (by omega)];dsimp only;rw[h1];dsimp only;rw[h2];dsimp only;rw[show 44*(k+1)=44*k+44 by omega,List.take_add]
theorem Ua (rec:List UInt8):rec.take (44*aj rec.length)=rec:=uo (by unfold aj;omega)
theorem Yd (number:Nat) (rec:List UInt8) (more:List (List UInt8)) (h1:1<=number) (h2:number<=bn) (hr:rec.length<=8000):
  joinL (iF number rec++more)=⟨number,rec,aj rec.length,0⟩:=by
 have hp:=jd rec.length;have hat:∀ i,i<aj rec.length->(iF number rec++more)[i]? =some (eH number rec i):=fun i hi=>by
  rw[List.getElem?_append_left (by rw[je];exact hi)];exact uG _ _ _ hi
 have hl:(iF number rec++more).length=aj rec.length+more.length:=by rw[kM,je]
 have hJ:=KZ number rec (iF number rec++more) (fun i hi=>⟨_,hat i hi,aaP number rec i h1 h2 hr hi⟩) _ (aF _);have h0:=hat 0 hp;unfold joinL;split
 ·rename_i e;rw[e] at h0;simp at h0
 ·rename_i s0 r e;have hs0:s0=eH number rec 0:=by rw[e] at h0;simpa using h0
  subst hs0;rw[if_pos (oK _ _ _),qK number rec 0 h1 h2 hr hp];dsimp only;rw[if_pos rfl,Nat.mul_zero,Nat.sub_zero,if_neg (by omega),hJ,Ua]
def afh (s t:List UInt8) (k:Nat):List UInt8:=s.take k++t.drop k
theorem BG {s t:List UInt8} {k:Nat} (hs:s.length=64) (ht:t.length=64):(afh s t k).length=64:=by
 unfold afh;rw[kM,ou,rX];omega
theorem KI {s:List UInt8} {p:xw} (h:dw s=some p):s.take 8=s.drop 56/\p.number=bQ (s.take 8)/\1<=p.number:=by
 unfold dw at h;split at h
 ·rename_i hc;cases h;exact⟨hc.1,rfl,hc.2.1⟩
 ·cases h
def WA:List UInt8:=List.replicate 64 0
theorem DJ:dw WA=none:=by
 unfold dw;rw[if_neg];rintro⟨_,h,_⟩;have:bQ (WA.take 8)=0:=by decide
 omega
theorem aaB {number left0 i:Nat} {s t:List UInt8} (h:uN number left0 i s=some t):∃ p,s.length=64/\dw s=some p/\p.number=number/\p.part=i/\(p.left:Int)=left0-44*i/\p.text=t:=by
 unfold uN at h;split at h
 ·rename_i hl;split at h
  ·rename_i p hp;split at h
   ·rename_i hc;cases h;exact⟨p,hl,hp,hc.1,hc.2.1,hc.2.2,rfl⟩
   ·cases h
  ·cases h
 ·cases h
theorem Ez {number left0:Nat} {l:List (List UInt8)}:∀ {k:Nat} {t:List UInt8},iy number left0 l k=some t->∀ i,i<k->∃ s x,l[i]? =some s/\uN number left0 i s=some x
 | 0,_,_,i,hi=>by omega
 | k+1,t,h,i,hi=>by
  rw[iy] at h;split at h
  ·cases h
  ·rename_i t0 h0;split at h
   ·cases h
   ·rename_i s hs;split at h
    ·cases h
    ·rename_i x hx;by_cases e:i<k
     ·exact Ez h0 i e
     ·have:i=k:=by omega
      subst this;exact⟨s,x,hs,hx⟩
end Go.Proofs.YtpghocekofdpbaaGreatDoor.Sec
