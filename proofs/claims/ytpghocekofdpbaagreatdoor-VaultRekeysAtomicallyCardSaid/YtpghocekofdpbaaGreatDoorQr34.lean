import Derived.Test.YtpghocekofdpbaaGreatDoorQr33
import Derived.Test.YtpghocekofdpbaaGreatDoorQr22
set_option maxRecDepth 100000
set_option maxHeartbeats 4000000
namespace Go.Proofs.YtpghocekofdpbaaGreatDoor
def Ir:ByteArray:=⟨#[106,111,117,114,110,97,108]⟩
def kQ (root:ByteArray):List UInt8:=yZ (bl root) (bl Ir) []
theorem BX (root:ByteArray):(kQ root).length=32:=Qh _ _ _
def aV (root:ByteArray) (n:Nat) (t:ByteArray):ByteArray:=txt (pX (kQ root) (fK n) (bl t))
theorem nD (root:ByteArray) (n:Nat) (t:ByteArray):(aV root n t).size=t.size+28:=by
 unfold aV;rw[fP,LX,aG]
structure Part where
 kind:Nat
 start:ByteArray
 text:ByteArray
def iW:Part:=⟨0,⟨#[]⟩,⟨#[]⟩⟩
def Iq:List UInt8->Part
 | []=>iW
 | c::s=>if c=82 then ⟨82,⟨#[]⟩,txt s⟩ else if c=73/\32<=s.length then ⟨73,txt (s.take 32),txt (s.drop 32)⟩ else iW
theorem iL (c:UInt8) (s:List UInt8):Iq (c::s)=if c=82 then ⟨82,⟨#[]⟩,txt s⟩ else if c=73/\32<=s.length then ⟨73,txt (s.take 32),txt (s.drop 32)⟩ else iW:=rfl
def dH (root:ByteArray) (n:Nat) (blob:ByteArray):Part:=
 if (dw (kQ root) (fK n) (bl blob)).2=0 then Iq (dw (kQ root) (fK n) (bl blob)).1 else iW
def dG (chain:ByteArray) (n:Nat) (blob:ByteArray):ByteArray:=txt (nJ (bl chain) (fK n++bl blob))
theorem AU (chain:ByteArray) (n:Nat) (blob:ByteArray):(dG chain n blob).size=32:=by
 unfold dG;rw[fP,jK]
def jQ (t:ByteArray):ByteArray:=⟨#[82]⟩++t
def kY (chain image:ByteArray):ByteArray:=⟨#[73]⟩++chain++image
theorem Ed (t:ByteArray):(jQ t).size=t.size+1:=by unfold jQ;rw[ByteArray.size_append];show 1+t.size=_;omega
theorem Ee (c t:ByteArray):(kY c t).size=c.size+t.size+1:=by unfold kY;rw[ByteArray.size_append,ByteArray.size_append];show 1+c.size+t.size=_;omega
theorem MI (root:ByteArray) (n:Nat) (t:ByteArray):dH root n (aV root n t)=Iq (bl t):=by
 unfold dH aV;rw[lU,YW];exact if_pos rfl
theorem open_rec (root:ByteArray) (n:Nat) (t:ByteArray):dH root n (aV root n (jQ t))=⟨82,⟨#[]⟩,t⟩:=by
 rw[MI];have e:bl (jQ t)=82::bl t:=by unfold jQ;rw[ji];rfl
 rw[e,iL,if_pos rfl,Aw]
theorem acy (root:ByteArray) (n:Nat) (c t:ByteArray) (hc:c.size=32):dH root n (aV root n (kY c t))=⟨73,c,t⟩:=by
 rw[MI];have e:bl (kY c t)=73::(bl c++bl t):=by unfold kY;rw[ji,ji];rfl
 have hl:(bl c).length=32:=by rw[aG];exact hc
 rw[e,iL,if_neg (by decide),if_pos ⟨rfl,by rw[kM];omega⟩,List.take_append_of_le_length (by omega),uo (by omega),List.drop_append_of_le_length (by omega),List.drop_of_length_le (by omega),GI,Aw,Aw]
structure JA where
 chain:ByteArray
 before:ByteArray
 image:Option ByteArray
 texts:List ByteArray
def rd0:JA:=⟨zero32,⟨#[]⟩,none,[]⟩
def rdStep (root:ByteArray) (first:Bool) (r:JA) (e:Nat×ByteArray):Option JA:=
 if (dH root e.1 e.2).kind=0\/((dH root e.1 e.2).kind=73/\first=false) then none
 else if (dH root e.1 e.2).kind=73 then some ⟨dG (dH root e.1 e.2).start e.1 e.2,(dH root e.1 e.2).start,some (dH root e.1 e.2).text,r.texts⟩
 else some ⟨dG r.chain e.1 e.2,r.chain,r.image,r.texts++ [(dH root e.1 e.2).text]⟩
def l9 (root:ByteArray) (l:List (Nat×ByteArray)):Nat->Option JA
 | 0=>some rd0
 | k+1=>match l9 root l k,l[k]? with
  | some r,some e=>rdStep root (decide (k=0)) r e
  | _,_=>none
def jR (root:ByteArray) (l:List (Nat×ByteArray)):Option JA:=l9 root l l.length
theorem Ja {root:ByteArray} {l:List (Nat×ByteArray)} {k:Nat} {r:JA} {e:Nat×ByteArray} (hr:l9 root l k=some r) (he:l[k]? =some e):l9 root l (k+1)=rdStep root (decide (k=0)) r e:=by
 show(match l9 root l k,l[k]? with | some r,some e=>rdStep root (decide (k=0)) r e | _,_=>none)=_
 rw[hr,he]
theorem MJ (root:ByteArray) (l m:List (Nat×ByteArray)):∀ k,k<=l.length->l9 root (l++m) k=l9 root l k
 | 0,_=>rfl
 | k+1,h=>by
  show(match l9 root (l++m) k,(l++m)[k]? with | some r,some e=>rdStep root (decide (k=0)) r e | _,_=>none)=(match l9 root l k,l[k]? with | some r,some e=>rdStep root (decide (k=0)) r e | _,_=>none)
  rw[MJ root l m k (by omega),List.getElem?_append_left (by omega)]
theorem AV {root:ByteArray} {l:List (Nat×ByteArray)} {k:Nat} (h:l9 root l k=none):∀ m,k<=m->l9 root l m=none
 | 0,hm=>by
  have:k=0:=by omega
  rw[<-this];exact h
 | m+1,hm=>by
  rcases Nat.lt_or_ge k (m+1) with hk | hk
  ·show(match l9 root l m,l[m]? with | some r,some e=>rdStep root (decide (m=0)) r e | _,_=>none)=none
   rw[AV h m (by omega)]
  ·have:k=m+1:=by omega
   rw[<-this];exact h
theorem Jb {root:ByteArray} {l:List (Nat×ByteArray)} {r:JA} (h:jR root l=some r) (e:Nat×ByteArray):jR root (l++ [e])=rdStep root (decide (l.length=0)) r e:=by
 unfold jR;rw[kM,List.length_singleton];exact Ja (by rw[MJ _ _ _ _ (aF _)];exact h) (by rw[ZP (aF _),Nat.sub_self];rfl)
theorem Ef {root:ByteArray} {l:List (Nat×ByteArray)} {r:JA} (h:jR root l=some r) (n:Nat) (t:ByteArray):
  jR root (l++ [(n,aV root n (jQ t))])=some ⟨dG r.chain n (aV root n (jQ t)),r.chain,r.image,r.texts++ [t]⟩:=by
 rw[Jb h];unfold rdStep;dsimp only;rw[open_rec,if_neg (by rintro(h | ⟨h,_⟩)<;>cases h)];exact if_neg (show ¬ (82:Nat)=73 by decide)
theorem Zp (root:ByteArray) (n:Nat) (c t:ByteArray) (hc:c.size=32):
  jR root [(n,aV root n (kY c t))]=some ⟨dG c n (aV root n (kY c t)),c,some t,[]⟩:=by
 have h:=Jb (root:=root) (l:= []) (r:=rd0) rfl (n,aV root n (kY c t));rw[GI] at h;rw[h];unfold rdStep;dsimp only;rw[acy _ _ _ _ hc,if_neg (by rintro(h | ⟨_,h⟩)<;>cases h)];exact if_pos rfl
theorem RP {root:ByteArray} {f:Bool} {r r':JA} {e:Nat×ByteArray} (h:rdStep root f r e=some r'):r'.chain.size=32:=by
 unfold rdStep at h;split at h
 ·cases h
 ·split at h
  ·cases h;exact AU _ _ _
  ·cases h;exact AU _ _ _
theorem RQ:zero32.size=32:=rfl
theorem rV {root:ByteArray} {l:List (Nat×ByteArray)} {r:JA}:∀ {k:Nat},l9 root l k=some r->r.chain.size=32
 | 0,h=>by cases h;exact RQ
 | k+1,h=>by
  have h':(match l9 root l k,l[k]? with | some r,some e=>rdStep root (decide (k=0)) r e | _,_=>none)=some r:=h;split at h'
  ·exact RP h'
  ·cases h'
theorem sU {root:ByteArray} {l:List (Nat×ByteArray)} {r:JA}:∀ {k:Nat},l9 root l k=some r->r.texts.length<=k
 | 0,h=>by cases h;exact aF _
 | k+1,h=>by
  have h':(match l9 root l k,l[k]? with | some r,some e=>rdStep root (decide (k=0)) r e | _,_=>none)=some r:=h;split at h'
  ·rename_i q e hq he;have ih:=sU hq;unfold rdStep at h';split at h'
   ·cases h'
   ·split at h'
    ·cases h';exact Nat.le_succ_of_le ih
    ·cases h';rw[kM];exact Nat.succ_le_succ ih
  ·cases h'
def iC (root:ByteArray) (l:List (Nat×ByteArray)):Bool:=match l with
 | []=>false
 | e::_=> !decide ((dH root e.1 e.2).kind=0)
theorem Jc {root:ByteArray} {l:List (Nat×ByteArray)} {r:JA} (h:jR root l=some r) (hl:l≠ []):iC root l=true:=by
 cases l with
 | nil=>exact absurd rfl hl
 | cons e m=>
  unfold iC;cases hk:decide ((dH root e.1 e.2).kind=0) with
  | false=>
   show(!decide ((dH root e.1 e.2).kind=0))=true
   rw[hk];rfl
  | true=>
   have h1:l9 root (e::m) 1=none:=by
    show(match l9 root (e::m) 0,(e::m)[0]? with | some r,some e=>rdStep root (decide (0=0)) r e | _,_=>none)=none
    show rdStep root _ rd0 e=none
    unfold rdStep;rw[if_pos (.inl (of_decide_eq_true hk))]
   have h2:=AV h1 (e::m).length (by simp);unfold jR at h;rw[h2] at h;cases h
def isRoot (s:ByteArray) (l:List (Nat×ByteArray)):Bool:= !decide (s=zero32) && (decide (l= []) || iC s l)
def rootOf (s0 s2:ByteArray) (l:List (Nat×ByteArray)):Option ByteArray:=if isRoot s0 l=true then some s0 else if isRoot s2 l=true then some s2 else none
def l7 (l:List (Nat×ByteArray)) (a b:ByteArray):Bool:= !decide (a=b) && !decide (a=zero32) && !decide (b=zero32) && iC a l && iC b l
theorem MK {s:ByteArray} {l:List (Nat×ByteArray)} (hs:s≠zero32) (h:l= []\/iC s l=true):isRoot s l=true:=by
 unfold isRoot;rw[dF hs];rcases h with rfl | h
 ·rfl
 ·rw[h,Bool.or_true];rfl
theorem jX {s0 s2:ByteArray} {l:List (Nat×ByteArray)} {r:JA} (hs:s0≠zero32) (h:jR s0 l=some r):rootOf s0 s2 l=some s0:=by
 unfold rootOf;rw[if_pos (MK hs ?_)];by_cases hl:l= []
 ·exact .inl hl
 ·exact .inr (Jc h hl)
theorem zZ {s0 s2:ByteArray} {l:List (Nat×ByteArray)} {r:JA} (hs:s2≠zero32) (h:jR s2 l=some r) (hl:l≠ []) (ht:l7 l s0 s2=false):rootOf s0 s2 l=some s2:=by
 by_cases he:s0=s2
 ·subst he;exact jX hs h
 have h2:=Jc h hl;unfold rootOf;have h0:isRoot s0 l=false:=by
  unfold l7 at ht;unfold isRoot;rw[dF hl];rw[dF he,dF hs,h2] at ht
  simpa using ht
 rw[h0,if_neg (by decide),if_pos (MK hs (.inr h2))]
section
open Sec (aj bn iF eH je uG oK jd)
structure mJ where
 J:qm
 root:ByteArray
 chain:ByteArray
 image:Option ByteArray
 texts:List ByteArray
inductive Zq where
 | err (c:Int)
 | down (D:Dev)
 | ok (n:Nat) (J:qm) (D:Dev)
def gK (h:Nat) (t:ByteArray) (J:qm) (D:Dev):Zq:=
 if h<J.used+aj t.size then .err 15
 else if D.fails (aj t.size+1) then .down (D.off (nI ((aQ J.next t).take D.left.toNat) (J.ay*h+J.used) D.M))
 else .ok J.next ⟨J.ay,J.used+aj t.size,J.next+1,J.l++ [(J.next,t)],false⟩ (D.on (aj t.size+1) (dW (aQ J.next t) (J.ay*h+J.used) D.M))
def fA (h:Nat) (t:ByteArray) (J:qm) (D:Dev):Zq:=
 if h<aj t.size then .err 15
 else if D.fails (aj t.size+1) then .down (D.off (nI ((aQ J.next t).take D.left.toNat) ((1-J.ay)*h) D.M))
 else .ok J.next ⟨1-J.ay,aj t.size,J.next+1,[(J.next,t)],false⟩ (D.on (aj t.size+1) (dW (aQ J.next t) ((1-J.ay)*h) D.M))
def Dev.slot (D:Dev) (x:Nat×ByteArray):Int×Dev:=D.jq 0 fun D=> { D with slots:=D.slots.set x.1 x.2 }
def aH:List (Nat×ByteArray)->Dev->Int×Dev
 | [],D=>(0,D)
 | x::r,D=>if (D.slot x).1=0 then aH r (D.slot x).2 else D.slot x
abbrev uZ:=Int×Option mJ×Dev
def dR (ch:ByteArray) (V:mJ) (D:Dev):uZ:=if (D.slot (1,ch)).1=0 then (0,some V,(D.slot (1,ch)).2) else (14,none,(D.slot (1,ch)).2)
def dX (h:Nat) (V:mJ) (D:Dev) (t:ByteArray):uZ:=
 if 7971<t.size then (2,some V,D) else
 match gK h (aV V.root V.J.next (jQ t)) V.J D with
 | .err c=>(c,some V,D)
 | .down D'=>(14,none,D')
 | .ok n J' D'=>dR (dG V.chain n (aV V.root V.J.next (jQ t))) ⟨J',V.root,dG V.chain n (aV V.root V.J.next (jQ t)),V.image,V.texts++ [t]⟩ D'
def dY (h:Nat) (V:mJ) (D:Dev) (root image:ByteArray):uZ:=
 match fA h (aV root V.J.next (kY V.chain image)) V.J D with
 | .err c=>(c,some V,D)
 | .down D'=>(14,none,D')
 | .ok n J' D'=>(0,some ⟨J',root,dG V.chain n (aV root V.J.next (kY V.chain image)),some image,[]⟩,D')
def dK (h:Nat) (V:mJ) (D:Dev) (image:ByteArray):uZ:=
 if 7939<image.size then (2,some V,D) else
 match dY h V D V.root image with
 | (0,some V',D')=>dR V'.chain V' D'
 | x=>x
def rU (V:mJ) (D:Dev):uZ:=
 if (aH [(0,V.root),(1,V.chain),(2,zero32)] D).1=0 then (0,some V,(aH [(0,V.root),(1,V.chain),(2,zero32)] D).2) else (14,none,(aH [(0,V.root),(1,V.chain),(2,zero32)] D).2)
def eY (h:Nat) (V:mJ) (D:Dev) (root image:ByteArray):uZ:=
 if 7939<image.size then (2,some V,D)
 else if ¬ (D.slot (2,root)).1=0 then (14,none,(D.slot (2,root)).2) else
 match dY h V (D.slot (2,root)).2 root image with
 | (0,some V',D')=>rU V' D'
 | (_,none,D')=>(14,none,D')
 | (c,some V',D')=>(c,if (D'.slot (2,zero32)).1=0 then some V' else none,(D'.slot (2,zero32)).2)
def needed (slots:List ByteArray) (l:List (Nat×ByteArray)):List (Nat×ByteArray):=l.filter fun x=> !decide (slots.getD x.1 ⟨#[]⟩=x.2)
def iR (h:Nat) (D:Dev):uZ:=
 if D.slots.getD 0 ⟨#[]⟩=zero32/\D.slots.getD 2 ⟨#[]⟩=zero32 then (19,none,D) else
 match rootOf (D.slots.getD 0 ⟨#[]⟩) (D.slots.getD 2 ⟨#[]⟩) (bT h D.M).l with
 | none=>(7,none,D)
 | some root=>
  match jR root (bT h D.M).l with
  | none=>(7,none,D)
  | some R=>
   if D.slots.getD 1 ⟨#[]⟩≠R.chain/\((bT h D.M).l= []\/D.slots.getD 1 ⟨#[]⟩≠R.before) then (9,none,D)
   else if (aH (needed D.slots [(0,root),(1,R.chain),(2,zero32)]) D).1=0 then (0,some ⟨bT h D.M,root,R.chain,R.image,R.texts⟩,(aH (needed D.slots [(0,root),(1,R.chain),(2,zero32)]) D).2)
   else (14,none,(aH (needed D.slots [(0,root),(1,R.chain),(2,zero32)]) D).2)
def Dev.mount (D:Dev) (P:List Int):Dev:= { D with M:=kZ D.M P,down:=false,left:= -1 }
structure vk (h:Nat) (J:qm) (M:List Sec) (b:Nat):Prop where
 inv:JInv h J M
 low:Low ((aP M).take (2*h)) J.next
 eX:lT 0 M
 next:J.next<=b
theorem vk.most {h b:Nat} {J:qm} {M:List Sec} (k:vk h J M b) (hb:b<=255):J.next<=bn:=by have:=k.next;unfold Sec.bn;omega
theorem vk.up {h b c:Nat} {J:qm} {M:List Sec} (k:vk h J M b) (hb:b<=c):vk h J M c:=⟨k.inv,k.low,k.eX,fU k.next hb⟩
theorem vk.open_ {h b:Nat} {J:qm} {M:List Sec} (k:vk h J M b) (hb:b<=255):vk h (bT h M) M b:=
 ⟨open_inv k.inv,JL (k.most hb) k.low,k.eX,fU (Gy k.inv k.low) k.next⟩
theorem L9 (n h:Nat) (h1:1<=h) (hn:2*h<=n):vk h J0 (List.replicate n Sec.blank) 1:=⟨yR n h h1 hn,Yh _ _,Nw _ _,aF _⟩
section
variable {h b:Nat} {J:qm} {D:Dev} {t:ByteArray}
theorem Zr (k:vk h J D.M b) (hb:b<255) (ht:t.size<=8000) (hr:J.used+aj t.size<=h) (hs:J.dL=false):
  vk h ⟨J.ay,J.used+aj t.size,J.next+1,J.l++ [(J.next,t)],false⟩ (dW (aQ J.next t) (J.ay*h+J.used) D.M) (b+1):=by
 have hm:=k.most (by omega);have e:=JM k.inv (uM k.eX (iT _)) hs t;rw[if_neg (by omega)] at e;have i:=TS k.inv hm ht;have l:=TV (t:=t) k.inv hm k.low;have u:=PK (t:=t) k.inv k.eX;rw[e] at i l u;exact⟨i,l,u,Nat.succ_le_succ k.next⟩
theorem Vx (k:vk h J D.M b) (hb:b<255) (ht:t.size<=8000) (hr:aj t.size<=h):
  vk h ⟨1-J.ay,aj t.size,J.next+1,[(J.next,t)],false⟩ (dW (aQ J.next t) ((1-J.ay)*h) D.M) (b+1):=by
 have hm:=k.most (by omega);have e:=Gz k.inv (uM k.eX (iT _)) t;rw[if_neg (by omega)] at e;have i:=PE k.inv hm ht;have l:=PG (t:=t) k.inv hm k.low;have u:=Nv (t:=t) k.inv k.eX;rw[e] at i l u;exact⟨i,l,u,Nat.succ_le_succ k.next⟩
theorem Xy (D:Dev) (hf:D.fails (aj t.size+1)):D.left.toNat<=aj t.size:=by unfold Dev.fails at hf;omega
theorem Vy (k:vk h J D.M b) (hb:b<255) (ht:t.size<=8000) (hr:J.used+aj t.size<=h) (hf:D.fails (aj t.size+1)) (P:List Int):
  vk h { J with next:=J.next+1 } (kZ (nI ((aQ J.next t).take D.left.toNat) (J.ay*h+J.used) D.M) P) (b+1)\/
  vk h ⟨J.ay,J.used+aj t.size,J.next+1,J.l++ [(J.next,t)],false⟩ (kZ (nI ((aQ J.next t).take D.left.toNat) (J.ay*h+J.used) D.M) P) (b+1):=by
 have hr3:J.ay*h+J.used+aj t.size<=2*h:=by rcases k.inv.ay with e | e<;>rw[e]<;>omega
 have hn:=k.next;obtain⟨hp,hl,hfi,hcl,hw⟩:=MH (N:=J.next) k.inv.fine k.inv.clean k.eX (Xy D hf) hr3 k.inv.len k.inv.next (by omega) k.low P;rcases Oj k.inv (k.most (by omega)) ht hr hfi hcl hp with i | i
 ·exact .inl ⟨i,hl,hw,Nat.succ_le_succ hn⟩
 ·exact .inr ⟨i,hl,hw,Nat.succ_le_succ hn⟩
theorem RS (k:vk h J D.M b) (hb:b<255) (ht:t.size<=8000) (hr:aj t.size<=h) (hf:D.fails (aj t.size+1)) (P:List Int):
  vk h { J with next:=J.next+1 } (kZ (nI ((aQ J.next t).take D.left.toNat) ((1-J.ay)*h) D.M) P) (b+1)\/
  vk h ⟨1-J.ay,aj t.size,J.next+1,[(J.next,t)],false⟩ (kZ (nI ((aQ J.next t).take D.left.toNat) ((1-J.ay)*h) D.M) P) (b+1):=by
 have hr3:(1-J.ay)*h+aj t.size<=2*h:=by rcases k.inv.ay with e | e<;>rw[e]<;>simp<;>omega
 have hn:=k.next;obtain⟨hp,hl,hfi,hcl,hw⟩:=MH (N:=J.next) k.inv.fine k.inv.clean k.eX (Xy D hf) hr3 k.inv.len k.inv.next (by omega) k.low P;rcases Ko k.inv (k.most (by omega)) ht hr hfi hcl hp with i | i
 ·exact .inl ⟨i,hl,hw,Nat.succ_le_succ hn⟩
 ·exact .inr ⟨i,hl,hw,Nat.succ_le_succ hn⟩
theorem mQ {M:List Sec} (hc:Clean M) (P:List Int):kZ M P=M:=aak P hc
end
end
section
open Go.RowKit Go.Shelf
open Sec (aj bn nV)
attribute [local go_sem] Oper.semAt_some
section
variable {w w':World} {a:nP} {D:Dev} {jb h b:Nat} {J:qm} {v:Value}
theorem SB (hd:aO w a D) (hup:nM D) (hf:Fine D.M) (hc:Clean D.M) (hj:nU w jb a h J v) (t:ByteArray) (hN:1<=J.next/\J.next<=bn) (ht:t.size<=8000) (hh:h<=4096) (hu:aj t.size<=h) (hbk:J.ay<=1) (hb:(1-J.ay)*h+h<=D.M.length) (hD:D.M.length<=4096) (hl:D.left<0\/((aj t.size+1:Nat):Int)<=D.left) (hbad:badM (aQ J.next t) ((1-J.ay)*h) (dW (aQ J.next t) ((1-J.ay)*h) D.M) (aj t.size)=false):
  Calls Tryz.prog 94 #[.pointer (some ⟨jb,0,none⟩),.string t] w (OL w a jb h (((J.next:Int),0),⟨1-J.ay,aj t.size,J.next+1,[(J.next,t)],false⟩,D.on (aj t.size+1) (dW (aQ J.next t) ((1-J.ay)*h) D.M))):=by
 have hcc:=Sec.count_any (t.size:Int) w;rw[ng t ht] at hcc;obtain⟨bq,hbq⟩:∃ bq,1-J.ay=bq:=⟨_,rfl⟩;have hbz:(1:Int)-(J.ay:Int)=(bq:Int):=by omega
 have ade:bq<=1048576:=by omega
 rw[hbq] at hb hbad ⊢;obtain⟨mm,hmm⟩:∃ mm,bq*h=mm:=⟨_,rfl⟩;have hmz:(bq:Int)*(h:Int)=(mm:Int):=by rw[<-hmm];push_cast;rfl
 rw[hmm] at hb hbad ⊢;clear hmm hbk hbq;have d2:decide (4611686018427387904<(J.next:Int))=false:=by
  have h1:=hN.2;have hm:bn=4611686018427387904:=rfl;clear hb hu hh hcc hmz hbz;exact dF (by omega)
 have WM:=zh hN;clear hN;have Js:mm<=1048576:=by omega
 have HP:Hid (∀ wq,Below w.heap.size w wq->Calls Tryz.prog 88 #[.pointer (some ⟨jb,0,none⟩),.int .i64 (mm:Int),.string t] wq fun e w'=>e= .returned (.tuple #[.int .i64 (J.next:Int),.int .i64 0])/\aO w' a (D.on (aj t.size+1) (dW (aQ J.next t) mm D.M))/\nU w' jb a h { J with next:=J.next+1 } v/\cZ wq w' a jb):=by
  intro wq hB;exact XH (hd.below hB) hup hf hc (hj.below hB) mm t WM.out ht (by omega) hD hl hbad
 obtain⟨C,hC⟩:∃ C,aj t.size=C:=⟨_,rfl⟩;rw[hC] at hcc hu hl HP ⊢;have HC:=zh hcc;have d3:decide (h<C)=false:=dF (by omega);have d3':decide ((h:Int)<(C:Int))=false:=dF (by omega);generalize D.on (C+1) (dW (aQ J.next t) mm D.M)=E at HP ⊢;obtain⟨c0,c1,c2,c3,c4,c5,c6,c7⟩:=hj.cells;have d1:decide (8000<(t.size:Int))=false:=dF (by omega);have HJ:=zh hj;clear hl hbad hd hup hf hc hj WM ht hC hu hh hcc hb hD;have hwb:wrap64 ((1:Int)-(J.ay:Int))=(bq:Int):=by
  rw[hbz];exact wrap_small ade
 have hwm:wrap64 ((bq:Int)*(h:Int))=(mm:Int):=by
  rw[hmz];exact wrap_small Js
 have hwz:IntKind.i64.wrap (IntKind.i64.wrap ((1:Int)-(J.ay:Int))*(h:Int))=(mm:Int):=by
  have e:∀ x:Int,IntKind.i64.wrap x=wrap64 x:=fun x=>by rw[IntKind.wrap_i64,wrap64]
  rw[e,e,hwb,hwm]
 clear hmz Js hbz ade;unfold OL;go_enter Tryz.func94,Tryz.ntmps94;go_wp2_with (first | (go_at_call 39;refine HC.out.mono ?_;rintro e w1 ⟨rfl,rfl⟩))
 go_region_held3 (fun w'=>w'.cell? ⟨jb,2,none⟩=some (.int .i64 J.ay)/\w'.cell? ⟨jb,1,none⟩=some (.int .i64 h)) (go_keep)
  (first | (go_at_call 88;refine(HP.out _ (bK _ w).drew).mono ?_;rintro e w3 ⟨rfl,hd3,hj3,hF3⟩;obtain⟨e0,e1,e2,e3,e4,e5,e6,e7⟩:=hj3.cells))
 have HF3:Hid (cZ w w3 a jb):=(cZ.bD (bK _ w).drew).trans hF3;clear c0 c1 c2 c3 c4 c5 c6 c7 HP HC hF3;have hbl:=hj3.blk;obtain⟨w4,hw4⟩:∃ w4,w3.alloc (.cells #[.int .i64 (J.next:Int),.string t] 134)=w4:=⟨_,rfl⟩;have hb4:=hbl.alloc (.cells #[.int .i64 (J.next:Int),.string t] 134);rw[hw4] at hb4;have y2:w4.cell? ⟨jb,2,none⟩=some (.int .i64 (J.ay:Int)):=hb4.cell 2;have y3:w4.cell? ⟨jb,3,none⟩=some (.int .i64 (J.used:Int)):=hb4.cell 3;have y5:w4.cell? ⟨jb,5,none⟩=some v:=hb4.cell 5;have y6:w4.cell? ⟨jb,6,none⟩=some (.bool J.dL):=hb4.cell 6;have g2:=hb4.frozen 2;have g3:=hb4.frozen 3;have g5:=hb4.frozen 5;have g6:=hb4.frozen 6;have hfin:Hid (aO ((((w4.setCell ⟨jb,2,none⟩ (.int .i64 (bq:Int))).setCell ⟨jb,3,none⟩ (.int .i64 (C:Int))).setCell ⟨jb,5,none⟩ (.slice (some ⟨w3.heap.size,0,none⟩) 1 1)).setCell ⟨jb,6,none⟩ (.bool false)) a E/\
   nU ((((w4.setCell ⟨jb,2,none⟩ (.int .i64 (bq:Int))).setCell ⟨jb,3,none⟩ (.int .i64 (C:Int))).setCell ⟨jb,5,none⟩ (.slice (some ⟨w3.heap.size,0,none⟩) 1 1)).setCell ⟨jb,6,none⟩ (.bool false)) jb a h ⟨bq,C,J.next+1,[(J.next,t)],false⟩ (.slice (some ⟨w3.heap.size,0,none⟩) 1 1)/\
   cZ w ((((w4.setCell ⟨jb,2,none⟩ (.int .i64 (bq:Int))).setCell ⟨jb,3,none⟩ (.int .i64 (C:Int))).setCell ⟨jb,5,none⟩ (.slice (some ⟨w3.heap.size,0,none⟩) 1 1)).setCell ⟨jb,6,none⟩ (.bool false)) a jb):=by
  rw[<-hw4];have hB:Below w3.heap.size w3 (w3.alloc (.cells #[.int .i64 (J.next:Int),.string t] 134)):=(bK _ w3).alloc (aF _) _;have hb0:=hbl.alloc (.cells #[.int .i64 (J.next:Int),.string t] 134);have d0:aO (w3.alloc (.cells #[.int .i64 (J.next:Int),.string t] 134)) a E:=hd3.below hB;have q2:=hb0.aB 2 (.int .i64 (bq:Int));have q3:=q2.aB 3 (.int .i64 (C:Int));have q5:=q3.aB 5 (.slice (some ⟨w3.heap.size,0,none⟩) 1 1);have d2:aO _ a E:=eP d0 hb0 (by decide) (au _ jb 2 (.int .i64 (bq:Int)));have d3:aO _ a E:=eP d2 q2 (by decide) (au _ jb 3 (.int .i64 (C:Int)));have d5:aO _ a E:=eP d3 q3 (by decide) (au _ jb 5 (.slice (some ⟨w3.heap.size,0,none⟩) 1 1));have d6:aO _ a E:=eP d5 q5 (by decide) (au _ jb 6 (.bool false));exact⟨d6,hj3.fresh,HF3.out.trans (((((cZ.bD hB).set 2 _).set 3 _).set 5 _).set 6 _)⟩
 clear hbl hb4 hj3 hd3 HF3;go_wp2_with fail;go_ret2;first | exact⟨rfl,hfin.out.1,⟨_,hfin.out.2.1⟩,hfin.out.2.2⟩ | exact⟨_,rfl,hfin.out.1,hfin.out.2.1,hfin.out.2.2⟩
theorem OM (hd:aO w a D) (hup:nM D) (hf:Fine D.M) (hc:Clean D.M) (hj:nU w jb a h J v) (t:ByteArray) (hN:1<=J.next/\J.next<=bn) (ht:t.size<=8000) (hh:h<=4096) (hu:aj t.size<=h) (hbk:J.ay<=1) (hb:(1-J.ay)*h+h<=D.M.length) (hD:D.M.length<=4096) (hl:D.fails (aj t.size+1)):
  Calls Tryz.prog 94 #[.pointer (some ⟨jb,0,none⟩),.string t] w (XI w a jb (D.off (nI ((aQ J.next t).take D.left.toNat) ((1-J.ay)*h) D.M))):=by
 have hcc:=Sec.count_any (t.size:Int) w;rw[ng t ht] at hcc;obtain⟨bq,hbq⟩:∃ bq,1-J.ay=bq:=⟨_,rfl⟩;have hbz:(1:Int)-(J.ay:Int)=(bq:Int):=by omega
 have ade:bq<=1048576:=by omega
 rw[hbq] at hb ⊢;obtain⟨mm,hmm⟩:∃ mm,bq*h=mm:=⟨_,rfl⟩;have hmz:(bq:Int)*(h:Int)=(mm:Int):=by rw[<-hmm];push_cast;rfl
 rw[hmm] at hb ⊢;clear hmm hbk hbq;have d2:decide (4611686018427387904<(J.next:Int))=false:=by
  have h1:=hN.2;have hm:bn=4611686018427387904:=rfl;clear hb hu hh hcc hmz hbz;exact dF (by omega)
 have WM:=zh hN;clear hN;have Js:mm<=1048576:=by omega
 have HP:Hid (∀ wq,Below w.heap.size w wq->Calls Tryz.prog 88 #[.pointer (some ⟨jb,0,none⟩),.int .i64 (mm:Int),.string t] wq fun e w'=>e= .returned (.tuple #[.int .i64 0,.int .i64 14])/\aO w' a (D.off (nI ((aQ J.next t).take D.left.toNat) mm D.M))/\ak w' jb 126 #[.pointer (some ⟨a.d,0,none⟩),.int .i64 h,.int .i64 J.ay,.int .i64 J.used,.int .i64 ((J.next+1:Nat):Int),v,.bool J.dL,.bool true]/\cZ wq w' a jb):=by
  intro wq hB;exact Sz (hd.below hB) hup hf hc (hj.below hB) mm t WM.out ht (by omega) hD hl
 obtain⟨C,hC⟩:∃ C,aj t.size=C:=⟨_,rfl⟩;rw[hC] at hcc hu hl;have HC:=zh hcc;have d3:decide (h<C)=false:=dF (by omega);have d3':decide ((h:Int)<(C:Int))=false:=dF (by omega);generalize D.off (nI ((aQ J.next t).take D.left.toNat) mm D.M)=E at HP ⊢;obtain⟨c0,c1,c2,c3,c4,c5,c6,c7⟩:=hj.cells;have d1:decide (8000<(t.size:Int))=false:=dF (by omega);have HJ:=zh hj;clear hl hd hup hf hc hj WM ht hC hu hh hcc hb hD;have hwb:wrap64 ((1:Int)-(J.ay:Int))=(bq:Int):=by
  rw[hbz];exact wrap_small ade
 have hwm:wrap64 ((bq:Int)*(h:Int))=(mm:Int):=by
  rw[hmz];exact wrap_small Js
 have hwz:IntKind.i64.wrap (IntKind.i64.wrap ((1:Int)-(J.ay:Int))*(h:Int))=(mm:Int):=by
  have e:∀ x:Int,IntKind.i64.wrap x=wrap64 x:=fun x=>by rw[IntKind.wrap_i64,wrap64]
  rw[e,e,hwb,hwm]
 clear hmz Js hbz ade;unfold XI;go_enter Tryz.func94,Tryz.ntmps94;go_wp2_with (first | (go_at_call 39;refine HC.out.mono ?_;rintro e w1 ⟨rfl,rfl⟩))
 go_region_held3 (fun w'=>w'.cell? ⟨jb,2,none⟩=some (.int .i64 J.ay)/\w'.cell? ⟨jb,1,none⟩=some (.int .i64 h)) (go_keep)
  (first | (go_at_call 88;refine(HP.out _ (bK _ w).drew).mono ?_;rintro e w3 ⟨rfl,hd3,hj3,hF3⟩;have e1:=hj3.cell 1;have e2:=hj3.cell 2))
 have HF3:Hid (cZ w w3 a jb):=(cZ.bD (bK _ w).drew).trans hF3;clear c0 c1 c2 c3 c4 c5 c6 c7 HP HC hF3;go_wp2_with fail;go_ret2;exact⟨rfl,hd3,HF3.out⟩
def XJ (w:World) (a:nP) (jb h:Nat) (J:qm) (D:Dev) (r:Zq) (e:Ending) (w':World):Prop:=
 cZ w w' a jb/\match r with
 | .err c=>e= .returned (.tuple #[.int .i64 0,.int .i64 c])/\aO w' a D/\∃ v',nU w' jb a h J v'
 | .down E=>e= .returned (.tuple #[.int .i64 0,.int .i64 14])/\aO w' a E
 | .ok n J' E=>e= .returned (.tuple #[.int .i64 (n:Int),.int .i64 0])/\aO w' a E/\∃ v',nU w' jb a h J' v'
theorem vk.XK (k:vk h J D.M b):J.ay<=1:=by rcases k.inv.ay with e | e<;>omega
theorem SC (hd:aO w a D) (hup:nM D) (hj:nU w jb a h J v) (k:vk h J D.M b) (hb:b<=255) (hs:J.dL=false) (t:ByteArray) (ht:t.size<=8000) (hD:D.M.length<=4096) (hll:J.l.length<=1048576):
  Calls Tryz.prog 50 #[.pointer (some ⟨jb,0,none⟩),.string t] w (XJ w a jb h J D (gK h t J D)):=by
 have hN:1<=J.next/\J.next<=bn:=⟨k.inv.next,k.most hb⟩;have hh:h<=4096:=by have:=k.inv.len;omega
 unfold gK;by_cases h1:h<J.used+aj t.size
 ·rw[if_pos h1];refine(PV hd hj t hN.2 ht hs k.inv.used (fU hh (by decide)) h1).mono ?_;rintro e w' ⟨v',e1,e2,e3,e4⟩;exact⟨e4,e1,e2,v',e3⟩
 ·rw[if_neg h1];by_cases h2:D.fails (aj t.size+1)
  ·rw[if_pos h2];refine(SA hd hup k.inv.fine k.inv.clean hj t hN ht hs hh (Ep h1) k.XK k.inv.ru.1 hD hll h2).mono ?_;rintro e w' ⟨e1,e2,e3⟩;exact⟨e3,e1,e2⟩
  ·rw[if_neg h2];have hb3:J.ay*h+J.used+aj t.size<=D.M.length:=by have:=k.inv.ru.1;omega
   refine(VY hd hup k.inv.fine k.inv.clean hj t hN ht hs hh (Ep h1) k.XK k.inv.ru.1 hD hll (zF h2) (vK k.inv.fine k.inv.clean hb3 (uM k.eX (iT _)))).mono ?_;rintro e w' ⟨v',e1,e2,e3,e4⟩;exact⟨e4,e1,e2,v',e3⟩
theorem Kr (hd:aO w a D) (hup:nM D) (hj:nU w jb a h J v) (k:vk h J D.M b) (hb:b<=255) (t:ByteArray) (ht:t.size<=8000) (hD:D.M.length<=4096):
  Calls Tryz.prog 94 #[.pointer (some ⟨jb,0,none⟩),.string t] w (XJ w a jb h J D (fA h t J D)):=by
 have hN:1<=J.next/\J.next<=bn:=⟨k.inv.next,k.most hb⟩;have hh:h<=4096:=by have:=k.inv.len;omega
 unfold fA;by_cases h1:h<aj t.size
 ·rw[if_pos h1];refine(Ny hd hj t hN.2 ht h1).mono ?_;rintro e w' ⟨v',e1,e2,e3,e4⟩;exact⟨e4,e1,e2,v',e3⟩
 ·rw[if_neg h1];by_cases h2:D.fails (aj t.size+1)
  ·rw[if_pos h2];refine(OM hd hup k.inv.fine k.inv.clean hj t hN ht hh (Ep h1) k.XK k.inv.ru.2 hD h2).mono ?_;rintro e w' ⟨e1,e2,e3⟩;exact⟨e3,e1,e2⟩
  ·rw[if_neg h2];have hb3:(1-J.ay)*h+aj t.size<=D.M.length:=by have:=k.inv.ru.2;omega
   refine(SB hd hup k.inv.fine k.inv.clean hj t hN ht hh (Ep h1) k.XK k.inv.ru.2 hD (zF h2) (vK k.inv.fine k.inv.clean hb3 (uM k.eX (iT _)))).mono ?_;rintro e w' ⟨v',e1,e2,e3,e4⟩;exact⟨e4,e1,e2,v',e3⟩
end
end
section
open Sec (aj bn iF eH)
theorem iD {D:Dev} (hd:nM D) (x:Nat×ByteArray):(D.left=0/\D.slot x=(14,D.off D.M))\/(¬ D.left=0/\D.slot x=(0,{ D.on 1 D.M with slots:=D.slots.set x.1 x.2 })):=by
 by_cases h0:D.left=0
 ·left
  have:=I9 hd (fun D=> { D with slots:=D.slots.set x.1 x.2 }) 0 D.M (by rw[h0];rfl);rw[Oo] at this;exact⟨h0,this⟩
 ·right
  have:=Om hd (fun D=> { D with slots:=D.slots.set x.1 x.2 }) 0 D.M (by have:=hd.left;omega);rw[Oo] at this;exact⟨h0,this⟩
structure ML (D D':Dev):Prop where
 M:D'.M=D.M
 up:D.left= -1->D'.down=false/\D'.left= -1
 MN:D'.qR=D.qR/\D'.counter=D.counter/\D'.clock=D.clock
theorem ML.refl {D:Dev} (hd:nM D):ML D D:=⟨rfl,fun h=>⟨hd.down,h⟩,rfl,rfl,rfl⟩
theorem qG {D:Dev} (hd:nM D) (h0:¬ D.left=0) (x:Nat×ByteArray):nM { D.on 1 D.M with slots:=D.slots.set x.1 x.2 }/\ML D { D.on 1 D.M with slots:=D.slots.set x.1 x.2 }:=by
 have hl:=hd.left;have h1:=Fe (k:=1) (M:=D.M) hd (by omega);refine⟨⟨h1.down,h1.left⟩,rfl,fun e=>⟨hd.down,?_⟩,rfl,rfl,rfl⟩;show I8 D.left 1= -1
 rw[e];rfl
def Vz (l:List (Nat×ByteArray)) (s:List ByteArray):List ByteArray:=l.foldl (fun s x=>s.set x.1 x.2) s
theorem lI:∀ (l:List (Nat×ByteArray)) (D:Dev),nM D->
  ((aH l D).1=0/\nM (aH l D).2/\ML D (aH l D).2/\(aH l D).2.slots=Vz l D.slots)\/
  ((aH l D).1=14/\(aH l D).2.down=true/\(aH l D).2.M=D.M/\0<=D.left)
 | [],D,hd=> .inl ⟨rfl,hd,ML.refl hd,rfl⟩
 | x::r,D,hd=>by
  rcases iD hd x with⟨h0,e⟩ | ⟨h0,e⟩
  ·have e2:aH (x::r) D=D.slot x:=by
    show(if (D.slot x).1=0 then _ else _)=_
    rw[if_neg (by rw[e];show ¬ (14:Int)=0;decide)]
   rw[e2,e];exact .inr ⟨rfl,rfl,rfl,by omega⟩
  ·have e2:aH (x::r) D=aH r (D.slot x).2:=by
    show(if (D.slot x).1=0 then _ else _)=_
    rw[if_pos (by rw[e])]
   rw[e2,e];obtain⟨d1,s1⟩:=qG hd h0 x;rcases lI r _ d1 with⟨a1,a2,a3,a4⟩ | ⟨a1,a2,a3,a4⟩
   ·refine .inl ⟨a1,a2,⟨a3.M.trans s1.M,fun h=>a3.up (s1.up h).2,a3.MN.1.trans s1.MN.1,a3.MN.2.1.trans s1.MN.2.1,a3.MN.2.2.trans s1.MN.2.2⟩,a4⟩
   ·refine .inr ⟨a1,a2,a3.trans s1.M,?_⟩;have a5:0<=I8 D.left 1:=a4;unfold I8 at a5;split at a5<;>omega
theorem pI {Q:List ByteArray->Prop}:∀ (l:List (Nat×ByteArray)) (D:Dev),nM D->Q D.slots->(∀ x ∈ l,∀ s,Q s->Q (s.set x.1 x.2))->Q (aH l D).2.slots
 | [],_,_,h,_=>h
 | x::r,D,hd,h,hk=>by
  rcases iD hd x with⟨h0,e⟩ | ⟨h0,e⟩
  ·have e2:aH (x::r) D=D.slot x:=by
    show(if (D.slot x).1=0 then _ else _)=_
    rw[if_neg (by rw[e];show ¬ (14:Int)=0;decide)]
   rw[e2,e];exact h
  ·have e2:aH (x::r) D=aH r (D.slot x).2:=by
    show(if (D.slot x).1=0 then _ else _)=_
    rw[if_pos (by rw[e])]
   rw[e2,e];exact pI r _ (qG hd h0 x).1 (hk x (List.mem_cons_self ..) _ h) (fun y hy=>hk y (List.mem_cons_of_mem _ hy))
structure jy (h:Nat) (V:mJ) (D:Dev) (b:Nat):Prop where
 on:nM D
 CJ:vk h V.J D.M b
 dL:V.J.dL=false
 slots:D.slots= [V.root,V.chain,zero32]
 root:V.root.size=32/\V.root≠zero32
 read:∃ R,jR V.root V.J.l=some R/\R.chain=V.chain/\R.image=V.image/\R.texts=V.texts
def jA (s:List ByteArray):Prop:=(s.getD 0 ⟨#[]⟩).size=32/\s.getD 0 ⟨#[]⟩≠zero32/\(s.getD 2 ⟨#[]⟩).size=32
theorem jA.mk {s0 s1 s2:ByteArray} (h:s0.size=32/\s0≠zero32) (h2:s2.size=32):jA [s0,s1,s2]:=⟨h.1,h.2,h2⟩
theorem jA.set0 {s:List ByteArray} (h:jA s) {t:ByteArray} (ht:t.size=32/\t≠zero32):jA (s.set 0 t):=by
 match s,h with
 | [],h=>exact absurd h.1 (by decide)
 | [_],h=>exact⟨ht.1,ht.2,h.2.2⟩
 | [_,_],h=>exact⟨ht.1,ht.2,h.2.2⟩
 | _::_::_::_,h=>exact⟨ht.1,ht.2,h.2.2⟩
theorem jA.set1 {s:List ByteArray} (h:jA s) (t:ByteArray):jA (s.set 1 t):=by
 match s,h with
 | [],h=>exact h
 | [_],h=>exact h
 | [_,_],h=>exact h
 | _::_::_::_,h=>exact h
theorem jA.set2 {s:List ByteArray} (h:jA s) {t:ByteArray} (ht:t.size=32):jA (s.set 2 t):=by
 match s,h with
 | [],h=>exact h
 | [_],h=>exact h
 | [_,_],h=>exact h
 | _::_::_::_,h=>exact⟨h.1,h.2.1,ht⟩
structure Lies (h:Nat) (D:Dev) (b:Nat) (root:ByteArray) (image:Option ByteArray) (texts:List ByteArray):Prop where
 ok:∃ J R s0 s1 s2,vk h J D.M b/\jR root J.l=some R/\R.image=image/\R.texts=texts/\D.slots= [s0,s1,s2]/\(s1=R.chain\/(J.l≠ []/\s1=R.before))/\(root=s0\/(root=s2/\J.l≠ []))
 root:root.size=32/\root≠zero32
 good:jA D.slots
def Og (h:Nat) (D:Dev) (root:ByteArray):Prop:=root=D.slots.getD 0 ⟨#[]⟩\/l7 (bT h D.M).l (D.slots.getD 0 ⟨#[]⟩) (D.slots.getD 2 ⟨#[]⟩)=false
section
variable {h b:Nat} {V:mJ} {D:Dev}
theorem jy.chain (I:jy h V D b):V.chain.size=32:=by
 obtain⟨R,hR,e,_⟩:=I.read;rw[<-e];exact rV hR
theorem jy.up (I:jy h V D b) {c:Nat} (hb:b<=c):jy h V D c:=⟨I.on,I.CJ.up hb,I.dL,I.slots,I.root,I.read⟩
theorem jy.lies (I:jy h V D b):Lies h D b V.root V.image V.texts/\V.root=D.slots.getD 0 ⟨#[]⟩:=by
 obtain⟨R,hR,e1,e2,e3⟩:=I.read;refine⟨⟨⟨V.J,R,V.root,V.chain,zero32,I.CJ,hR,e2,e3,I.slots,.inl e1.symm,.inl rfl⟩,I.root,by rw[I.slots];exact jA.mk I.root rfl⟩,?_⟩;rw[I.slots];rfl
theorem Lies.same {D D':Dev} {root:ByteArray} {image:Option ByteArray} {texts:List ByteArray} (L:Lies h D b root image texts) (hM:D'.M=D.M) (hs:D'.slots=D.slots):Lies h D' b root image texts:=by
 obtain⟨J,R,s0,s1,s2,h1,h2,h3,h4,h5,h6,h7⟩:=L.ok;exact⟨⟨J,R,s0,s1,s2,by rw[hM];exact h1,h2,h3,h4,hs.trans h5,h6,h7⟩,L.root,by rw[hs];exact L.good⟩
theorem Zo {root:ByteArray} {image:Option ByteArray} {texts:List ByteArray} (L:Lies h D b root image texts) (hd:nM D) (hb:b<=255) (hs:Og h D root):
  (∃ V D',iR h D=(0,some V,D')/\V.root=root/\V.image=image/\V.texts=texts/\jy h V D' b/\ML D D')\/
  (∃ D',iR h D=(14,none,D')/\D'.down=true/\0<=D.left/\∀ P,Lies h (D'.mount P) b root image texts/\Og h (D'.mount P) root):=by
 obtain⟨J,R,s0,s1,s2,hJ,hR,hI,hT,hS,h1,h2⟩:=L.ok;obtain⟨hr1,hr2⟩:=L.root;obtain⟨_,_,hl⟩:=mP hJ.inv;have hJo:=hJ.open_ hb;have hsp:(bT h D.M).dL=false:=rfl;have ap1:=hs;unfold Og at hs;rw[hS] at hs;have g0:([s0,s1,s2]:List ByteArray).getD 0 ⟨#[]⟩=s0:=rfl;have g1:([s0,s1,s2]:List ByteArray).getD 1 ⟨#[]⟩=s1:=rfl;have g2:([s0,s1,s2]:List ByteArray).getD 2 ⟨#[]⟩=s2:=rfl;rw[g0,g2] at hs;have hroot:rootOf s0 s2 (bT h D.M).l=some root:=by
  rw[hl] at hs ⊢;rcases h2 with e | ⟨e,hne⟩
  ·rw[e] at hR hr2;rw[e];exact jX hr2 hR
  ·rcases hs with e2 | ht
   ·rw[e2] at hR hr2;rw[e2];exact jX hr2 hR
   ·rw[e] at hR hr2;rw[e];exact zZ hr2 hR hne ht
 have hz:¬ (s0=zero32/\s2=zero32):=by
  rintro⟨z0,z2⟩;rcases h2 with e | ⟨e,_⟩
  ·exact hr2 (e.trans z0)
  ·exact hr2 (e.trans z2)
 have hst:¬ (s1≠R.chain/\((bT h D.M).l= []\/s1≠R.before)):=by
  rintro⟨a,c⟩;rcases h1 with e | ⟨hne,e⟩
  ·exact a e
  ·rcases c with c | c
   ·rw[hl] at c;exact hne c
   ·exact c e
 have hR':jR root (bT h D.M).l=some R:=by rw[hl];exact hR
 have hopen:iR h D=if (aH (needed [s0,s1,s2] [(0,root),(1,R.chain),(2,zero32)]) D).1=0 then (0,some ⟨bT h D.M,root,R.chain,R.image,R.texts⟩,(aH (needed [s0,s1,s2] [(0,root),(1,R.chain),(2,zero32)]) D).2)
   else (14,none,(aH (needed [s0,s1,s2] [(0,root),(1,R.chain),(2,zero32)]) D).2):=by
  unfold iR;rw[hS,g0,g1,g2,if_neg hz,hroot];dsimp only;rw[hR'];dsimp only;rw[if_neg hst]
 rw[hopen];have hall:Vz (needed [s0,s1,s2] [(0,root),(1,R.chain),(2,zero32)]) [s0,s1,s2]= [root,R.chain,zero32]:=by
  unfold needed Vz;by_cases a0:s0=root<;>by_cases a1:s1=R.chain<;>by_cases a2:s2=zero32<;>simp[a0,a1,a2]
 rcases lI (needed [s0,s1,s2] [(0,root),(1,R.chain),(2,zero32)]) D hd with⟨e,d1,d2,d3⟩ | ⟨e,d1,d2,d3⟩
 ·left
  rw[if_pos e];refine⟨_,_,rfl,rfl,hI,hT,⟨d1,?_,rfl,?_,⟨hr1,hr2⟩,R,hR',rfl,rfl,rfl⟩,d2⟩
  ·rw[d2.M];exact hJo
  ·rw[d3,hS,hall]
 ·right
  rw[if_neg (by rw[e];show ¬ (14:Int)=0;decide)];refine⟨_,rfl,d1,d3,fun P=>?_⟩;have hM:((aH (needed [s0,s1,s2] [(0,root),(1,R.chain),(2,zero32)]) D).2.mount P).M=D.M:=by
   show kZ (aH _ D).2.M P=_
   rw[d2];exact mQ hJ.inv.clean P
  have hq:∃ t0 t1 t2,(aH (needed [s0,s1,s2] [(0,root),(1,R.chain),(2,zero32)]) D).2.slots= [t0,t1,t2]/\(t1=R.chain\/(J.l≠ []/\t1=R.before))/\(t0=root\/(t0=s0/\t2=s2)):=by
   have key:∀ (l:List (Nat×ByteArray)) (E:Dev),nM E->(∀ x ∈ l,x=(0,root)\/x=(1,R.chain)\/x=(2,zero32))->(∃ t0 t1 t2,E.slots= [t0,t1,t2]/\(t1=R.chain\/(J.l≠ []/\t1=R.before))/\t0=root)->
     ∃ t0 t1 t2,(aH l E).2.slots= [t0,t1,t2]/\(t1=R.chain\/(J.l≠ []/\t1=R.before))/\t0=root:=by
    intro l E hE hx hQ;refine pI (Q:=fun s=>∃ t0 t1 t2,s= [t0,t1,t2]/\(t1=R.chain\/(J.l≠ []/\t1=R.before))/\t0=root) l E hE hQ (fun x hxl s hs=>?_);obtain⟨t0,t1,t2,rfl,a,c⟩:=hs;rcases hx x hxl with rfl | rfl | rfl
    ·exact⟨root,t1,t2,rfl,a,rfl⟩
    ·exact⟨t0,R.chain,t2,rfl,.inl rfl,c⟩
    ·exact⟨t0,t1,zero32,rfl,a,c⟩
   by_cases a0:s0=root
   ·obtain⟨t0,t1,t2,q1,q2,q3⟩:=key (needed [s0,s1,s2] [(0,root),(1,R.chain),(2,zero32)]) D hd (fun x hx=>by
     have:=(List.mem_filter.1 hx).1
     simpa using this) ⟨s0,s1,s2,hS,h1,a0⟩
    exact⟨t0,t1,t2,q1,q2,.inl q3⟩
   ·have hn:needed [s0,s1,s2] [(0,root),(1,R.chain),(2,zero32)]=(0,root)::needed [s0,s1,s2] [(1,R.chain),(2,zero32)]:=by
     unfold needed;rw[List.filter_cons_of_pos];show(!decide (s0=root))=true
     rw[dF a0];rfl
    rw[hn];rcases iD hd (0,root) with⟨z0,e0⟩ | ⟨z0,e0⟩
    ·have e2:aH ((0,root)::needed [s0,s1,s2] [(1,R.chain),(2,zero32)]) D=D.slot (0,root):=by
      show(if (D.slot (0,root)).1=0 then _ else _)=_
      rw[if_neg (by rw[e0];show ¬ (14:Int)=0;decide)]
     rw[e2,e0];exact⟨s0,s1,s2,hS,h1,.inr ⟨rfl,rfl⟩⟩
    ·have e2:aH ((0,root)::needed [s0,s1,s2] [(1,R.chain),(2,zero32)]) D=aH (needed [s0,s1,s2] [(1,R.chain),(2,zero32)]) (D.slot (0,root)).2:=by
      show(if (D.slot (0,root)).1=0 then _ else _)=_
      rw[if_pos (by rw[e0])]
     rw[e2,e0];obtain⟨t0,t1,t2,q1,q2,q3⟩:=key (needed [s0,s1,s2] [(1,R.chain),(2,zero32)]) _ (qG hd z0 (0,root)).1 (fun x hx=>by
      have:=(List.mem_filter.1 hx).1;have h3:x=(1,R.chain)\/x=(2,zero32):=by simpa using this
      exact .inr h3) ⟨root,s1,s2,by show D.slots.set 0 root=_;rw[hS];rfl,h1,rfl⟩
     exact⟨t0,t1,t2,q1,q2,.inl q3⟩
  obtain⟨t0,t1,t2,q1,q2,q3⟩:=hq;have hS':((aH (needed [s0,s1,s2] [(0,root),(1,R.chain),(2,zero32)]) D).2.mount P).slots= [t0,t1,t2]:=q1;constructor
  ·refine⟨⟨J,R,t0,t1,t2,by rw[hM];exact hJ,hR,hI,hT,hS',q2,?_⟩,⟨hr1,hr2⟩,pI (Q:=jA) _ D hd L.good (fun x hx s hs=>?_)⟩
   rotate_left
   ·have h3:x=(0,root)\/x=(1,R.chain)\/x=(2,zero32):=by simpa using (List.mem_filter.1 hx).1
    rcases h3 with rfl | rfl | rfl
    ·exact hs.set0 ⟨hr1,hr2⟩
    ·exact hs.set1 _
    ·exact hs.set2 rfl
   rcases q3 with rfl | ⟨rfl,rfl⟩
   ·exact .inl rfl
   ·exact h2
  ·unfold Og;rw[hS',hM];show root=t0\/l7 (bT h D.M).l t0 t2=false
   rcases q3 with rfl | ⟨rfl,rfl⟩
   ·exact .inl rfl
   ·exact hs
end
end
open Go.RowKit Go.Shelf
attribute [local go_sem] Oper.semAt_some
structure uX where
 a:nP
 jb:Nat
 vb:Nat
 lo:Nat
def yI (w:World) (p:Value) (i:Option ByteArray) (a:nP):Prop:=(i=none/\p= .pointer none)\/∃ g k t T cs,i=some t/\p= .pointer (some ⟨g,k,none⟩)/\ak w g T cs/\cs[k]? =some (.string t)/\(T=9\/T=104)/\g≠a.sb
structure kH (w:World) (x:uX) (h:Nat) (V:mJ) (D:Dev) (p u:Value):Prop where
 dev:aO w x.a D
 OZ:∃ v,nU w x.jb x.a h V.J v
 blk:ak w x.vb 79 #[.pointer (some ⟨x.a.d,0,none⟩),.pointer (some ⟨x.jb,0,none⟩),.string V.root,.string V.chain,p,u,.bool false]
 img:yI w p V.image x.a
 row:w.ownsRow x.lo 9 1 u V.texts.length (strCells V.texts)
 acV:x.a.sb<x.lo
 Rw:∀ g i,p= .pointer (some ⟨g,i,none⟩)->g<x.lo
 Y8:x.lo<=w.heap.size
structure bH (w w':World) (x:uX) (u:Value):Prop where
 os:w'.os=w.os
 tape:w'.tape=w.tape
 output:w'.output=w.output
 size:w.heap.size<=w'.heap.size
 rest:∀ k,k<w.heap.size->k≠x.a.d->k≠x.a.g->k≠x.a.sb->k≠x.a.fb->k≠x.jb->k≠x.vb->u.ownBlock≠some k->w'.heap[k]? =w.heap[k]?
section
variable {w w' w2:World} {x:uX} {h:Nat} {V:mJ} {D E:Dev} {p u:Value}
theorem kH.own (k:kH w x h V D p u):∀ j,u.ownBlock=some j->j≠x.a.sb:=fun j e=>by have:=(k.row.lt j e).1;have:=k.acV;omega
theorem bH.refl (w:World):bH w w x u:=⟨rfl,rfl,rfl,aF _,fun _ _ _ _ _ _ _ _ _=>rfl⟩
theorem bH.trans (h:bH w w' x u) (k:bH w' w2 x u):bH w w2 x u:=
 ⟨k.os.trans h.os,k.tape.trans h.tape,k.output.trans h.output,fU h.size k.size,fun j hj h1 h2 h3 h4 h5 h6 h7=>(k.rest j (rY hj h.size) h1 h2 h3 h4 h5 h6 h7).trans (h.rest j hj h1 h2 h3 h4 h5 h6 h7)⟩
theorem bH.ofJ (h:cZ w w' x.a x.jb):bH w w' x u:=⟨h.os,h.tape,h.output,h.size,fun k hk h1 h2 h3 h4 h5 _ _=>h.rest k hk h1 h2 h3 h4 h5⟩
theorem bH.OX (h:dJ w w' x.a):bH w w' x u:=bH.ofJ (cZ.OX h)
theorem bH.bD (h:Below w.heap.size w w'):bH w w' x u:=bH.OX (dJ.bD h)
theorem bH.set (h:bH w w' x u) (i:Nat) (v:Value):bH w (w'.setCell ⟨x.vb,i,none⟩ v) x u:=
 ⟨h.os,h.tape,h.output,by have:=h.size;simpa [World.setCell] using this,fun j hj h1 h2 h3 h4 h5 h6 h7=>(Below.heap_setCell w' ⟨x.vb,i,none⟩ v j (fun e=>h6 e)).trans (h.rest j hj h1 h2 h3 h4 h5 h6 h7)⟩
theorem bH.grown (h:bH w w' x u) (hg:w'.grownBy w2 u.ownBlock):bH w w2 x u:=
 ⟨hg.os.trans h.os,hg.tape.trans h.tape,hg.output.trans h.output,fU h.size hg.size,fun j hj h1 h2 h3 h4 h5 h6 h7=>(hg.block j (rY hj h.size) (fun e=>h7 e.symm)).trans (h.rest j hj h1 h2 h3 h4 h5 h6 h7)⟩
theorem cZ.blk {a:nP} {jb:Nat} {J:qm} {v:Value} (hF:cZ w w' a jb) (hd:aO w a D) (hj:nU w jb a h J v) {k:Nat} {t:TypeId} {cs:Array Value} (hk:ak w k t cs) (h1:t=89->k≠a.d) (h2:t=139->k≠a.g) (h3:t=9->k≠a.sb) (h4:t=4->k≠a.fb) (h5:t=126->k≠jb):w'.heap[k]? =w.heap[k]? :=by
 obtain⟨_,q2⟩:=hd.JJ;obtain⟨_,q3⟩:=hd.Bl;obtain⟨_,q4⟩:=hd.JK;refine hF.rest k hk.lt ?_ ?_ ?_ ?_ ?_
 ·by_cases e:t=89
  ·exact h1 e
  ·exact hk.gY hd.blk e
 ·by_cases e:t=139
  ·exact h2 e
  ·exact hk.gY q2 e
 ·by_cases e:t=9
  ·exact h3 e
  ·exact hk.gY q3 e
 ·by_cases e:t=4
  ·exact h4 e
  ·exact hk.gY q4 e
 ·by_cases e:t=126
  ·exact h5 e
  ·exact hk.gY hj.blk e
theorem yI.keep (k:yI w p V.image x.a) (hk:∀ g T cs,ak w g T cs->(T=9\/T=104)->g≠x.a.sb->(∀ i,p= .pointer (some ⟨g,i,none⟩)->True)->(∃ i,p= .pointer (some ⟨g,i,none⟩))->w'.heap[g]? =w.heap[g]?):yI w' p V.image x.a:=by
 rcases k with k | ⟨g,i,t,T,cs,e1,e2,hb,hc,hT,hs⟩
 ·exact .inl k
 ·exact .inr ⟨g,i,t,T,cs,e1,e2,(hk g T cs hb hT hs (fun _ _=>trivial) ⟨i,e2⟩).trans hb,hc,hT,hs⟩
theorem kH.SE (k:kH w x h V D p u) (hF:cZ w w' x.a x.jb) {J':qm} (hd:aO w' x.a E) (hj:∃ v,nU w' x.jb x.a h J' v):kH w' x h { V with J:=J' } E p u:=by
 obtain⟨v,hv⟩:=k.OZ;refine⟨hd,hj,(hF.blk k.dev hv k.blk (fun e=>by cases e) (fun e=>by cases e) (fun e=>by cases e) (fun e=>by cases e) (fun e=>by cases e)).trans k.blk,?_,?_,k.acV,k.Rw,fU k.Y8 hF.size⟩
 ·refine yI.keep (V:= { V with J:=J' }) k.img (fun g T cs hb hT hs _ _=>?_);rcases hT with rfl | rfl
  ·exact hF.blk k.dev hv hb (fun e=>by cases e) (fun e=>by cases e) (fun _=>hs) (fun e=>by cases e) (fun e=>by cases e)
  ·exact hF.blk k.dev hv hb (fun e=>by cases e) (fun e=>by cases e) (fun e=>by cases e) (fun e=>by cases e) (fun e=>by cases e)
 ·exact gI k.row (fun j cs e hb=>hF.blk k.dev hv hb (fun e=>by cases e) (fun e=>by cases e) (fun _=>k.own j e) (fun e=>by cases e) (fun e=>by cases e))
theorem kH.sV (k:kH w x h V D p u) (hF:dJ w w' x.a) (hd:aO w' x.a E):kH w' x h V E p u:=by
 obtain⟨v,hv⟩:=k.OZ;exact k.SE (cZ.OX hF) hd ⟨v,hv.left k.dev hF⟩
theorem kH.below (k:kH w x h V D p u) (hB:Below w.heap.size w w'):kH w' x h V D p u:=k.sV (dJ.bD hB) (k.dev.below hB)
theorem kH.set (k:kH w x h V D p u) (i:Nat) (v:Value) {V':mJ} {p' u':Value} (hc:(#[Value.pointer (some ⟨x.a.d,0,none⟩),.pointer (some ⟨x.jb,0,none⟩),.string V.root,.string V.chain,p,u,.bool false]:Array Value).setIfInBounds i v= #[.pointer (some ⟨x.a.d,0,none⟩),.pointer (some ⟨x.jb,0,none⟩),.string V'.root,.string V'.chain,p',u',.bool false])
  (hJ:V'.J=V.J) (hi:yI w p' V'.image x.a) (hr:w.ownsRow x.lo 9 1 u' V'.texts.length (strCells V'.texts)) (hs:∀ g i,p'= .pointer (some ⟨g,i,none⟩)->g<x.lo):kH (w.setCell ⟨x.vb,i,none⟩ v) x h V' D p' u':=by
 obtain⟨vj,hv⟩:=k.OZ;have hg:=au w x.vb i v;have hb:=k.blk.aB i v;rw[hc] at hb;refine⟨eP k.dev k.blk (by decide) hg,⟨vj,by rw[hJ];exact⟨hv.blk.grown hg (fun e=>k.blk.gY hv.blk (by decide) (Option.some.inj e).symm),hv.row.kept hg (.inr (aA hv.row k.blk (by decide)))⟩⟩,hb,?_,hr.kept hg (.inr (aA hr k.blk (by decide))),k.acV,hs,by have:=k.Y8;simpa [World.setCell] using this⟩;refine yI.keep hi (fun g T cs hb2 hT hs2 _ _=>?_);refine hg.block g hb2.lt (fun e=>?_);have e2:g=x.vb:=by cases e;rfl
 rcases hT with rfl | rfl
 ·exact k.blk.gY hb2 (by decide) e2.symm
 ·exact k.blk.gY hb2 (by decide) e2.symm
theorem kH.cells (k:kH w x h V D p u):w.cell? ⟨x.vb,0,none⟩=some (.pointer (some ⟨x.a.d,0,none⟩))/\w.cell? ⟨x.vb,1,none⟩=some (.pointer (some ⟨x.jb,0,none⟩))/\w.cell? ⟨x.vb,2,none⟩=some (.string V.root)/\w.cell? ⟨x.vb,3,none⟩=some (.string V.chain)/\w.cell? ⟨x.vb,4,none⟩=some p/\w.cell? ⟨x.vb,5,none⟩=some u/\w.cell? ⟨x.vb,6,none⟩=some (.bool false):=
 ⟨k.blk.cell 0,k.blk.cell 1,k.blk.cell 2,k.blk.cell 3,k.blk.cell 4,k.blk.cell 5,k.blk.cell 6⟩
theorem kH.same (k:kH w x h V D p u):kH (w.setCell ⟨x.vb,6,none⟩ (.bool false)) x h V D p u:=k.set 6 (.bool false) rfl rfl k.img k.row k.Rw
theorem Jt (k:kH w x h V D p u) (e0:Int) (he:e0≠14):Calls Tryz.prog 87 #[.pointer (some ⟨x.vb,0,none⟩),.int .i64 e0] w fun e w'=>e= .returned (.int .i64 e0)/\w'=w.setCell ⟨x.vb,6,none⟩ (.bool false):=by
 obtain⟨c0,c1,c2,c3,c4,c5,c6⟩:=k.cells;have f6:=k.blk.frozen 6;have d:(e0==14)=false:=FI.2 he;clear k he;go_enter Tryz.func87,Tryz.ntmps87;go_wp2_with fail;go_ret;exact⟨rfl,rfl⟩
theorem Ej {cs:Array Value} (hb:ak w x.vb 79 cs) (b:Bool) (hc:cs[6]? =some (.bool b)):Calls Tryz.prog 87 #[.pointer (some ⟨x.vb,0,none⟩),.int .i64 14] w fun e w'=>e= .returned (.int .i64 14)/\w'=w.setCell ⟨x.vb,6,none⟩ (.bool true):=by
 have c6:w.cell? ⟨x.vb,6,none⟩=some (.bool b):=(hb.cell 6).trans hc;have f6:=hb.frozen 6;clear hb hc;cases b
 ·go_enter Tryz.func87,Tryz.ntmps87;go_wp2_with fail;go_ret;exact⟨rfl,rfl⟩
 ·go_enter Tryz.func87,Tryz.ntmps87;go_wp2_with fail;go_ret;exact⟨rfl,rfl⟩
theorem FC (hd:aO w x.a D) (hu:nM D) (i:Nat) (hi:i<D.slots.length) (t:ByteArray) (ht:t.size=32):
  Calls Tryz.prog 83 #[.pointer (some ⟨x.a.d,0,none⟩),.int .i64 (i:Int),.string t] w fun e w'=>e= .returned (.int .i64 (D.slot (i,t)).1)/\aO w' x.a (D.slot (i,t)).2/\dJ w w' x.a:=by
 have hc:chk (FK D.slots (i:Int)/\t.size=32)=0:=by
  unfold chk;rw[if_pos ⟨⟨by omega,by omega⟩,ht⟩]
 have h1:=TI hd hu.left (i:Int) t;rw[hc,Int.toNat_natCast] at h1;exact h1
theorem mg {D:Dev} (hd:nM D) (y:Nat×ByteArray):(D.slot y).1=0\/(D.slot y).1=14:=by
 rcases iD hd y with⟨_,e⟩ | ⟨_,e⟩<;>rw[e]
 ·exact .inr rfl
 ·exact .inl rfl
def iO (w:World) (x:uX) (h:Nat) (V:mJ) (p u:Value) (r:Int×Dev) (e:Ending) (w':World):Prop:=
 e= .returned (.int .i64 r.1)/\bH w w' x u/\aO w' x.a r.2/\(r.1=0->kH w' x h V r.2 p u)
theorem mD (k:kH w x h V D p u) (hu:nM D) (i:Nat) (hi:i<D.slots.length) (t:ByteArray) (ht:t.size=32):
  Calls Tryz.prog 51 #[.pointer (some ⟨x.vb,0,none⟩),.int .i64 (i:Int),.string t] w (iO w x h V p u (D.slot (i,t))):=by
 have HS:=zh (FC k.dev hu i hi t ht);have he:=zh (mg hu (i,t));obtain⟨c0,c1,c2,c3,c4,c5,c6⟩:=k.cells;obtain⟨r,hr⟩:∃ r,D.slot (i,t)=r:=⟨_,rfl⟩;rw[hr] at HS he ⊢;have K:=zh k;obtain⟨E,F⟩:=r;dsimp only at HS he;clear k hr hi ht hu;unfold iO;dsimp only;go_enter Tryz.func51,Tryz.ntmps51;go_wp2_with (first | (go_at_call 83;refine HS.out.mono ?_;rintro e w1 ⟨rfl,h1,h2⟩;have K1:=zh (K.out.sV h2 h1);have F1:=zh h2;clear h1 h2));rcases he.out with rfl | rfl
 ·refine(Jt K1.out 0 (by decide)).mono ?_;rintro e w2 ⟨rfl,rfl⟩;go_wp2_with fail;go_ret;exact⟨rfl,(bH.OX F1.out).set 6 _,K1.out.same.dev,K1.out.same⟩
 ·refine(Ej K1.out.blk false rfl).mono ?_;rintro e w2 ⟨rfl,rfl⟩;go_wp2_with fail;go_ret;exact⟨rfl,(bH.OX F1.out).set 6 _,eP K1.out.dev K1.out.blk (by decide) (au _ _ _ _),fun e=>by cases e⟩
theorem wO (k:kH w x h V D p u) (t:ByteArray) (n:Int):Calls Tryz.prog 48 #[.pointer (some ⟨x.vb,0,none⟩),.string t,.int .i64 n] w fun e w'=>e= .returned (.int .i64 (if n<t.size then 2 else 0))/\w=w':=by
 obtain⟨c0,c1,c2,c3,c4,c5,c6⟩:=k.cells;clear k;by_cases hn:n<t.size
 ·rw[if_pos hn];have d:decide (n<(t.size:Int))=true:=pW hn;go_enter Tryz.func48,Tryz.ntmps48;go_wp2_with fail;go_ret;exact⟨rfl,rfl⟩
 ·rw[if_neg hn];have d:decide (n<(t.size:Int))=false:=dF hn;go_enter Tryz.func48,Tryz.ntmps48;go_wp2_with fail;go_ret;exact⟨rfl,rfl⟩
theorem VF (k:kH w x h V D p u):Calls Tryz.prog 18 #[.pointer (some ⟨x.vb,0,none⟩)] w fun e w'=>e= .returned (.string V.chain)/\w=w':=by
 obtain⟨c0,c1,c2,c3,c4,c5,c6⟩:=k.cells;clear k;go_enter Tryz.func18,Tryz.ntmps18;go_wp2_with fail;go_ret;exact⟨rfl,rfl⟩
theorem ZG (k:kH w x h V D p u) (hu:V.J.used<=h) (hh:h<=1048576):Calls Tryz.prog 15 #[.pointer (some ⟨x.vb,0,none⟩)] w fun e w'=>e= .returned (.int .i64 ((h-V.J.used:Nat):Int))/\Below w.heap.size w w':=by
 obtain⟨v,hv⟩:=k.OZ;have HR:=zh (yU hv hu hh);obtain⟨c0,c1,c2,c3,c4,c5,c6⟩:=k.cells;clear k hv;go_enter Tryz.func15,Tryz.ntmps15;go_wp2_with (first | (go_at_call 47;refine HR.out.mono ?_;rintro e w1 ⟨rfl,hB⟩));go_ret;exact⟨rfl,hB⟩
theorem I4 (k:kH w x h V D p u):Calls Tryz.prog 38 #[.pointer (some ⟨x.vb,0,none⟩)] w fun e w'=>e= .returned (.tuple #[.string (V.image.getD ⟨#[]⟩),.bool V.image.isSome])/\w=w':=by
 obtain⟨c0,c1,c2,c3,c4,c5,c6⟩:=k.cells;rcases k.img with⟨e1,e2⟩ | ⟨g,i,t,T,cs,e1,e2,hb,hc,_,_⟩
 ·rw[e1];subst e2;clear k e1;go_enter Tryz.func38,Tryz.ntmps38;go_wp2_with fail;go_ret2;exact⟨rfl,rfl⟩
 ·rw[e1];subst e2;have ci:w.cell? ⟨g,i,none⟩=some (.string t):=(hb.cell i).trans hc;clear k e1 hb hc;go_enter Tryz.func38,Tryz.ntmps38;go_wp2_with fail;go_ret2;exact⟨rfl,rfl⟩
theorem CP (k:kH w x h V D p u) (hN:V.texts.length<=1048576):Calls Tryz.prog 36 #[.pointer (some ⟨x.vb,0,none⟩)] w fun e w'=>∃ v,e= .returned v/\w'.ownsRow w.heap.size 9 1 v V.texts.length (strCells V.texts)/\Below w.heap.size w w':=by
 obtain⟨c0,c1,c2,c3,c4,c5,c6⟩:=k.cells;have HC:Hid (Calls Tryz.prog 73 #[u] w fun e w'=>∃ v,e= .returned v/\w'.ownsRow w.heap.size 9 1 v V.texts.length (strCells V.texts)/\Below w.heap.size w w'):=by
  have hrow:=k.row;rcases id hrow.2 with⟨rfl,h0⟩ | ⟨g,cap,cur,rfl,_⟩
  ·refine(Tryz.slices_Clone_string_nil 0 0 w).mono ?_;rintro e w' ⟨rfl,rfl⟩;have:V.texts= []:=ZX h0;exact⟨_,rfl,by rw[this];exact Ju _ _ _ _,bK _ _⟩
  ·refine(Tryz.slices_Clone_string g 0 V.texts.length cap V.texts w (aF _) (by omega) (fun j hj=>?_)).mono ?_
   ·rw[AZ,World.ownsRow.cellAt hrow j (by omega),En,jB hj];simp[strCells,hj]
   ·rintro e w' ⟨v,rfl,h1,_,h3⟩;rw[List.take_length] at h1;exact⟨v,rfl,h1,h3⟩
 clear k;go_enter Tryz.func36,Tryz.ntmps36;go_wp2_with (first | (go_at_call 73;refine HC.out.mono ?_;rintro e w1 ⟨v,rfl,h1,h2⟩));go_ret;exact⟨v,rfl,h1,h2⟩
end
end Go.Proofs.YtpghocekofdpbaaGreatDoor
