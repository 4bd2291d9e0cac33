import Derived.Test.YtpghocekofdpbaaGreatDoorQr23
namespace Go.Proofs.YtpghocekofdpbaaGreatDoor
section
open Go.RowKit Go.Shelf
def aK (x:UInt8):Value:= .int .u8 (x.toNat:Int)
theorem wI (s:S8) (k:List UInt8) (n:Nat):dO s k n=(wQ s).toList++k.map aK++ [.int .u64 (n:Int)]:=rfl
theorem rO (s:S8) (k:List UInt8) (n:Nat) (hk:k.length=64):(dO s k n).toArray.size=73:=by
 rw[mG,rM,hk]
theorem U8 (s:S8) (k c:List UInt8) (n o:Nat) (hk:k.length=64) (ho:o+c.length<=64):
  (dO s k n).toArray.toList.take (8+o)++c.map aK++(dO s k n).toArray.toList.drop (8+o+(c.map aK).length)=dO s (k.take o++c++k.drop (o+c.length)) n:=by
 have e8:=og s;rw[wI,wI,lq,Em (wQ s).toList];have hA:(wQ s).toList.length=8:=e8;generalize (wQ s).toList=A at *;have hN:([Value.int .u64 (n:Int)]:List Value).length=1:=rfl;generalize ([Value.int .u64 (n:Int)]:List Value)=N at *;show(A++(k.map aK++N)).take (8+o)++c.map aK++(A++(k.map aK++N)).drop (8+o+c.length)=_
 rw[<-hA,Nat.add_assoc,List.take_length_add_append,List.drop_length_add_append,List.take_append_of_le_length (by rw[lq];omega),List.drop_append_of_le_length (by rw[lq];omega)];simp only[Gh,List.map_take,List.map_drop,Em]
theorem abQ {w:World} {g:Nat} {t:TypeId} {s:S8} {k:List UInt8} {n:Nat} (h:ak w g t (dO s k n).toArray) (c:List UInt8) (o:Nat) (hk:k.length=64) (ho:o+c.length<=64):
  ak (w.setRow g ((dO s k n).toArray.toList.take (8+o)++c.map aK++(dO s k n).toArray.toList.drop (8+o+(c.map aK).length)).toArray) g t (dO s (k.take o++c++k.drop (o+c.length)) n).toArray:=by
 rw[U8 s k c n o hk ho];exact setRow_heap w g _ _ t (0,0) h
theorem Q8 {w:World} {g:Nat} {t:TypeId} {s:S8} {k:List UInt8} {n:Nat} (h:ak w g t (dO s k n).toArray) (hk:k.length=64) (m:Nat):ak (w.setCell ⟨g,72,none⟩ (.int .u64 (m:Int))) g t (dO s k m).toArray:=by
 have h1:=h.aB 72 (.int .u64 (m:Int));have e:(dO s k n).toArray.setIfInBounds 72 (.int .u64 (m:Int))=(dO s k m).toArray:=by
  rw[wI,wI,List.setIfInBounds_toArray,List.set_append_right _ _ (by rw[kM,lq,og,hk];exact aF _),kM,lq,og,hk];rfl
 rw[e] at h1;exact h1
def abR (w:World) (g:Nat) (s:S8):World:=w.setCells g 0 [ah s.a,ah s.b,ah s.c,ah s.d,ah s.e,ah s.f,ah s.g,ah s.h]
theorem afK (s:S8) (l:List Value) (j:Nat) (h:¬ j<8):((wQ s).toList++l)[j]? =l[j-8]? :=by
 rw[ZP (by rw[og];omega),og]
theorem abS {w:World} {g:Nat} {t:TypeId} {s:S8} {k:List UInt8} {n:Nat} (h:ak w g t (dO s k n).toArray) (hk:k.length=64) (s':S8):ak (abR w g s') g t (dO s' k n).toArray:=by
 obtain⟨ds,h1,h2,h3,h4⟩:=vC [ah s'.a,ah s'.b,ah s'.c,ah s'.d,ah s'.e,ah s'.f,ah s'.g,ah s'.h] 0 w _ h;have e:ds=(dO s' k n).toArray:=by
  apply Array.ext_getElem?;intro j;rw[show(dO s' k n).toArray[j]? =(dO s' k n)[j]? from Ti];by_cases hj:j<8
  ·rw[h3 j (iT _) (by simp only[AY,zag];omega) (by rw[rO _ _ _ hk];omega),LZ _ _ _ j hj,<-yg s' j hj,Nat.sub_zero,show wQ s'= [ah s'.a,ah s'.b,ah s'.c,ah s'.d,ah s'.e,ah s'.f,ah s'.g,ah s'.h].toArray from rfl,Ti]
  ·rw[h4 j (.inr (by simp only[AY,zag];omega)),Ti,wI,wI,Em (wQ s).toList,Em (wQ s').toList,afK s _ j hj,afK s' _ j hj]
 rw[e] at h1;exact h1
theorem U9 {B:Nat} {w0 w:World} {g:Nat} (s:S8) (hg:B<=g) (h:Below B w0 w):Below B w0 (abR w g s):=below_setCells hg _ 0 w h
end
def dP (n:Nat):Nat:=(119-n % 64) % 64
theorem wC (n:Nat):(n+1+dP n) % 64=56:=by unfold dP;omega
theorem zV (n k:Nat) (h:k<dP n):(n+1+k) % 64≠56:=by unfold dP at h;omega
def zL (n:Nat):List UInt8:=(List.range 8).map fun i=>UInt8.ofNat (n/2^(56-8*i))
theorem uT (n:Nat):(zL n).length=8:=by unfold zL;rw[lq,List.length_range]
theorem LH (n i:Nat) (h:i<8):(zL n).take (i+1)=(zL n).take i++ [UInt8.ofNat (n/2^(56-8*i))]:=by
 rw[FD];unfold zL;rw[sD,List.getElem?_range h];rfl
theorem byte_of (n:Nat):((n:Int) % 256)=((UInt8.ofNat n).toNat:Int):=by
 rw[UInt8.toNat_ofNat'];omega
def uU (n:Nat):List UInt8:=128::(List.replicate (dP n) 0++zL (8*n % 18446744073709551616))
theorem BU (n:Nat):(uU n).length=dP n+9:=by
 unfold uU;rw[AY,kM,FT,uT]
theorem Uz (b:List UInt8):(b++uU b.length).length % 64=0:=by
 have h:=wC b.length;rw[kM,BU];omega
def ad5 (b:List UInt8):S8:=fC iv ((b++uU b.length).length/64) (b++uU b.length)
def digest (s:S8):List UInt8:=(List.range 32).map fun i=>UInt8.ofNat ((s.get (i/4)).toNat/2^(24-8*(i % 4)))
theorem rC (s:S8):(digest s).length=32:=by unfold digest;rw[lq,List.length_range]
def gU (b:List UInt8):List UInt8:=digest (ad5 b)
theorem J5 {b:List UInt8} {s:S8} {k:List UInt8} (h:jL iv (b++uU b.length) s k):s=ad5 b:=h.st
open Go.RowKit Go.Shelf
attribute [local go_sem] Oper.semAt_some
theorem abO (x y:UInt32):Af x y=Af y x:=by
 unfold Af;apply UInt32.toBitVec_inj.1;rw[UInt32.toBitVec_or,UInt32.toBitVec_or];exact BitVec.or_comm _ _
theorem aeh:∀ s:Fin 33,IntKind.i64.wrap ((s.val:Nat):Int)=((s.val:Nat):Int):=by decide+kernel
theorem LP (s:Nat) (h:s<=32):IntKind.i64.wrap (s:Int)=(s:Int):=aeh ⟨s,by omega⟩
theorem lZ (w:World) (x:UInt32) (n s:Nat) (h1:1<=n) (h2:n<=31) (hs:32-n=s):
  Calls Tryz.prog 114 #[ah x,.int .i64 n] w fun e w'=>e= .returned (ah (rotl x s))/\∃ q,w'=w.drewN q:=by
 have hr:=Ie x n (by omega);have hl:=xq x s (by omega);have hn:32-s=n:=by omega
 have hr2:(x.toNat:Int)/2^n=((wB x n).toNat:Int):=by rw[<-hr,Gm (by omega)]
 have hl2:(x.toNat:Int)*2^s % 4294967296=((gq x s).toNat:Int):=by rw[<-hl,Gm (by omega)]
 have hl3:IntKind.u32.wrap ((x.toNat:Int)*2^s)=((gq x s).toNat:Int):=by rw[<-hl2];simp[IntKind.wrap,IntKind.bits,IntKind.signed]
 have hws:IntKind.i64.wrap (s:Int)=(s:Int):=LP s (by omega);have hw':(32:Int)-(n:Int)=(s:Int):=by clear hr hl hr2 hl2 hl3 hws;omega
 have hw:wrap64 (32-(n:Int))=(s:Int):=by rw[hw'];clear hr hl hr2 hl2 hl3 hws;unfold wrap64;omega
 have n0:(0:Int)<=(n:Int):=by clear hr hl hr2 hl2 hl3 hws hw hw';omega
 have n1:¬ (n:Int)<0:=by clear hr hl hr2 hl2 hl3 hws hw hw';omega
 have s0:(0:Int)<=(s:Int):=by clear hr hl hr2 hl2 hl3 hws hw hw';omega
 have s1:¬ (s:Int)<0:=by clear hr hl hr2 hl2 hl3 hws hw hw';omega
 have ho:=Tt (wB x n) (gq x s);have hE:rotl x s=Af (wB x n) (gq x s):=by unfold rotl;rw[hn];exact abO _ _
 rw[hE];clear hE hn hs h1 h2;go_enter Tryz.func114,Tryz.ntmps114;go_wp2_with fail
 go_quiet (fail)
 go_wp2_with fail;go_ret;exact⟨rfl,_,rfl⟩
end Go.Proofs.YtpghocekofdpbaaGreatDoor
