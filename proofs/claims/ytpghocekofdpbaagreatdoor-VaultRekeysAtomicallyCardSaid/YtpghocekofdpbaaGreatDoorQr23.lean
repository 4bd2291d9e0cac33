import Derived.Test.YtpghocekofdpbaaGreatDoorQr07
import Derived.Test.YtpghocekofdpbaaGreatDoorQr02
import Derived.BigQuiet
set_option maxRecDepth 100000
set_option maxHeartbeats 1600000
namespace Go.Proofs.YtpghocekofdpbaaGreatDoor
section
open Go.RowKit Go.Shelf
attribute [local go_sem] Oper.semAt_some
def wand (x y:UInt32):UInt32:=x &&& y
def Af (x y:UInt32):UInt32:=x ||| y
def dI (x y:UInt32):UInt32:=x^^^y
def aT (x y:UInt32):UInt32:=x+y
def gq (x:UInt32) (s:Nat):UInt32:=x<<<UInt32.ofNat s
def wB (x:UInt32) (s:Nat):UInt32:=x>>>UInt32.ofNat s
def Uu (x:UInt32):UInt32:= ~~~x
abbrev ah (x:UInt32):Value:= .int .u32 (x.toNat:Int)
theorem YZ (x:UInt32):x.toNat<4294967296:=x.toNat_lt
theorem abg (x y:UInt32):bits .and .u32 (x.toNat:Int) (y.toNat:Int)=((wand x y).toNat:Int):=by
 rw[u32_and_nat _ _ (YZ x) (YZ y)];unfold wand;rw[UInt32.toNat_and]
theorem Tt (x y:UInt32):bits .or .u32 (x.toNat:Int) (y.toNat:Int)=((Af x y).toNat:Int):=by
 rw[u32_or_nat _ _ (YZ x) (YZ y)];unfold Af;rw[UInt32.toNat_or]
theorem zQ (x y:UInt32):bits .xor .u32 (x.toNat:Int) (y.toNat:Int)=((dI x y).toNat:Int):=by
 rw[u32_xor_nat _ _ (YZ x) (YZ y)];unfold dI;rw[UInt32.toNat_xor]
theorem mW (x y:UInt32):IntKind.u32.wrap ((x.toNat:Int)+(y.toNat:Int))=((aT x y).toNat:Int):=by
 unfold aT;rw[IntKind.wrap_u32',UInt32.toNat_add];omega
theorem jC (x y:UInt32):((x.toNat:Int)+(y.toNat:Int)) % 4294967296=((aT x y).toNat:Int):=by
 rw[<-mW,IntKind.wrap_u32']
theorem aei (x:UInt32) (s:Nat) (hs:s<32):(gq x s).toNat=x.toNat*2^s % 4294967296:=by
 unfold gq;rw[UInt32.toNat_shiftLeft,UInt32.toNat_ofNat',Nat.shiftLeft_eq];have e:s % 2^32 % 32=s:=by omega
 rw[e]
theorem aej (x:UInt32) (s:Nat) (hs:s<32):(wB x s).toNat=x.toNat/2^s:=by
 unfold wB;rw[UInt32.toNat_shiftRight,UInt32.toNat_ofNat',Nat.shiftRight_eq_div_pow];have e:s % 2^32 % 32=s:=by omega
 rw[e]
theorem QY (n:Nat):(((2:Nat)^n:Nat):Int)=(2:Int)^n:=by simp
theorem xq (x:UInt32) (s:Nat) (hs:s<32):(x.toNat:Int)*2^min s 32 % 4294967296=((gq x s).toNat:Int):=by
 rw[aei x s hs,Gm (by omega),<-QY,Int.natCast_emod,Int.natCast_mul];rfl
theorem Ie (x:UInt32) (s:Nat) (hs:s<32):(x.toNat:Int)/2^min s 32=((wB x s).toNat:Int):=by
 rw[aej x s hs,Gm (by omega),<-QY,Int.natCast_ediv]
def rotl (x:UInt32) (s:Nat):UInt32:=Af (gq x s) (wB x (32-s))
theorem anH (k:Int) (s:Nat) (hs:k % 32=s):bits .and .u64 (IntKind.u64.wrap k) 31=(s:Int):=by
 have hw:IntKind.u64.wrap k=k % 18446744073709551616:=by simp[IntKind.wrap,IntKind.bits,IntKind.signed]
 have h0:0<=k % 18446744073709551616:=Int.emod_nonneg _ (by decide);have h1:k % 18446744073709551616<18446744073709551616:=Int.emod_lt_of_pos _ (by decide);rw[hw,u64_and _ _ h0 h1 (by decide) (by decide)];show((((k % 18446744073709551616).toNat &&& 31:Nat)):Int)=_
 have:=Nat.and_two_pow_sub_one_eq_mod (k % 18446744073709551616).toNat 5;rw[show(31:Nat)=2^5-1 by rfl,this];omega
theorem nO (w:World) (x:UInt32) (k:Int) (s:Nat) (hs:k % 32=s) (h1:1<=s) (_h2:s<=31):
  Calls Tryz.prog 171 #[ah x,.int .i64 k] w fun e w'=>e= .returned (ah (rotl x s))/\w=w':=by
 have hq:=anH k s hs;have hl:=xq x s (by omega);have hr:=Ie x (32-s) (by omega);have hsub:IntKind.u64.wrap (32-(s:Int))=((32-s:Nat):Int):=by simp[IntKind.wrap,IntKind.bits,IntKind.signed];omega
 have ho:=Tt (gq x s) (wB x (32-s));obtain⟨t,ht⟩:∃ t,32-s=t:=⟨_,rfl⟩;unfold rotl;rw[ht] at hr hsub ho ⊢;clear hs h1 _h2 ht;go_enter Tryz.func171,Tryz.ntmps171;go_wp2_with fail;go_ret;exact⟨rfl,rfl⟩
attribute [local go_sem] zQ
theorem Xt (w:World) (x:UInt32) (i j k:Nat) (hi:1<=i/\i<=31) (hj:1<=j/\j<=31) (hk:1<=k/\k<=31):
  Calls Tryz.prog 150 #[ah x,.int .i64 i,.int .i64 j,.int .i64 k] w fun e w'=>e= .returned (ah (dI (dI (rotl x (32-i)) (rotl x (32-j))) (rotl x (32-k))))/\w=w':=by
 have Hi:=zh (nO w x (-(i:Int)) (32-i) (by omega) (by omega) (by omega));have Hj:=zh (nO w x (-(j:Int)) (32-j) (by omega) (by omega) (by omega));have Hk:=zh (nO w x (-(k:Int)) (32-k) (by omega) (by omega) (by omega));have wi:wrap64 (-(i:Int))= -(i:Int):=by unfold wrap64;omega
 have wj:wrap64 (-(j:Int))= -(j:Int):=by unfold wrap64;omega
 have wk:wrap64 (-(k:Int))= -(k:Int):=by unfold wrap64;omega
 clear hi hj hk;go_enter Tryz.func150,Tryz.ntmps150;go_wp2_with fail;refine Hi.out.mono ?_;rintro e w' ⟨rfl,rfl⟩;go_wp2_with fail;refine Hj.out.mono ?_;rintro e w' ⟨rfl,rfl⟩;go_wp2_with fail;refine Hk.out.mono ?_;rintro e w' ⟨rfl,rfl⟩;go_wp2_with fail;go_ret;exact⟨rfl,rfl⟩
end
def w8 (x:UInt8):UInt32:=UInt32.ofNat x.toNat
theorem ag7 (x:UInt8):(w8 x).toNat=x.toNat:=by
 unfold w8;rw[UInt32.toNat_ofNat'];have:=x.toNat_lt;omega
def BN (l:List UInt8):UInt32:=l.foldl (fun a x=>Af (gq a 8) (w8 x)) 0
def sg0 (x:UInt32):UInt32:=dI (dI (rotl x 25) (rotl x 14)) (wB x 3)
def sg1 (x:UInt32):UInt32:=dI (dI (rotl x 15) (rotl x 13)) (wB x 10)
def sched (b:List UInt8):Nat->List UInt32
 | 0=> []
 | t+1=>sched b t++ [if t<16 then BN ((b.drop (4*t)).take 4) else aT (aT (aT ((sched b t).getD (t-16) 0) (sg0 ((sched b t).getD (t-15) 0))) ((sched b t).getD (t-7) 0)) (sg1 ((sched b t).getD (t-2) 0))]
theorem qM (b:List UInt8):∀ t,(sched b t).length=t
 | 0=>rfl
 | t+1=>by
  unfold sched;rw[kM,qM b t];rfl
theorem oO (b:List UInt8) (t:Nat):∀ u j,j<t->t<=u->(sched b u).getD j 0=(sched b t).getD j 0
 | 0,j,h,h2=>by omega
 | u+1,j,h,h2=>by
  by_cases e:t=u+1
  ·rw[e]
  ·rw[<-oO b t u j h (by omega)];show(sched b u++_).getD j 0=_
   rw[En,En,List.getElem?_append_left (by rw[qM];omega),En]
def sw (b:List UInt8) (t:Nat):UInt32:=(sched b 64).getD t 0
theorem abj (b:List UInt8) (t:Nat) (h:t<16):sw b t=BN ((b.drop (4*t)).take 4):=by
 unfold sw;rw[oO b (t+1) 64 t (by omega) (by omega)];show(sched b t++ [_]).getD t 0=_
 rw[En,ZP (by rw[qM];omega),qM,Nat.sub_self,if_pos h];rfl
theorem Xi (b:List UInt8) (t:Nat) (h:16<=t) (h2:t<64):sw b t=aT (aT (aT (sw b (t-16)) (sg0 (sw b (t-15)))) (sw b (t-7))) (sg1 (sw b (t-2))):=by
 unfold sw;rw[oO b (t+1) 64 t (by omega) (by omega),oO b t 64 (t-16) (by omega) (by omega),oO b t 64 (t-15) (by omega) (by omega),oO b t 64 (t-7) (by omega) (by omega),oO b t 64 (t-2) (by omega) (by omega)];show(sched b t++ [_]).getD t 0=_
 rw[En,ZP (by rw[qM];omega),qM,Nat.sub_self,if_neg (by omega)];rfl
def fF (b:List UInt8):List Value:=(List.range 64).map fun j=>ah (sw b j)
theorem rG (b:List UInt8):(fF b).length=64:=by simp[fF]
theorem DY (b:List UInt8) (j:Nat) (h:j<64):(fF b)[j]? =some (ah (sw b j)):=by
 unfold fF;rw[sD,List.getElem?_range h];rfl
def abM:List UInt32:= [1116352408,1899447441,3049323471,3921009573,961987163,1508970993,2453635748,2870763221,3624381080,310598401,607225278,1426881987,1925078388,2162078206,2614888103,3248222580,3835390401,4022224774,264347078,604807628,770255983,1249150122,1555081692,1996064986,2554220882,2821834349,2952996808,3210313671,3336571891,3584528711,113926993,338241895,666307205,773529912,1294757372,1396182291,1695183700,1986661051,2177026350,2456956037,2730485921,2820302411,3259730800,3345764771,3516065817,3600352804,4094571909,275423344,430227734,506948616,659060556,883997877,958139571,1322822218,1537002063,1747873779,1955562222,2024104815,2227730452,2361852424,2428436474,2756734187,3204031479,3329325298]
theorem II:abM.length=64:=by decide
def kAt (t:Nat):UInt32:=abM.getD t 0
def kV:List Value:=abM.map ah
theorem abN:kV.length=64:=by unfold kV;rw[lq,II]
theorem afC (t:Nat) (h:t<64):kV[t]? =some (ah (kAt t)):=by
 unfold kV kAt;rw[sD,En,jB (by rw[II];exact h)];rfl
structure S8 where
 a:UInt32
 b:UInt32
 c:UInt32
 d:UInt32
 e:UInt32
 f:UInt32
 g:UInt32
 h:UInt32
def rx (s:S8) (k w:UInt32):UInt32:=aT (aT (aT (aT s.h (dI (dI (rotl s.e 26) (rotl s.e 21)) (rotl s.e 7))) (dI (wand s.e s.f) (wand (Uu s.e) s.g))) k) w
def ry (s:S8):UInt32:=aT (dI (dI (rotl s.a 30) (rotl s.a 19)) (rotl s.a 10)) (dI (dI (wand s.a s.b) (wand s.a s.c)) (wand s.b s.c))
def Ic (s:S8) (k w:UInt32):S8:=⟨aT (rx s k w) (ry s),s.a,s.b,s.c,aT s.d (rx s k w),s.e,s.f,s.g⟩
def iH (s:S8) (b:List UInt8):Nat->S8
 | 0=>s
 | t+1=>Ic (iH s b t) (kAt t) (sw b t)
def Qy (s v:S8):S8:=⟨aT s.a v.a,aT s.b v.b,aT s.c v.c,aT s.d v.d,aT s.e v.e,aT s.f v.f,aT s.g v.g,aT s.h v.h⟩
def rH (s:S8) (b:List UInt8):S8:=Qy s (iH s b 64)
def wQ (s:S8):Array Value:= #[ah s.a,ah s.b,ah s.c,ah s.d,ah s.e,ah s.f,ah s.g,ah s.h]
def fC (s:S8):Nat->List UInt8->S8
 | 0,_=>s
 | k+1,b=>fC (rH s (b.take 64)) k (b.drop 64)
theorem N8 (k:Nat):∀ (j:Nat) (s:S8) (b:List UInt8),fC s (j+k) b=fC (fC s j b) k (b.drop (64*j)):=by
 intro j
 induction j with
 | zero=>intro s b;rw[AZ,Nat.mul_zero,List.drop_zero];rfl
 | succ j ih=>
  intro s b;rw[Nat.succ_add];show fC (rH s (b.take 64)) (j+k) (b.drop 64)=fC (fC (rH s (b.take 64)) j (b.drop 64)) k (b.drop (64*(j+1)))
  rw[ih,List.drop_drop,show 64*(j+1)=64+64*j by omega]
theorem ER (s:S8) (j:Nat) (b:List UInt8):fC s (j+1) b=rH (fC s j b) ((b.drop (64*j)).take 64):=by
 rw[N8 1 j s b];rfl
theorem Cj (c:List UInt8):∀ (k:Nat) (s:S8) (b:List UInt8),64*k<=b.length->fC s k (b++c)=fC s k b:=by
 intro k
 induction k with
 | zero=>intro s b _;rfl
 | succ k ih=>
  intro s b h;show fC (rH s ((b++c).take 64)) k ((b++c).drop 64)=fC (rH s (b.take 64)) k (b.drop 64)
  rw[List.take_append_of_le_length (by omega),List.drop_append_of_le_length (by omega),ih _ _ (by rw[rX];omega)]
def D8 (b:List UInt8):List UInt8:=b.drop (64*(b.length/64))
theorem U0 (b:List UInt8):(D8 b).length=b.length % 64:=by
 unfold D8;rw[rX];omega
structure jL (iv:S8) (m:List UInt8) (s:S8) (k:List UInt8):Prop where
 st:s=fC iv (m.length/64) m
 len:k.length=64
 pre:k.take (m.length % 64)=D8 m
theorem xX (iv:S8) (k:List UInt8) (h:k.length=64):jL iv [] iv k:=⟨rfl,h,rfl⟩
theorem YX (m t:List UInt8):(m++t).drop (64*(m.length/64))=D8 m++t:=by
 unfold D8;rw[List.drop_append_of_le_length (by omega)]
theorem U3 {iv:S8} {m:List UInt8} {s:S8} {k t:List UInt8} (h:jL iv m s k) (ht:m.length % 64+t.length<64):
  jL iv (m++t) s (k.take (m.length % 64)++t++k.drop (m.length % 64+t.length)):=by
 have hk:=h.len;have e1:(m++t).length/64=m.length/64:=by rw[kM];omega
 have e2:(m++t).length % 64=m.length % 64+t.length:=by rw[kM];omega
 have e3:(k.take (m.length % 64)++t).length=m.length % 64+t.length:=by rw[kM,ou];omega
 refine⟨?_,?_,?_⟩
 ·rw[e1,Cj t _ _ _ (by omega)];exact h.st
 ·rw[kM,e3,rX];omega
 ·rw[e2,<-e3,List.take_left',h.pre]
  ·unfold D8;rw[e1,List.drop_append_of_le_length (by omega)]
  ·rfl
theorem U4 {iv:S8} {m:List UInt8} {s:S8} {k t:List UInt8} (h:jL iv m s k) (ht:m.length % 64+t.length=64):
  jL iv (m++t) (rH s (k.take (m.length % 64)++t)) (k.take (m.length % 64)++t):=by
 have hk:=h.len;have e1:(m++t).length/64=m.length/64+1:=by rw[kM];omega
 have e2:(m++t).length % 64=0:=by rw[kM];omega
 have e3:(k.take (m.length % 64)++t).length=64:=by rw[kM,ou];omega
 refine⟨?_,e3,?_⟩
 ·rw[e1,ER,Cj t _ _ _ (by omega),YX,<-h.pre,uo (Nat.le_of_eq e3),<-h.st]
 ·rw[e2,List.take_zero]
  symm
  apply ZX;rw[U0,e2]
section
open Go.RowKit Go.Shelf
attribute [local go_sem] Oper.semAt_some zQ Tt
def ig (w:World) (m:Nat) (b:List UInt8) (t:Nat) (a:UInt32):Prop:=∃ cs:Array Value,ak w m 166 cs/\cs.size=64/\∀ j,j<64->cs[j]? =some (ah (if j<t then sw b j else if j=t then a else 0))
theorem fB {w:World} {m:Nat} {b:List UInt8} {t:Nat} {a:UInt32} (h:ig w m b t a) (j:Nat) (hj:j<64):w.cell? ⟨m,j,none⟩=some (ah (if j<t then sw b j else if j=t then a else 0))/\w.frozen? ⟨m,j,none⟩=false:=by
 obtain⟨cs,h1,h2,h3⟩:=h;exact⟨by rw[h1.cell j];exact h3 j hj,h1.frozen j⟩
theorem sN {w:World} {m:Nat} {b:List UInt8} {t:Nat} {a c:UInt32} (h:ig w m b t a) (ht:t<64):ig (w.setCell ⟨m,t,none⟩ (ah c)) m b t c:=by
 obtain⟨cs,h1,h2,h3⟩:=h;refine⟨_,h1.aB t _,by simp[h2],fun j hj=>?_⟩;rw[Array.getElem?_setIfInBounds];by_cases e:t=j
 ·subst e;rw[if_pos rfl,if_pos (by omega),if_neg (by omega),if_pos rfl]
 ·rw[if_neg e,h3 j hj];by_cases e2:j<t
  ·rw[if_pos e2,if_pos e2]
  ·rw[if_neg e2,if_neg e2,if_neg (fun h=>e h.symm),if_neg (fun h=>e h.symm)]
theorem qB {w:World} {m:Nat} {b:List UInt8} {t:Nat} (h:ig w m b t (sw b t)):ig w m b (t+1) 0:=by
 obtain⟨cs,h1,h2,h3⟩:=h;refine⟨cs,h1,h2,fun j hj=>?_⟩;rw[h3 j hj];by_cases e:j<t
 ·rw[if_pos e,if_pos (by omega)]
 ·by_cases e2:j=t
  ·rw[if_neg e,if_pos e2,if_pos (by omega),e2]
  ·rw[if_neg e,if_neg e2,if_neg (by omega)];split<;>rfl
theorem Hq {w:World} {m:Nat} {b:List UInt8} (h:ig w m b 64 0):w.rangeAt m 0 (fF b):=by
 obtain⟨cs,h1,h2,h3⟩:=h;intro j v hv;have hj:j<64:=by have:=(List.getElem?_eq_some_iff.1 hv).1;rw[rG] at this;exact this
 rw[DY b j hj] at hv;cases hv;rw[AZ,h1.cell j,h3 j hj,if_pos hj]
theorem bC (w:World) (g k:Nat) (v:Value):w.grownBy (w.setCell ⟨g,k,none⟩ v) (some g):=
 ⟨rfl,rfl,rfl,by simp[World.setCell],fun j _ hne=>Below.heap_setCell w ⟨g,k,none⟩ v j (fun e=>hne (by rw[e]))⟩
def BytesAt (w:World) (bb bo:Nat) (b:List UInt8):Prop:=bb<w.heap.size/\∀ i x,b[i]? =some x->w.cell? ⟨bb,bo+i,none⟩=some (.int .u8 (x.toNat:Int))
theorem BytesAt.below {w w':World} {bb bo:Nat} {b:List UInt8} (h:BytesAt w bb bo b) (hB:Below w.heap.size w w'):BytesAt w' bb bo b:=
 ⟨rY h.1 hB.size,fun i x hx=>(hB.cell (p:=⟨bb,bo+i,none⟩) h.1).trans (h.2 i x hx)⟩
theorem gZ (x:UInt8):IntKind.u32.wrap (x.toNat:Int)=((w8 x).toNat:Int):=by
 rw[ag7,IntKind.wrap_u32'];have:=x.toNat_lt;omega
theorem gy (x:UInt8):(x.toNat:Int) % 4294967296=((w8 x).toNat:Int):=by rw[<-gZ,IntKind.wrap_u32']
theorem af4 (a:UInt32):(a.toNat:Int)*256 % 4294967296=((gq a 8).toNat:Int):=xq a 8 (by decide)
theorem Qw (a:UInt32):(a.toNat:Int)/8=((wB a 3).toNat:Int):=Ie a 3 (by decide)
theorem LG (a:UInt32):(a.toNat:Int)/1024=((wB a 10).toNat:Int):=Ie a 10 (by decide)
def z64:Array Value:=Array.replicate 64 (.int .u32 0)
theorem abh (j:Nat) (hj:j<64):z64[j]? =some (.int .u32 0):=by
 unfold z64;rw[Array.getElem?_replicate,if_pos hj]
theorem agO (g o c n u m:Nat) (hu:u<m) (hm:m<=n) (hc:n<=c) (w:World):(Instr.slice 66 (.slice (some ⟨g,o,none⟩) n c) (some (.int .i64 (u:Int))) (some (.int .i64 (m:Int))) none).run Tryz.prog w= .ok (.slice (some ⟨g,o+u,none⟩) (m-u) (c-u)) w:=by
 have e3:u<=m:=by omega
 have e4:¬ c=u:=by omega
 have e6:m<=c:=by omega
 simp[go_sem,e3,e4,e6]
theorem qA {B:Nat} {a w:World} (h:Below B a w) (n:Nat):Below B a (w.drewN n):=⟨h.os,h.tape,h.output,h.size,h.block⟩
theorem BO (x:UInt32):(ah x).oneCell'=true:=rfl
theorem qC:(Tryz.prog.info? 166).map (·.size)=some 64:=by kernel_rfl
theorem U5 {b:List UInt8} (hl:b.length=64) (t:Nat) (ht:t<16) (k:Nat) (hk:k<4):∃ x,b[4*t+k]? =some x/\((b.drop (4*t)).take (k+1))=((b.drop (4*t)).take k)++ [x]:=by
 have h1:4*t+k<b.length:=by omega
 refine⟨b[4*t+k],jB h1,?_⟩;rw[FD,Nc,jB h1];rfl
theorem Y0 (w:World) (bb bo c:Nat) (b:List UInt8) (hl:b.length=64) (hc:64<=c) (hb:BytesAt w bb bo b):
  Calls Tryz.prog 149 #[.slice (some ⟨bb,bo,none⟩) 64 c] w fun e w'=>e= .returned (.agg (fF b).toArray)/\Below w.heap.size w w':=by
 have hs1:(w.alloc (.cells z64 166)).heap.size=w.heap.size+1:=by simp
 have bk:=ak.new (w.alloc (.cells z64 166)) 166 z64;rw[hs1] at bk;have HR:Hid (ak ((w.alloc (.cells z64 166)).alloc (.cells z64 166)) w.heap.size 166 z64):=(ak.new w 166 z64).alloc _;have HB:Hid (Below w.heap.size w ((w.alloc (.cells z64 166)).alloc (.cells z64 166))):=by
  have b1:=(bK _ w).alloc (aF _) (.cells z64 166);exact b1.alloc b1.size _
 have HS:Hid (ig ((w.alloc (.cells z64 166)).alloc (.cells z64 166)) (w.heap.size+1) b 0 0):=⟨_,bk,by rfl,fun j hj=>by rw[abh j hj,if_neg (by omega)];split<;>rfl⟩;clear bk;go_enter Tryz.func149,Tryz.ntmps149;go_wp2_with fail;have Hb:=zh hb;clear hb hs1;go_loopw [11] (fun i wr=>∃ t:Nat,t<=64/\i= .int .i64 t/\Hid (ig wr (w.heap.size+1) b t 0)/\Hid (∃ cs,ak wr w.heap.size 166 cs/\cs.size=64)/\Hid (Below w.heap.size w wr)) (fun i _=>64-(intOf i).toNat)
 case atStart=>exact⟨0,iT _,rfl,HS,⟨_,HR.out,by rfl⟩,HB⟩
 case round=>
  obtain⟨t,ht,rfl,hS,hR,hB⟩:=hrel;have hB2:=hB;by_cases h64:t<64
  ·have d64:decide (t<64)=true:=pW h64;have abk:decide ((t:Int)<64)=true:=pW (by omega);by_cases h16:t<16
   ·have d16:decide (t<16)=true:=pW h16;have anI:decide ((t:Int)<16)=true:=pW (by omega);have e1:0<=4*(t:Int)+4/\4*(t:Int)+4<=(c:Int):=by omega
    have e2:¬ c=4*t:=by omega
    have H16:=zh h16;clear h16;go_wp2_with fail;clear e1 e2;go_loopw [24] (fun i wx=>∃ k:Nat,k<=4/\i= .int .i64 k/\Hid (ig wx (w.heap.size+1) b t (BN (((b.drop (4*t)).take 4).take k)))/\Hid (∃ cs,ak wx w.heap.size 166 cs/\cs.size=64)/\Hid (Below w.heap.size w wx)) (fun i _=>4-(intOf i).toNat)
    case atStart=>exact⟨0,iT _,rfl,hS,hR,hB⟩
    case round=>
     clear hS hR hB hB2;obtain⟨k,hk,rfl,hS,hR,hB⟩:=hrel;by_cases hk4:k<4
     ·have dk:decide ((k:Int)<4)=true:=pW (by omega);obtain⟨x,hx,hx2⟩:=U5 hl t H16.out k hk4;have hx3:Hid (BN (((b.drop (4*t)).take 4).take (k+1))=Af (gq (BN (((b.drop (4*t)).take 4).take k)) 8) (w8 x)):=by
       unfold Hid;rw[List.take_take,List.take_take,Gm (by omega),Gm (by omega),hx2];unfold BN;rw[List.foldl_append];rfl
      have c1:wr.cell? ⟨bb,bo+4*t+k,none⟩=some (.int .u8 (x.toNat:Int)):=by
       have:=(Hb.out.below hB.out).2 _ x hx;rw[<-Nat.add_assoc] at this;exact this
      obtain⟨a,ha⟩:∃ a,BN (((b.drop (4*t)).take 4).take k)=a:=⟨_,rfl⟩;rw[ha] at hS hx3;obtain⟨c2,f2⟩:=fB hS.out t (by omega);rw[if_neg (Nat.lt_irrefl t),if_pos rfl] at c2;have s8:=af4 a;have b8:=gZ x;have b8':=gy x;have hor:=Tt (gq a 8) (w8 x);have Yz:=zh (sN (c:=Af (gq a 8) (w8 x)) hS.out h64);have xZ:Hid (∃ cs,ak (wr.setCell ⟨w.heap.size+1,t,none⟩ (ah (Af (gq a 8) (w8 x)))) w.heap.size 166 cs/\cs.size=64):=by
       obtain⟨cs,h1,h2⟩:=hR.out;exact⟨cs,h1.grown (bC wr (w.heap.size+1) t _) (by simp),h2⟩
      have hBn:Hid (Below w.heap.size w (wr.setCell ⟨w.heap.size+1,t,none⟩ (ah (Af (gq a 8) (w8 x))))):=hB.out.setCell (p:=⟨w.heap.size+1,t,none⟩) (by show _<=w.heap.size+1;omega) _;have apx:Hid (4-(k+1)<4-k):=by unfold Hid;omega
      clear hx hx2 hS hR hB ha;have arf:¬ 4<=(k:Int):=by omega
      go_wp2_with fail;go_roundw
      case rel=>exact⟨k+1,by omega,by go_num,by unfold Hid;rw[hx3.out];exact Yz.out,xZ,hBn⟩
      case measure=>simp[intOf];omega
     ·obtain rfl:k=4:=by omega
      have dk:decide (((4:Nat):Int)<4)=false:=by decide
      have Yz:Hid (ig wr (w.heap.size+1) b (t+1) 0):=by
       refine qB ?_;have e:=hS.out;rw[List.take_take,Nat.min_self,<-abj b t H16.out] at e;exact e
      clear hS;go_wp2_with fail;go_roundw
      case rel=>exact⟨t+1,by omega,by go_num,Yz,hR,hB⟩
      case measure=>simp[intOf];omega
   ·have d16:decide (t<16)=false:=dF h16;have anI:decide ((t:Int)<16)=false:=dF (by omega);obtain⟨p,hp⟩:∃ p,p+16=t:=⟨t-16,by omega⟩;have r15:(t:Int)-15=((p+1:Nat):Int):=by omega
    have r2:(t:Int)-2=((p+14:Nat):Int):=by omega
    have r16:(t:Int)-16=(p:Int):=by omega
    have r7:(t:Int)-7=((p+9:Nat):Int):=by omega
    have ZT:=(fB hS.out (p+1) (by omega)).1;have y2:=(fB hS.out (p+14) (by omega)).1;have y16:=(fB hS.out p (by omega)).1;have y7:=(fB hS.out (p+9) (by omega)).1;obtain⟨yt,ft⟩:=fB hS.out t (by omega);rw[if_pos (by omega)] at ZT y2 y16 y7;rw[if_neg (Nat.lt_irrefl t),if_pos rfl] at yt;have hsw:=zh (Xi b t (by omega) h64);rw[show t-16=p by omega,show t-15=p+1 by omega,show t-7=p+9 by omega,show t-2=p+14 by omega] at hsw;generalize sw b (p+1)=x15 at ZT hsw;generalize sw b (p+14)=x2 at y2 hsw;generalize sw b p=x16 at y16 hsw;generalize sw b (p+9)=x7 at y7 hsw;obtain⟨p15,abm⟩:∃ q,p+1=q:=⟨_,rfl⟩;obtain⟨p2,hp2⟩:∃ q,p+14=q:=⟨_,rfl⟩;obtain⟨p7,hp7⟩:∃ q,p+9=q:=⟨_,rfl⟩;rw[abm] at r15 ZT;rw[hp2] at r2 y2;rw[hp7] at r7 y7;have b15:¬ 64<=(p15:Int):=by omega
    have b2:¬ 64<=(p2:Int):=by omega
    have b16:¬ 64<=(p:Int):=by omega
    have b7:¬ 64<=(p7:Int):=by omega
    have n15:p15<64:=by omega
    have n2:p2<64:=by omega
    have n16:p<64:=by omega
    have n7:p7<64:=by omega
    clear hp abm hp2 hp7 h16;have bt:¬ 64<=(t:Int):=by omega
    go_wp2_with (go_quiet (fail));have Kt:(wr.drewN nq).cell? ⟨w.heap.size+1,p,none⟩=some (ah x16):=y16;have z7:(wr.drewN nq).cell? ⟨w.heap.size+1,p7,none⟩=some (ah x7):=y7;have zt:(wr.drewN nq).cell? ⟨w.heap.size+1,t,none⟩=some (ah 0):=yt;have zf:(wr.drewN nq).frozen? ⟨w.heap.size+1,t,none⟩=false:=ft;have hS2:Hid (ig (wr.drewN nq) (w.heap.size+1) b t 0):=hS.out;have hR2:Hid (∃ cs,ak (wr.drewN nq) w.heap.size 166 cs/\cs.size=64):=hR.out;have hB3:Hid (Below w.heap.size w (wr.drewN nq)):=qA hB.out nq;clear ZT y2 y16 y7 yt ft hS hR hB hB2;generalize wr.drewN nq=wq at *;refine(nO wq x15 (-7) 25 (by decide) (by decide) (by decide)).mono ?_;rintro e w' ⟨rfl,rfl⟩;go_wp2_with fail;refine(nO wq x15 (-18) 14 (by decide) (by decide) (by decide)).mono ?_;rintro e w' ⟨rfl,rfl⟩;have s3:=Qw x15;go_wp2_with fail;refine(nO wq x2 (-17) 15 (by decide) (by decide) (by decide)).mono ?_;rintro e w' ⟨rfl,rfl⟩;clear s3;go_wp2_with fail;refine(nO wq x2 (-19) 13 (by decide) (by decide) (by decide)).mono ?_;rintro e w' ⟨rfl,rfl⟩;have s10:=LG x2;go_wp2_with fail;clear s10;have q1:dI (dI (rotl x15 25) (rotl x15 14)) (wB x15 3)=sg0 x15:=rfl;have q2:dI (dI (rotl x2 15) (rotl x2 13)) (wB x2 10)=sg1 x2:=rfl;rw[q1,q2];clear q1 q2;generalize sg0 x15=g0 at *;generalize sg1 x2=g1 at *;have a1:=mW x16 g0;have a2:=mW (aT x16 g0) x7;have a3:=mW (aT (aT x16 g0) x7) g1;have a1':=jC x16 g0;have a2':=jC (aT x16 g0) x7;have a3':=jC (aT (aT x16 g0) x7) g1
    go_region
    clear a1 a2 a3 a1' a2' a3' Kt z7 zt zf;have Yz:Hid (ig (wq.setCell ⟨w.heap.size+1,t,none⟩ (ah (aT (aT (aT x16 g0) x7) g1))).drew (w.heap.size+1) b (t+1) 0):=by
     have e:=sN (c:=aT (aT (aT x16 g0) x7) g1) hS2.out h64;rw[<-hsw.out] at e ⊢;exact qB e
    have xZ:Hid (∃ cs,ak (wq.setCell ⟨w.heap.size+1,t,none⟩ (ah (aT (aT (aT x16 g0) x7) g1))).drew w.heap.size 166 cs/\cs.size=64):=by
     obtain⟨cs,h1,h2⟩:=hR2.out;exact⟨cs,(h1.grown (bC wq (w.heap.size+1) t _) (by simp)).drew,h2⟩
    have hBn:Hid (Below w.heap.size w (wq.setCell ⟨w.heap.size+1,t,none⟩ (ah (aT (aT (aT x16 g0) x7) g1))).drew):=(hB3.out.setCell (p:=⟨w.heap.size+1,t,none⟩) (by show _<=w.heap.size+1;omega) _).drew;go_wp2_with fail;go_roundw
    case rel=>exact⟨t+1,by omega,by go_num,Yz,xZ,hBn⟩
    case measure=>simp[intOf];omega
  ·obtain rfl:t=64:=by omega
   have d64:decide (((64:Nat):Int)<64)=false:=by decide
   have hld:=zh (Hq hS.out);obtain⟨cs,hb1,hb2⟩:=hR.out;have hb3:=zh hb1;have hb4:=zh hb2;have yc:=zh (rG b);clear hR hS hb1 hb2;go_wp2_with (first | (refine wpList_load_mid rfl 166 _ rfl (w.heap.size+1) 0 rfl (fF b) _ hld.out Tryz.underlying166 rfl (by rw[yc.out];exact qC) ?_) | (refine wpList_store_mid rfl 166 _ _ rfl w.heap.size 0 (fF b).toArray rfl rfl (aU hb3.out (by rw[hb4.out,mG,yc.out];omega)) (by rw[mG,yc.out];exact qC) (su _ _ (fun a=>BO _)) ?_));exact bU (bF (P:=Tryz.prog) rfl _ _ w.heap.size 166 (fF b).toArray _ rfl (aW hb3.out (fF b) (by rw[yc.out,hb4.out])) Tryz.underlying166 rfl (by rw[mG,yc.out];exact qC)) rfl ⟨rfl,below_setCells (aF _) _ _ _ hB.out⟩
end
section
open Go.RowKit Go.Shelf
theorem Qv (x:UInt32):dI 4294967295 x=Uu x:=by
 unfold dI Uu;apply UInt32.toBitVec_inj.1;rw[UInt32.toBitVec_xor,UInt32.toBitVec_not];show 4294967295#32^^^x.toBitVec=_
 rw[show 4294967295#32=BitVec.allOnes 32 by decide];exact BitVec.allOnes_xor
theorem akz (x:UInt32):bits .xor .u32 IntKind.u32.max (x.toNat:Int)=((Uu x).toNat:Int):=by
 have h:=zQ 4294967295 x;rw[Qv] at h;exact h
attribute [local go_sem] Oper.semAt_some zQ abg mW jC akz
theorem akA (g o c:Nat) (wx:World) (_hc:4<=c):(Instr.arrayAt 207 (.slice (some ⟨g,o,none⟩) 4 c)).run Tryz.prog wx= .ok (.pointer (some ⟨g,o,none⟩)) wx:=by
 unfold Instr.arrayAt;simp[run_underlying Tryz.underlying207,go_sem]
theorem qN (W:World) (t:TypeId) (A B:Array Value):ak ((W.alloc (.cells A t)).alloc (.cells B t)).drew W.heap.size t A/\ak ((W.alloc (.cells A t)).alloc (.cells B t)).drew (W.heap.size+1) t B/\Below W.heap.size W ((W.alloc (.cells A t)).alloc (.cells B t)).drew:=by
 have h1:=ak.new (W.alloc (.cells A t)) t B;rw[oz] at h1;have b1:=(bK _ W).alloc (aF _) (.cells A t);exact⟨((ak.new W t A).alloc _).drew,h1.drew,(b1.alloc b1.size _).drew⟩
theorem mix1 (w:World) (x:UInt32):Calls Tryz.prog 150 #[ah x,.int .i64 6,.int .i64 11,.int .i64 25] w fun e w'=>e= .returned (ah (dI (dI (rotl x 26) (rotl x 21)) (rotl x 7)))/\w=w':=Xt w x 6 11 25 (by decide) (by decide) (by decide)
theorem mix2 (w:World) (x:UInt32):Calls Tryz.prog 150 #[ah x,.int .i64 2,.int .i64 13,.int .i64 22] w fun e w'=>e= .returned (ah (dI (dI (rotl x 30) (rotl x 19)) (rotl x 10)))/\w=w':=Xt w x 2 13 22 (by decide) (by decide) (by decide)
theorem V3:(Tryz.prog.info? 112).map (fun i=>(i.zero,i.size,i.bytes))=some (some (.int .u32 0),1,4):=by kernel_rfl
theorem ael (w:World) (t:Nat) (h:t<64):(Instr.index 166 (.agg kV.toArray) (.int .i64 t)).run Tryz.prog w= .ok (ah (kAt t)) w:=by
 obtain⟨i0,hi,hz0,hz1,hz2⟩:=info_parts V3;have e:=afC t h;have hs:(0:Int)<=(t:Int)/\(t:Int)<((64:Nat):Int):=⟨by omega,by omega⟩;unfold Instr.index;simp[run_underlying Tryz.underlying166,go_sem,sizeOf,typeInfo,hi,hz1,h,part,e]
theorem abp:(Tryz.prog.info? 113).map (·.size)=some 8:=by kernel_rfl
structure uf (w wr:World) (sb rb wb vb eb:Nat) (s:S8) (b:List UInt8) (st:S8):Prop where
 fs:ak wr sb 113 (wQ s)
 fr:∃ cs,ak wr rb 113 cs/\cs.size=8
 fw:ak wr wb 166 (fF b).toArray
 fv:ak wr vb 207 #[ah st.a,ah st.b,ah st.c,ah st.d]
 fe:ak wr eb 207 #[ah st.e,ah st.f,ah st.g,ah st.h]
 bel:Below w.heap.size w wr
theorem uf.drew {w wr:World} {sb rb wb vb eb:Nat} {s:S8} {b:List UInt8} {st:S8} (h:uf w wr sb rb wb vb eb s b st):uf w wr.drew sb rb wb vb eb s b st:=
 ⟨h.fs.drew,by obtain⟨cs,h1,h2⟩:=h.fr;exact⟨cs,h1.drew,h2⟩,h.fw.drew,h.fv.drew,h.fe.drew,h.bel.drew⟩
section
variable {g:Nat} {t:TypeId} {x0 x1 x2 x3:Value} (w:World) (y0 y1 y2 y3:Value)
def QZ (w:World) (g:Nat) (y0 y1 y2 y3:Value):World:=(((w.setCell ⟨g,0,none⟩ y0).setCell ⟨g,1,none⟩ y1).setCell ⟨g,2,none⟩ y2).setCell ⟨g,3,none⟩ y3
theorem Q5 {w:World} (h:ak w g t #[x0,x1,x2,x3]):ak (QZ w g y0 y1 y2 y3) g t #[y0,y1,y2,y3]:=(((h.aB 0 y0).aB 1 y1).aB 2 y2).aB 3 y3
theorem aZ {a b c:World} {row:Option Nat} (h:a.grownBy b row) (k:b.grownBy c row):a.grownBy c row:=
 ⟨k.os.trans h.os,k.tape.trans h.tape,k.output.trans h.output,fU h.size k.size,fun j hj hne=>(k.block j (rY hj h.size) hne).trans (h.block j hj hne)⟩
theorem IJ (g:Nat):w.grownBy (QZ w g y0 y1 y2 y3) (some g):=
 aZ (aZ (aZ (bC w g 0 y0) (bC _ g 1 y1)) (bC _ g 2 y2)) (bC _ g 3 y3)
theorem IK {B:Nat} {w0 w:World} (hg:B<=g) (h:Below B w0 w):Below B w0 (QZ w g y0 y1 y2 y3):=
 (((h.setCell (p:=⟨g,0,none⟩) hg y0).setCell (p:=⟨g,1,none⟩) hg y1).setCell (p:=⟨g,2,none⟩) hg y2).setCell (p:=⟨g,3,none⟩) hg y3
end
theorem uf.next {w wz:World} {sb rb wb vb eb:Nat} {s:S8} {b:List UInt8} {st:S8} (h:uf w wz sb rb wb vb eb s b st) (hne:vb≠eb) (hv:w.heap.size<=vb) (he:w.heap.size<=eb) (p0 p1 p2 p3 q0 q1 q2 q3:UInt32):
  uf w (QZ (QZ wz eb (ah p0) (ah p1) (ah p2) (ah p3)) vb (ah q0) (ah q1) (ah q2) (ah q3)) sb rb wb vb eb s b ⟨q0,q1,q2,q3,p0,p1,p2,p3⟩:=by
 have gA:=IJ wz (ah p0) (ah p1) (ah p2) (ah p3) eb;have gB:=IJ (QZ wz eb (ah p0) (ah p1) (ah p2) (ah p3)) (ah q0) (ah q1) (ah q2) (ah q3) vb;have k:∀ {j:Nat} {t:TypeId} {cs:Array Value},ak wz j t cs->j≠eb->j≠vb->ak (QZ (QZ wz eb (ah p0) (ah p1) (ah p2) (ah p3)) vb (ah q0) (ah q1) (ah q2) (ah q3)) j t cs:=fun hk h1 h2=>(hk.grown gA (fun e=>h1 (by cases e;rfl))).grown gB (fun e=>h2 (by cases e;rfl))
 refine⟨k h.fs (h.fs.gY h.fe (by decide)) (h.fs.gY h.fv (by decide)),?_,k h.fw (h.fw.gY h.fe (by decide)) (h.fw.gY h.fv (by decide)),?_,?_,?_⟩
 ·obtain⟨cs,h1,h2⟩:=h.fr;exact⟨cs,k h1 (h1.gY h.fe (by decide)) (h1.gY h.fv (by decide)),h2⟩
 ·exact Q5 _ _ _ _ (h.fv.grown gA (fun e=>hne (by cases e;rfl)))
 ·exact(Q5 _ _ _ _ h.fe).grown gB (fun e=>hne (by cases e;rfl))
 ·exact IK _ _ _ _ hv (IK _ _ _ _ he h.bel)
def S8.get (s:S8):Nat->UInt32
 | 0=>s.a
 | 1=>s.b
 | 2=>s.c
 | 3=>s.d
 | 4=>s.e
 | 5=>s.f
 | 6=>s.g
 | _=>s.h
theorem yg (s:S8) (j:Nat) (h:j<8):(wQ s)[j]? =some (ah (s.get j)):=by
 match j,h with
 | 0,_=>rfl
 | 1,_=>rfl
 | 2,_=>rfl
 | 3,_=>rfl
 | 4,_=>rfl
 | 5,_=>rfl
 | 6,_=>rfl
 | 7,_=>rfl
theorem Qz (s v:S8) (j:Nat) (h:j<8):(Qy s v).get j=aT (s.get j) (v.get j):=by
 match j,h with
 | 0,_=>rfl
 | 1,_=>rfl
 | 2,_=>rfl
 | 3,_=>rfl
 | 4,_=>rfl
 | 5,_=>rfl
 | 6,_=>rfl
 | 7,_=>rfl
def IL (w:World) (sb:Nat) (s v:S8) (k:Nat):Prop:=∃ cs:Array Value,ak w sb 113 cs/\cs.size=8/\∀ j,j<8->cs[j]? =some (ah (if j % 4<k then aT (s.get j) (v.get j) else s.get j))
theorem Q7 {w:World} {sb:Nat} {s:S8} (v:S8) (h:ak w sb 113 (wQ s)):IL w sb s v 0:=⟨_,h,rfl,fun j hj=>by rw[if_neg (Nat.not_lt_zero _)];exact yg s j hj⟩
theorem IQ {w:World} {sb:Nat} {s v:S8} {k:Nat} (h:IL w sb s v k) (j:Nat) (hj:j<8):w.cell? ⟨sb,j,none⟩=some (ah (if j % 4<k then aT (s.get j) (v.get j) else s.get j))/\w.frozen? ⟨sb,j,none⟩=false:=by
 obtain⟨cs,h1,h2,h3⟩:=h;exact⟨by rw[h1.cell];exact h3 j hj,h1.frozen j⟩
theorem U6 {w:World} {sb:Nat} {s v:S8} {k:Nat} (h:IL w sb s v k) (hk:k<4):IL (((w.setCell ⟨sb,k,none⟩ (ah (aT (s.get k) (v.get k)))).drew.setCell ⟨sb,k+4,none⟩ (ah (aT (s.get (k+4)) (v.get (k+4))))).drew) sb s v (k+1):=by
 obtain⟨cs,h1,h2,h3⟩:=h;refine⟨_,((h1.aB k _).drew.aB (k+4) _).drew,by simp[h2],fun j hj=>?_⟩;rw[Array.getElem?_setIfInBounds,Array.getElem?_setIfInBounds];by_cases e1:k+4=j
 ·subst e1;rw[if_pos rfl,if_pos (by simp;omega),if_pos (by omega)]
 ·rw[if_neg e1];by_cases e2:k=j
  ·subst e2;rw[if_pos rfl,if_pos (by omega),if_pos (by omega)]
  ·rw[if_neg e2,h3 j hj];by_cases e3:j % 4<k
   ·rw[if_pos e3,if_pos (by omega)]
   ·rw[if_neg e3,if_neg (by omega)]
theorem U7 {w:World} {sb:Nat} {s v:S8} (h:IL w sb s v 4):w.rangeAt sb 0 (wQ (Qy s v)).toList:=by
 obtain⟨cs,h1,h2,h3⟩:=h;intro j x hx;have hj:j<8:=(List.getElem?_eq_some_iff.1 hx).1;rw[Array.getElem?_toList,yg _ j hj,Qz _ _ j hj] at hx;cases hx;rw[AZ,h1.cell,h3 j hj,if_pos (by omega)]
theorem aX {P:World->Prop} {X:World} (h:∀ W,X=W->P W):P X:=h X rfl
def lV (w:World) (g:Nat):Prop:=g<w.heap.size/\w.rangeAt g 0 kV
theorem lV.below {w w':World} {g:Nat} (h:lV w g) (hB:Below w.heap.size w w'):lV w' g:=
 ⟨rY h.1 hB.size,fun j v hv=>(hB.cell (p:=⟨g,0+j,none⟩) h.1).trans (h.2 j v hv)⟩
theorem abP (w:World) (s:S8) (bb bo c:Nat) (b:List UInt8) (hl:b.length=64) (hc:64<=c) (hb:BytesAt w bb bo b) (hK:lV w 1):
  Calls Tryz.prog 111 #[.agg (wQ s),.slice (some ⟨bb,bo,none⟩) 64 c] w fun e w'=>e= .returned (.agg (wQ (rH s b)))/\Below w.heap.size w w':=by
 unfold wQ;have HS:=zh (fun wx (h:Below w.heap.size w wx)=>Y0 wx bb bo c b hl hc (hb.below h));have yc:=zh (rG b);have LJ:Hid ((fF b).toArray.size=64):=by unfold Hid;rw[mG];exact yc.out
 go_enter Tryz.func111,Tryz.ntmps111;go_wp2_with fail;have hB0:Below w.heap.size w ((w.alloc (.cells #[ah s.a,ah s.b,ah s.c,ah s.d,ah s.e,ah s.f,ah s.g,ah s.h] 113)).alloc (.cells #[.int .u32 0,.int .u32 0,.int .u32 0,.int .u32 0,.int .u32 0,.int .u32 0,.int .u32 0,.int .u32 0] 113)):=by
  have b1:=(bK _ w).alloc (aF _) (.cells #[ah s.a,ah s.b,ah s.c,ah s.d,ah s.e,ah s.f,ah s.g,ah s.h] 113);exact b1.alloc b1.size _
 have hSB:ak ((w.alloc (.cells #[ah s.a,ah s.b,ah s.c,ah s.d,ah s.e,ah s.f,ah s.g,ah s.h] 113)).alloc (.cells #[.int .u32 0,.int .u32 0,.int .u32 0,.int .u32 0,.int .u32 0,.int .u32 0,.int .u32 0,.int .u32 0] 113)) w.heap.size 113 (wQ s):=(ak.new w _ _).alloc _;have hRB:ak ((w.alloc (.cells #[ah s.a,ah s.b,ah s.c,ah s.d,ah s.e,ah s.f,ah s.g,ah s.h] 113)).alloc (.cells #[.int .u32 0,.int .u32 0,.int .u32 0,.int .u32 0,.int .u32 0,.int .u32 0,.int .u32 0,.int .u32 0] 113)) (w.heap.size+1) 113 #[.int .u32 0,.int .u32 0,.int .u32 0,.int .u32 0,.int .u32 0,.int .u32 0,.int .u32 0,.int .u32 0]:=by
  have:=ak.new (w.alloc (.cells #[ah s.a,ah s.b,ah s.c,ah s.d,ah s.e,ah s.f,ah s.g,ah s.h] 113)) 113 #[.int .u32 0,.int .u32 0,.int .u32 0,.int .u32 0,.int .u32 0,.int .u32 0,.int .u32 0,.int .u32 0];rw[oz] at this;exact this
 generalize ((w.alloc (.cells #[ah s.a,ah s.b,ah s.c,ah s.d,ah s.e,ah s.f,ah s.g,ah s.h] 113)).alloc (.cells #[.int .u32 0,.int .u32 0,.int .u32 0,.int .u32 0,.int .u32 0,.int .u32 0,.int .u32 0,.int .u32 0] 113))=w0 at *;refine(HS.out _ hB0).mono ?_;rintro e w1 ⟨rfl,hB1⟩;have hz0:=hB0.size;have HB1:=zh (hB0.trans (hB1.mono hz0));have ag8:=zh (hSB.below hB1 hSB.lt);have ag9:=zh (hRB.below hB1 hRB.lt);clear hB0 hB1 hSB hRB hz0 HS;have hth:=zh (aU (o:=0) (n:=64) (ak.new w1 166 z64) (by decide));go_upto_region 2 with(first | (refine wpList_store_mid rfl 166 _ _ rfl w1.heap.size 0 (fF b).toArray rfl rfl ?hA ?hB ?hC ?_) | fail)
 case hA=>rw[LJ.out];exact hth.out
 case hB=>rw[LJ.out];exact qC
 case hC=>exact su _ _ (fun a=>BO _)
 try simp only[Act.put]
 refine aX (P:=fun W=>Code.wp _ _ _ _ W) (X:=(w1.alloc (.cells z64 166)).setCells w1.heap.size 0 (fF b)) (fun W2 hW2=>?_);have HWB:Hid (ak W2 w1.heap.size 166 (fF b).toArray):=by
  unfold Hid;rw[<-hW2];exact aW (ak.new w1 166 z64) (fF b) (by rw[yc.out];rfl)
 have HB2:Hid (Below w1.heap.size w1 W2):=by
  unfold Hid;rw[<-hW2];exact below_setCells (aF _) _ _ _ ((bK _ w1).alloc (aF _) _)
 have FP:=zh (ag8.out.below HB2.out ag8.out.lt);have aha:=zh (ag9.out.below HB2.out ag9.out.lt);have ZQ:=zh (HB1.out.trans (HB2.out.mono HB1.out.size));have hs0:W2.cell? ⟨w.heap.size,0,none⟩=some (ah s.a):=FP.out.cell 0;have hs1:W2.cell? ⟨w.heap.size,1,none⟩=some (ah s.b):=FP.out.cell 1;have hs2:W2.cell? ⟨w.heap.size,2,none⟩=some (ah s.c):=FP.out.cell 2;have hs3:W2.cell? ⟨w.heap.size,3,none⟩=some (ah s.d):=FP.out.cell 3;have hs4:W2.cell? ⟨w.heap.size,4,none⟩=some (ah s.e):=FP.out.cell 4;have hs5:W2.cell? ⟨w.heap.size,5,none⟩=some (ah s.f):=FP.out.cell 5;have hs6:W2.cell? ⟨w.heap.size,6,none⟩=some (ah s.g):=FP.out.cell 6;have hs7:W2.cell? ⟨w.heap.size,7,none⟩=some (ah s.h):=FP.out.cell 7;obtain⟨wb,hwb⟩:∃ wb,w1.heap.size=wb:=⟨_,rfl⟩;rw[hwb] at HWB ⊢;clear hW2 HB1 HB2 ag8 ag9 hth hwb;have hA1:∀ wx,(Instr.arrayAt 207 (.slice (some ⟨w.heap.size,0,none⟩) 4 8)).run Tryz.prog wx= .ok (.pointer (some ⟨w.heap.size,0,none⟩)) wx:=fun wx=>akA _ _ _ _ (by decide)
 have hA2:∀ wx,(Instr.arrayAt 207 (.slice (some ⟨w.heap.size,4,none⟩) 4 4)).run Tryz.prog wx= .ok (.pointer (some ⟨w.heap.size,4,none⟩)) wx:=fun wx=>akA _ _ _ _ (by decide)
 have n0:=World.new_ne W2 _ hs0;have hsz2:w.heap.size<W2.heap.size:=FP.out.lt
 go_cut [6,7] from 15 to 20 (fun p q wx=>∃ vb eb,p= .pointer (some ⟨vb,0,none⟩)/\q= .pointer (some ⟨eb,0,none⟩)/\Hid (vb≠eb/\W2.heap.size<=vb/\W2.heap.size<=eb)/\Hid (ak wx vb 207 #[ah s.a,ah s.b,ah s.c,ah s.d])/\Hid (ak wx eb 207 #[ah s.e,ah s.f,ah s.g,ah s.h])/\Hid (Below W2.heap.size W2 wx))
 case first=>
  go_region_held3 (fun w'=>w'.cell? ⟨w.heap.size,0,none⟩=some (ah s.a)/\w'.cell? ⟨w.heap.size,1,none⟩=some (ah s.b)/\w'.cell? ⟨w.heap.size,2,none⟩=some (ah s.c)/\w'.cell? ⟨w.heap.size,3,none⟩=some (ah s.d)/\w'.cell? ⟨w.heap.size,4,none⟩=some (ah s.e)/\w'.cell? ⟨w.heap.size,5,none⟩=some (ah s.f)/\w'.cell? ⟨w.heap.size,6,none⟩=some (ah s.g)/\w'.cell? ⟨w.heap.size,7,none⟩=some (ah s.h)) (go_keep) (fail)
  all_goals (try go_wp2_with fail)
  all_goals go_meet
  all_goals first
   | exact⟨W2.heap.size,W2.heap.size+1,rfl,rfl,⟨by omega,by omega,by omega⟩,(qN W2 207 _ _).1,(qN W2 207 _ _).2.1,(qN W2 207 _ _).2.2⟩
   | exact⟨W2.heap.size+1,W2.heap.size,rfl,rfl,⟨by omega,by omega,by omega⟩,(qN W2 207 _ _).2.1,(qN W2 207 _ _).1,(qN W2 207 _ _).2.2⟩
 case rest=>
 obtain⟨vb,eb,rfl,rfl,hne,hV,hE,hB3⟩:=hcut;have hC0:Hid (uf w wc w.heap.size (w.heap.size+1) wb vb eb s b s):=
  ⟨FP.out.below hB3.out FP.out.lt,⟨_,aha.out.below hB3.out aha.out.lt,rfl⟩,HWB.out.below hB3.out HWB.out.lt,hV.out,hE.out,ZQ.out.trans (hB3.out.mono ZQ.out.size)⟩
 have hK3:=zh (hK.below hC0.out.bel);have akB:Hid ((Tryz.prog.info? 166).map (·.size)=some kV.length):=by unfold Hid;rw[abN];exact qC
 have hvw:=zh (And.intro (fU (Nat.le_of_lt hsz2) hne.out.2.1) (fU (Nat.le_of_lt hsz2) hne.out.2.2));clear hs0 hs1 hs2 hs3 hs4 hs5 hs6 hs7 FP aha HWB ZQ hV hE hB3 n0 hsz2 hA1 hA2 hK hb;go_wp2_with (first | (refine wpList_load_mid rfl 166 _ rfl 1 0 rfl kV _ hK3.out.2 Tryz.underlying166 rfl akB.out ?_) | fail);try simp only[Act.put,zq]
 go_loopw [22] (fun i wr=>∃ t:Nat,t<=64/\i= .int .i64 t/\Hid (uf w wr w.heap.size (w.heap.size+1) wb vb eb s b (iH s b t))) (fun i _=>64-(intOf i).toNat)
 case atStart=>exact⟨0,iT _,rfl,hC0⟩
 case round=>
  clear hC0;obtain⟨t,ht,rfl,hC⟩:=hrel;by_cases h64:t<64
  ·have d64:decide (t<64)=true:=pW h64;have abk:decide ((t:Int)<64)=true:=pW (by omega);have hk:=fun wx=>ael wx t h64
   have t0:(0:Int)<=(t:Int):=by omega
   have t1:(t:Int)<64:=by omega
   have t2:¬ 64<=(t:Int):=by omega
   have hsr:Hid (iH s b (t+1)=Ic (iH s b t) (kAt t) (sw b t)):=rfl;have hwt:wr.cell? ⟨wb,t,none⟩=some (ah (sw b t)):=by
    rw[hC.out.fw.cell t,Ti];exact DY b t h64
   generalize iH s b t=st at *;obtain⟨a1,b1,c1,d1,e1,f1,g1,h1⟩:=st;have v0:wr.cell? ⟨vb,0,none⟩=some (ah a1):=hC.out.fv.cell 0;have v1:wr.cell? ⟨vb,1,none⟩=some (ah b1):=hC.out.fv.cell 1;have v2:wr.cell? ⟨vb,2,none⟩=some (ah c1):=hC.out.fv.cell 2;have v3:wr.cell? ⟨vb,3,none⟩=some (ah d1):=hC.out.fv.cell 3;have e0:wr.cell? ⟨eb,0,none⟩=some (ah e1):=hC.out.fe.cell 0;have e1':wr.cell? ⟨eb,1,none⟩=some (ah f1):=hC.out.fe.cell 1;have e2:wr.cell? ⟨eb,2,none⟩=some (ah g1):=hC.out.fe.cell 2;have e3:wr.cell? ⟨eb,3,none⟩=some (ah h1):=hC.out.fe.cell 3;go_wp2_with fail
   go_region_held3 (fun w'=>w'.cell? ⟨wb,t,none⟩=some (ah (sw b t))/\w'.cell? ⟨vb,0,none⟩=some (ah a1)/\w'.cell? ⟨vb,1,none⟩=some (ah b1)/\w'.cell? ⟨vb,2,none⟩=some (ah c1)/\w'.cell? ⟨vb,3,none⟩=some (ah d1)/\w'.cell? ⟨eb,0,none⟩=some (ah e1)/\w'.cell? ⟨eb,1,none⟩=some (ah f1)/\w'.cell? ⟨eb,2,none⟩=some (ah g1)/\w'.cell? ⟨eb,3,none⟩=some (ah h1)) (go_keep) (first | (go_at_call 150;refine(mix1 _ _).mono ?_;rintro e w' ⟨rfl,rfl⟩))
   obtain⟨X,hX⟩:∃ X,rx ⟨a1,b1,c1,d1,e1,f1,g1,h1⟩ (kAt t) (sw b t)=X:=⟨_,rfl⟩;have hX2:aT (aT (aT (aT h1 (dI (dI (rotl e1 26) (rotl e1 21)) (rotl e1 7))) (dI (wand e1 f1) (wand (Uu e1) g1))) (kAt t)) (sw b t)=X:=hX;rw[hX2];have hC2:Hid (uf w wr.drew w.heap.size (w.heap.size+1) wb vb eb s b ⟨a1,b1,c1,d1,e1,f1,g1,h1⟩):=hC.out.drew;clear v0 v1 v2 v3 e0 e1' e2 e3 hwt hX2 hC;generalize wr.drew=wq at *;have v0:wq.cell? ⟨vb,0,none⟩=some (ah a1):=hC2.out.fv.cell 0;have v1:wq.cell? ⟨vb,1,none⟩=some (ah b1):=hC2.out.fv.cell 1;have v2:wq.cell? ⟨vb,2,none⟩=some (ah c1):=hC2.out.fv.cell 2;have v3:wq.cell? ⟨vb,3,none⟩=some (ah d1):=hC2.out.fv.cell 3;go_wp2_with fail
   go_region_held3 (fun w'=>w'.cell? ⟨vb,0,none⟩=some (ah a1)/\w'.cell? ⟨vb,1,none⟩=some (ah b1)/\w'.cell? ⟨vb,2,none⟩=some (ah c1)/\w'.cell? ⟨vb,3,none⟩=some (ah d1)) (go_keep) (first | (go_at_call 150;refine(mix2 _ _).mono ?_;rintro e w' ⟨rfl,rfl⟩))
   obtain⟨Y,hY⟩:∃ Y,ry ⟨a1,b1,c1,d1,e1,f1,g1,h1⟩=Y:=⟨_,rfl⟩;have hY2:aT (dI (dI (rotl a1 30) (rotl a1 19)) (rotl a1 10)) (dI (dI (wand a1 b1) (wand a1 c1)) (wand b1 c1))=Y:=hY;rw[hY2];have Jv:Hid (uf w wq.drew w.heap.size (w.heap.size+1) wb vb eb s b ⟨a1,b1,c1,d1,e1,f1,g1,h1⟩):=hC2.out.drew;clear v0 v1 v2 v3 hY2 hC2;generalize wq.drew=wz at *;have v0:wz.cell? ⟨vb,0,none⟩=some (ah a1):=Jv.out.fv.cell 0;have v1:wz.cell? ⟨vb,1,none⟩=some (ah b1):=Jv.out.fv.cell 1;have v2:wz.cell? ⟨vb,2,none⟩=some (ah c1):=Jv.out.fv.cell 2;have v3:wz.cell? ⟨vb,3,none⟩=some (ah d1):=Jv.out.fv.cell 3;have e0:wz.cell? ⟨eb,0,none⟩=some (ah e1):=Jv.out.fe.cell 0;have e1':wz.cell? ⟨eb,1,none⟩=some (ah f1):=Jv.out.fe.cell 1;have e2:wz.cell? ⟨eb,2,none⟩=some (ah g1):=Jv.out.fe.cell 2;have e3:wz.cell? ⟨eb,3,none⟩=some (ah h1):=Jv.out.fe.cell 3;have fv0:=Jv.out.fv.frozen 0;have fv1:=Jv.out.fv.frozen 1;have fv2:=Jv.out.fv.frozen 2;have fv3:=Jv.out.fv.frozen 3;have fe0:=Jv.out.fe.frozen 0;have fe1:=Jv.out.fe.frozen 1;have fe2:=Jv.out.fe.frozen 2;have fe3:=Jv.out.fe.frozen 3;have hn1:vb≠eb:=hne.out.1;have hn2:eb≠vb:=fun e=>hne.out.1 e.symm
   have hN:=zh (Jv.out.next hn1 hvw.out.1 hvw.out.2 (aT d1 X) e1 f1 g1 (aT X Y) a1 b1 c1);have hs2:Hid (iH s b (t+1)=⟨aT X Y,a1,b1,c1,aT d1 X,e1,f1,g1⟩):=by
    unfold Hid;rw[hsr.out];unfold Ic;dsimp only;rw[hX,hY]
   clear Jv;go_wp2_with fail;go_roundw
   case rel=>exact⟨t+1,by omega,by go_num,by unfold Hid;rw[hs2.out];exact hN.out⟩
   case measure=>simp[intOf];omega
  ·have akC:t=64:=by omega
   have d64:decide (t<64)=false:=dF h64;have abk:decide ((t:Int)<64)=false:=dF (by omega);have t2:(64:Int)<=(t:Int):=by omega
   have t3:¬ (t:Int)<64:=by omega
   have hsc:Hid (rH s b=Qy s (iH s b t)):=by unfold Hid;rw[akC];rfl
   clear akC ht;generalize iH s b t=V at *;have hV4:Hid (∀ j,j<4->wr.cell? ⟨vb,j,none⟩=some (ah (V.get j))/\wr.cell? ⟨eb,j,none⟩=some (ah (V.get (j+4)))):=by
    intro j hj;rw[hC.out.fv.cell,hC.out.fe.cell]
    match j,hj with
    | 0,_=>exact⟨rfl,rfl⟩
    | 1,_=>exact⟨rfl,rfl⟩
    | 2,_=>exact⟨rfl,rfl⟩
    | 3,_=>exact⟨rfl,rfl⟩
   have hS0:Hid (IL wr w.heap.size s V 0):=Q7 V hC.out.fs;have hR0:Hid (∃ cs,ak wr (w.heap.size+1) 113 cs/\cs.size=8):=hC.out.fr;have hB0:Hid (Below w.heap.size w wr):=hC.out.bel;have hvs:=zh (And.intro (hC.out.fv.gY hC.out.fs (by decide)) (hC.out.fe.gY hC.out.fs (by decide)));clear hC hK3 akB;go_wp2_with fail;go_loopw [94] (fun i wx=>∃ k:Nat,k<=4/\i= .int .i64 k/\Hid (IL wx w.heap.size s V k)/\Hid (∀ j,j<4->wx.cell? ⟨vb,j,none⟩=some (ah (V.get j))/\wx.cell? ⟨eb,j,none⟩=some (ah (V.get (j+4))))/\Hid (∃ cs,ak wx (w.heap.size+1) 113 cs/\cs.size=8)/\Hid (Below w.heap.size w wx)) (fun i _=>4-(intOf i).toNat)
   case atStart=>exact⟨0,iT _,rfl,hS0,hV4,hR0,hB0⟩
   case round=>
    clear hS0 hV4 hR0 hB0;obtain⟨k,hk,rfl,hS,hV,hR,hB⟩:=hrel;by_cases hk4:k<4
    ·have dk:decide (k<4)=true:=pW hk4;have dk':decide ((k:Int)<4)=true:=pW (by omega);have k0:(0:Int)<=(k:Int):=by omega
     have k1:(k:Int)<4:=by omega
     have k2:¬ 4<=(k:Int):=by omega
     have k3:¬ 8<=(k:Int):=by omega
     have k5:¬ 8<=(k:Int)+4:=by omega
     have k6:(k:Int)<8:=by omega
     have k7:(k:Int)+4<8:=by omega
     have k8:(0:Int)<=(k:Int)+4:=by omega
     obtain⟨c1,f1⟩:=IQ hS.out k (by omega);obtain⟨c2,f2⟩:=IQ hS.out (k+4) (by omega);rw[if_neg (by omega)] at c1 c2;obtain⟨c3,c4⟩:=hV.out k hk4;have n1:=hvs.out.1;have n2:=hvs.out.2;have Yz:=zh (U6 hS.out hk4);have hVn:Hid (∀ j,j<4->(((wr.setCell ⟨w.heap.size,k,none⟩ (ah (aT (s.get k) (V.get k)))).drew.setCell ⟨w.heap.size,k+4,none⟩ (ah (aT (s.get (k+4)) (V.get (k+4))))).drew).cell? ⟨vb,j,none⟩=some (ah (V.get j))/\(((wr.setCell ⟨w.heap.size,k,none⟩ (ah (aT (s.get k) (V.get k)))).drew.setCell ⟨w.heap.size,k+4,none⟩ (ah (aT (s.get (k+4)) (V.get (k+4))))).drew).cell? ⟨eb,j,none⟩=some (ah (V.get (j+4)))):=by
      intro j hj;obtain⟨q1,q2⟩:=hV.out j hj;have r1:∀ (W:World) (i:Nat) (x:Value),(W.setCell ⟨w.heap.size,i,none⟩ x).cell? ⟨vb,j,none⟩=W.cell? ⟨vb,j,none⟩:=fun W i x=>World.cell?_setCell_far _ _ _ _ (fun e=>n1 e.symm)
      have r2:∀ (W:World) (i:Nat) (x:Value),(W.setCell ⟨w.heap.size,i,none⟩ x).cell? ⟨eb,j,none⟩=W.cell? ⟨eb,j,none⟩:=fun W i x=>World.cell?_setCell_far _ _ _ _ (fun e=>n2 e.symm)
      refine⟨?_,?_⟩
      ·refine(r1 _ _ _).trans ((r1 _ _ _).trans q1)
      ·refine(r2 _ _ _).trans ((r2 _ _ _).trans q2)
     have xZ:Hid (∃ cs,ak (((wr.setCell ⟨w.heap.size,k,none⟩ (ah (aT (s.get k) (V.get k)))).drew.setCell ⟨w.heap.size,k+4,none⟩ (ah (aT (s.get (k+4)) (V.get (k+4))))).drew) (w.heap.size+1) 113 cs/\cs.size=8):=by
      obtain⟨cs,h1,h2⟩:=hR.out;exact⟨cs,(((h1.grown (bC wr w.heap.size k _) (by simp)).drew).grown (bC _ w.heap.size (k+4) _) (by simp)).drew,h2⟩
     have hBn:Hid (Below w.heap.size w (((wr.setCell ⟨w.heap.size,k,none⟩ (ah (aT (s.get k) (V.get k)))).drew.setCell ⟨w.heap.size,k+4,none⟩ (ah (aT (s.get (k+4)) (V.get (k+4))))).drew)):=
      (((hB.out.setCell (p:=⟨w.heap.size,k,none⟩) (aF _) _).drew).setCell (p:=⟨w.heap.size,k+4,none⟩) (aF _) _).drew
     generalize s.get k=x1 at *;generalize V.get k=x2 at *;generalize s.get (k+4)=x3 at *;generalize V.get (k+4)=x4 at *;clear hS hV hR hB hvs;go_wp2_with fail
     go_region
     go_wp2_with fail
     go_region
     go_wp2_with fail;go_roundw
     case rel=>exact⟨k+1,by omega,by go_num,Yz,hVn,xZ,hBn⟩
     case measure=>simp[intOf];omega
    ·have akD:k=4:=by omega
     have dk:decide (k<4)=false:=dF hk4;have dk':decide ((k:Int)<4)=false:=dF (by omega);have k2:(4:Int)<=(k:Int):=by omega
     have k3:¬ (k:Int)<4:=by omega
     have hrg:Hid (wr.rangeAt w.heap.size 0 (wQ (rH s b)).toList):=by
      have h4:=hS.out;rw[akD] at h4;unfold Hid;rw[hsc.out];exact U7 h4
     clear akD hk hS hV;obtain⟨S,hSS⟩:∃ S,rH s b=S:=⟨_,rfl⟩;rw[hSS] at hrg;have hSh:=zh hSS;have q0:wr.cell? ⟨w.heap.size,0,none⟩=some (ah S.a):=hrg.out 0 _ rfl;have q1:wr.cell? ⟨w.heap.size,1,none⟩=some (ah S.b):=hrg.out 1 _ rfl;have q2:wr.cell? ⟨w.heap.size,2,none⟩=some (ah S.c):=hrg.out 2 _ rfl;have q3:wr.cell? ⟨w.heap.size,3,none⟩=some (ah S.d):=hrg.out 3 _ rfl;have q4:wr.cell? ⟨w.heap.size,4,none⟩=some (ah S.e):=hrg.out 4 _ rfl;have q5:wr.cell? ⟨w.heap.size,5,none⟩=some (ah S.f):=hrg.out 5 _ rfl;have q6:wr.cell? ⟨w.heap.size,6,none⟩=some (ah S.g):=hrg.out 6 _ rfl;have q7:wr.cell? ⟨w.heap.size,7,none⟩=some (ah S.h):=hrg.out 7 _ rfl;obtain⟨cs,hb1,hb2⟩:=hR.out;obtain⟨y0,z0⟩:∃ y,wr.cell? ⟨w.heap.size+1,0,none⟩=some y:=⟨_,(hb1.cell 0).trans (ZO (by omega))⟩;have f0:=hb1.frozen 0;obtain⟨y1,z1⟩:∃ y,wr.cell? ⟨w.heap.size+1,1,none⟩=some y:=⟨_,(hb1.cell 1).trans (ZO (by omega))⟩;have f1:=hb1.frozen 1;obtain⟨y2,z2⟩:∃ y,wr.cell? ⟨w.heap.size+1,2,none⟩=some y:=⟨_,(hb1.cell 2).trans (ZO (by omega))⟩;have f2:=hb1.frozen 2;obtain⟨y3,z3⟩:∃ y,wr.cell? ⟨w.heap.size+1,3,none⟩=some y:=⟨_,(hb1.cell 3).trans (ZO (by omega))⟩;have f3:=hb1.frozen 3;obtain⟨y4,z4⟩:∃ y,wr.cell? ⟨w.heap.size+1,4,none⟩=some y:=⟨_,(hb1.cell 4).trans (ZO (by omega))⟩;have f4:=hb1.frozen 4;obtain⟨y5,z5⟩:∃ y,wr.cell? ⟨w.heap.size+1,5,none⟩=some y:=⟨_,(hb1.cell 5).trans (ZO (by omega))⟩;have f5:=hb1.frozen 5;obtain⟨y6,z6⟩:∃ y,wr.cell? ⟨w.heap.size+1,6,none⟩=some y:=⟨_,(hb1.cell 6).trans (ZO (by omega))⟩;have f6:=hb1.frozen 6;obtain⟨y7,z7⟩:∃ y,wr.cell? ⟨w.heap.size+1,7,none⟩=some y:=⟨_,(hb1.cell 7).trans (ZO (by omega))⟩;have f7:=hb1.frozen 7;have hb3:=zh hb1;have hb4:=zh hb2;clear hSS hsc hrg hR hb1 hb2;go_wp2_with fail;have hL:=aW hb3.out [ah S.a,ah S.b,ah S.c,ah S.d,ah S.e,ah S.f,ah S.g,ah S.h] (by rw[hb4.out];rfl);have hBL:=below_setCells (g:=w.heap.size+1) (wW _) [ah S.a,ah S.b,ah S.c,ah S.d,ah S.e,ah S.f,ah S.g,ah S.h] 0 _ hB.out;rw[hSh.out];exact bU (bF (P:=Tryz.prog) rfl _ _ (w.heap.size+1) 113 #[ah S.a,ah S.b,ah S.c,ah S.d,ah S.e,ah S.f,ah S.g,ah S.h] _ rfl hL Tryz.underlying113 rfl abp) rfl ⟨rfl,hBL⟩
end
section
open Go.RowKit Go.Shelf
attribute [local go_sem] Oper.semAt_some
def iv:S8:=⟨0x6a09e667,0xbb67ae85,0x3c6ef372,0xa54ff53a,0x510e527f,0x9b05688c,0x1f83d9ab,0x5be0cd19⟩
def dO (s:S8) (k:List UInt8) (n:Nat):List Value:=(wQ s).toList++k.map (fun x=> .int .u8 (x.toNat:Int))++ [.int .u64 (n:Int)]
theorem zy:(Tryz.prog.info? 116).map (·.size)=some 73:=by kernel_rfl
theorem AP:(dO iv (List.replicate 64 0) 0).toArray.size=73:=by kernel_rfl
theorem wH:(Tryz.zeroCells116).size=73:=by kernel_rfl
theorem zk (w:World):Calls Tryz.prog 76 #[] w fun e w'=>e= .returned (.agg (dO iv (List.replicate 64 0) 0).toArray)/\Below w.heap.size w w':=by
 go_enter Tryz.func76,Tryz.ntmps76;have hBk:=ak.new w 116 Tryz.zeroCells116;have hBl:=(bK _ w).alloc (aF _) (.cells Tryz.zeroCells116 116);go_wp2_with (first | (refine wpList_store_mid rfl 116 _ _ rfl w.heap.size 0 (dO iv (List.replicate 64 0) 0).toArray rfl rfl ?hA ?hB ?hC ?_) | fail)
 case hA=>exact aU hBk (by rw[AP,wH];exact aF _)
 case hB=>rw[AP];exact zy
 case hC=>kernel_rfl
 simp only[Act.put];exact bU (bF (P:=Tryz.prog) rfl _ _ w.heap.size 116 (dO iv (List.replicate 64 0) 0).toArray _ rfl (aW hBk (dO iv (List.replicate 64 0) 0) (by rw[wH];rfl)) Tryz.underlying116 rfl (by rw[AP];exact zy)) rfl ⟨rfl,below_setCells (aF _) _ _ _ hBl⟩
end
open Go.RowKit Go.Shelf
theorem og (s:S8):(wQ s).toList.length=8:=rfl
theorem rM (s:S8) (k:List UInt8) (n:Nat):(dO s k n).length=8+k.length+1:=by
 unfold dO;rw[kM,kM,lq,og];rfl
theorem LZ (s:S8) (k:List UInt8) (n j:Nat) (h:j<8):(dO s k n)[j]? =some (ah (s.get j)):=by
 unfold dO;rw[Em,List.getElem?_append_left (by rw[og];exact h),Array.getElem?_toList];exact yg s j h
theorem Y1 (s:S8) (k:List UInt8) (n i:Nat) (x:UInt8) (h:k[i]? =some x):(dO s k n)[8+i]? =some (.int .u8 (x.toNat:Int)):=by
 have hi:i<k.length:=(List.getElem?_eq_some_iff.1 h).1;unfold dO;rw[Em,ZP (by rw[og];omega),og,Nat.add_sub_cancel_left,List.getElem?_append_left (by rw[lq];exact hi),sD,h];rfl
theorem ahb (s:S8) (k:List UInt8) (n:Nat) (h:k.length=64):(dO s k n)[72]? =some (.int .u64 (n:Int)):=by
 unfold dO;rw[ZP (by rw[kM,lq,og];omega),kM,lq,og,h];rfl
theorem Y2 {w:World} {g:Nat} {t:TypeId} {s:S8} {k:List UInt8} {n:Nat} (h:ak w g t (dO s k n).toArray):BytesAt w g 8 k:=
 ⟨h.lt,fun i x hx=>by rw[h.cell,Ti];exact Y1 s k n i x hx⟩
theorem gX {w:World} {g:Nat} {t:TypeId} {s:S8} {k:List UInt8} {n:Nat} (h:ak w g t (dO s k n).toArray) (j:Nat) (hj:j<8):w.cell? ⟨g,j,none⟩=some (ah (s.get j)):=by
 rw[h.cell,Ti];exact LZ s k n j hj
theorem Xu {w:World} {g:Nat} {t:TypeId} {s:S8} {k:List UInt8} {n:Nat} (h:ak w g t (dO s k n).toArray) (hk:k.length=64):w.cell? ⟨g,72,none⟩=some (.int .u64 (n:Int)):=by
 rw[h.cell,Ti];exact ahb s k n hk
end Go.Proofs.YtpghocekofdpbaaGreatDoor
