import Derived.Test.YtpghocekofdpbaaGreatDoorQr24
import Derived.Test.YtpghocekofdpbaaGreatDoorQr25
import Derived.Lib.AtoiErrMem
set_option maxRecDepth 100000
set_option maxHeartbeats 1600000
namespace Go.Proofs.YtpghocekofdpbaaGreatDoor
open Go.RowKit Go.Shelf
section
attribute [local go_sem] Oper.semAt_some
def bl (x:ByteArray):List UInt8:=x.data.toList
theorem aG (x:ByteArray):(bl x).length=x.size:=by
 unfold bl;rw[Di];rfl
theorem jD (y:ByteArray) (a:Nat) (_h:a<=y.size):bl (y.extract a y.size)=(bl y).drop a:=by
 unfold bl;rw[ByteArray.data_extract,Array.toList_extract,List.extract_eq_take_drop,uo];rw[rX,Di];exact aF _
def Gg:Value->Nat
 | .string y=>y.size
 | _=>0
structure abT (w wr:World) (m l:List UInt8) (d:Nat):Prop where
 ex:∃ s k,ak wr w.heap.size 116 (dO s k (m.length+d)).toArray/\jL iv (m++l.take d) s k
 fr:∃ cs,ak wr (w.heap.size+1) 116 cs/\cs.size=73
 bel:Below w.heap.size w wr
theorem QW {x y:ByteArray} (h:x=y):(x.toList==y.toList)=true:=by rw[h];exact kG _
theorem Xr {x y:ByteArray} (h:x≠y):(x.toList==y.toList)=false:=by
 rw[FI,ByteArray.toList_eq,ByteArray.toList_eq];exact fun e=>h (by apply ByteArray.ext;exact Array.ext' e)
theorem kF (l:List UInt8):∀ v ∈ l.map aK,v.oneCell'=true:=by
 intro v hv;obtain⟨x,_,rfl⟩:=List.mem_map.1 hv;rfl
theorem abU {α:Type} (l:List α) (a:Nat):l.take (min l.length a)=l.take a:=by
 rcases Nat.le_total l.length a with h | h
 ·rw[Gm h,List.take_length,uo h]
 ·rw[Nat.min_eq_right h]
theorem tK:(Tryz.prog.info? 5).map (·.size)=some 1:=by kernel_rfl
theorem E5 {w:World} {ops:Array Oper} {rest:List Oper} {op:Oper} {a:Act} {Q:Exit->Act->World->Prop} (hgd:op.guard=none) (d s:Operand)
  (ho:op.op= .call { callee:= .builtin .copy,args:= #[d,s],argTypes:= #[66,9] }) (g o:Nat) (y:ByteArray) (st:S8) (k:List UInt8) (n kk:Nat) (hd:a.eval d= .slice (some ⟨g,8+o,none⟩) (64-o) (64-o)) (hs:a.eval s= .string y)
  (hB:ak w g 116 (dO st k n).toArray) (hk:k.length=64) (hole:o<64) (hkk:Nat.min y.size (64-o)=kk)
  (h:∀ W2:World,ak W2 g 116 (dO st (k.take o++(bl y).take kk++k.drop (o+kk)) n).toArray->w.grownBy W2 (some g)->(∀ B w0,B<=g->Below B w0 w->Below B w0 W2)->wpList Tryz.prog ops Q rest (a.put op.dst (goInt kk)) W2):wpList Tryz.prog ops Q (op::rest) a w:=by
 have hlen:((bl y).take kk).length=kk:=by
  rw[ou,aG,<-hkk];show min (min y.size (64-o)) y.size=min y.size (64-o)
  omega
 have hle:o+kk<=64:=by
  have:kk<=64-o:=by rw[<-hkk];exact Nat.min_le_right _ _
  omega
 refine Dz hgd d s _ _ ho 5 1 Tryz.underlying66 tK g (8+o) (64-o) (64-o) y hd hs (dO st k n).toArray 116 (((bl y).take kk).map aK) ?_ hB ?_ (kF _) ?_
 ·rw[hkk,List.map_take];rfl
 ·rw[lq,hlen,rO _ _ _ hk];omega
 ·rw[hkk];have hc:=abQ hB ((bl y).take kk) o hk (by rw[hlen];exact hle);rw[hlen] at hc;exact h _ hc ⟨rfl,rfl,rfl,by simp,fun j _ hne=>setRow_other _ _ _ _ (fun e=>hne (by rw[e]))⟩ (fun B w0 hBg hb=>below_setRow hb hBg _)
theorem Cm (k l:List UInt8) {o kk n:Nat} (hk:k.length=64) (h:o+kk<=64) (hl:Nat.min n (64-o)=kk) (hn:l.length=n):(k.take o++l.take kk++k.drop (o+kk)).length=64:=by
 have:kk<=n:=by rw[<-hl];exact Nat.min_le_left _ _
 rw[kM,kM,ou,ou,rX];omega
theorem DX (n:Nat) (h:n<18446744073709551616):IntKind.u64.wrap (n:Int)=(n:Int):=by rw[IntKind.wrap_u64];omega
theorem pR (n:Nat) (h:n<9223372036854775808):wrap64 (n:Int)=(n:Int):=by unfold wrap64;omega
theorem N9 (a b n:Nat) (h:a+b=n) (hn:n<9223372036854775808):wrap64 ((a:Int)+(b:Int))=(n:Int):=by
 rw[<-pR n hn,<-h];rfl
theorem int_ne (a b:Nat) (h:¬ a+b=64):((a:Int)+(b:Int)==64)=false:=by
 rw[FI];omega
theorem IU (m l t:List UInt8) (d kk:Nat) (ht:t=(l.drop d).take kk):m++l.take d++t=m++l.take (d+kk):=by
 rw[ht,Em,List.take_add]
theorem L6 (l t:List UInt8) (d kk:Nat) (ht:t=(l.drop d).take kk) (hd:d+kk<=l.length):t.length=kk:=by
 rw[ht,ou,rX];omega
theorem akE (m l:List UInt8) (d N:Nat) (hd:d<=l.length) (hN:m.length+d=N):(m++l.take d).length=N:=by
 rw[kM,ou,Gm hd];exact hN
theorem abV {m l t:List UInt8} {s:S8} {k:List UInt8} {d kk N o:Nat} (h:jL iv (m++l.take d) s k) (hN:m.length+d=N) (ho:N % 64=o) (ht:t=(l.drop d).take kk) (hd:d+kk<=l.length) (hl:o+kk<=64) (hne:¬ o+kk=64):
  jL iv (m++l.take (d+kk)) s (k.take o++t++k.drop (o+kk)):=by
 have e:=akE m l d N (by omega) hN;have e2:=L6 l t d kk ht hd;have h2:=U3 (t:=t) h (by rw[e,ho,e2];omega);rw[e,ho,e2,IU m l t d kk ht] at h2;exact h2
theorem abW {m l t:List UInt8} {s:S8} {k:List UInt8} {d kk N o:Nat} (h:jL iv (m++l.take d) s k) (hN:m.length+d=N) (ho:N % 64=o) (ht:t=(l.drop d).take kk) (hd:d+kk<=l.length) (hl:o+kk=64):
  jL iv (m++l.take (d+kk)) (rH s (k.take o++t++k.drop (o+kk))) (k.take o++t++k.drop (o+kk)):=by
 have e:=akE m l d N (by omega) hN;have e2:=L6 l t d kk ht hd;have hk:=h.len;have h2:=U4 (t:=t) h (by rw[e,ho,e2];exact hl);rw[e,ho,IU m l t d kk ht] at h2;rw[hl,List.drop_of_length_le (by omega),List.append_nil];exact h2
theorem Ad {B:Nat} {w w':World} (h:Below B w w') (hB:w.heap.size<=B) (row:Option Nat):w.grownBy w' row:=
 ⟨h.os,h.tape,h.output,h.size,fun j hj _=>h.block j (rY hj hB)⟩
theorem kT (g:Nat):∀ (vs:List Value) (o:Nat) (w:World),w.grownBy (w.setCells g o vs) (some g)
 | [],_,w=>Ad (bK _ w) (aF _) _
 | v::r,o,w=>aZ (bC w g o v) (kT g r (o+1) _)
theorem Va (w:World) (g:Nat) (s:S8):w.grownBy (abR w g s) (some g):=kT g _ 0 w
theorem Q9:∃ a,Tryz.prog.info? 116=some a/\a.size=8+64+1:=by
 obtain⟨a,h1,h2⟩:=Option.map_eq_some_iff.1 zy;exact⟨a,h1,h2⟩
theorem Rf (s:S8) (k:List UInt8) (n:Nat):∀ v ∈ dO s k n,v.oneCell'=true:=by
 intro v hv;rw[wI] at hv;rcases List.mem_append.1 hv with h | h
 ·rcases List.mem_append.1 h with h | h
  ·rw[show(wQ s).toList= [s.a,s.b,s.c,s.d,s.e,s.f,s.g,s.h].map ah from rfl] at h;obtain⟨x,_,rfl⟩:=List.mem_map.1 h;rfl
  ·obtain⟨x,_,rfl⟩:=List.mem_map.1 h;rfl
 ·rw[List.mem_singleton.1 h];rfl
theorem add_any (w:World) (m:List UInt8) (s:S8) (k:List UInt8) (x:ByteArray) (hS:jL iv m s k) (hK:lV w 1) (hlen:m.length+x.size<9223372036854775808):
  Calls Tryz.prog 77 #[.agg (dO s k m.length).toArray,.string x] w fun e w'=>∃ s' k',e= .returned (.agg (dO s' k' (m.length+x.size)).toArray)/\jL iv (m++bl x) s' k'/\Below w.heap.size w w':=by
 go_enter Tryz.func77,Tryz.ntmps77;go_wp2_with fail;have hA0:Hid (abT w ((w.alloc (Obj.cells (dO s k m.length).toArray 116)).alloc (Obj.cells Tryz.zeroCells116 116)) m (bl x) 0):=by
  have b1:=(bK _ w).alloc (aF _) (Obj.cells (dO s k m.length).toArray 116);have bk:=ak.new (w.alloc (Obj.cells (dO s k m.length).toArray 116)) 116 Tryz.zeroCells116;rw[oz] at bk;exact⟨⟨s,k,(ak.new w _ _).alloc _,by rw[List.take_zero,List.append_nil];exact hS⟩,⟨_,bk,wH⟩,b1.alloc b1.size _⟩
 have hKH:=zh hK;have BR:=zh hlen;clear hS hK hlen;go_loopw [1] (fun v wr=>∃ d y,v= .string y/\Hid (d<=x.size)/\Hid (bl y=(bl x).drop d)/\Hid (abT w wr m (bl x) d)) (fun v _=>Gg v)
 case atStart=>exact⟨0,x,rfl,iT _,rfl,hA0⟩
 case round=>
  clear hA0;obtain⟨d,y,rfl,hd,hy,hA⟩:=hrel;obtain⟨⟨s1,k1,hB,hST⟩,⟨cs,hR,hRs⟩,hBel⟩:=hA;have A8:=zh hST.len;obtain⟨N,hN⟩:∃ N,m.length+d=N:=⟨_,rfl⟩;rw[hN] at hB;by_cases h0:y=ByteArray.empty
  ·have dx:y.toList.isEmpty=true:=by rw[h0,ByteArray.toList_eq];rfl
   have akF:Hid ((dO s1 k1 N).toArray.size=73):=rO _ _ _ A8.out;have hrg:=dZ hB;have hRe:=aU (o:=0) (n:=73) hR (by omega);have hy0:y.size=0:=by rw[h0];rfl
   clear h0;go_wp2_with (first | (refine wpList_load_mid rfl 116 _ rfl w.heap.size 0 rfl (dO s1 k1 N) _ hrg Tryz.underlying116 rfl ?hsz ?_) | (refine wpList_store_mid rfl 116 _ _ rfl (w.heap.size+1) 0 (dO s1 k1 N).toArray rfl rfl ?hAA ?yM ?hCC ?_) | fail)
   case hsz=>rw[rM,A8.out];exact Q9
   case hAA=>rw[rM,A8.out];exact hRe
   case yM=>rw[rM,A8.out];exact Q9
   case hCC=>exact Rf _ _ _
   have hL:=aW hR (dO s1 k1 N) (by rw[rM,A8.out,hRs]);have hBL:=below_setCells (g:=w.heap.size+1) (wW _) (dO s1 k1 N) 0 _ hBel;have hdx:d=x.size:=by
    have e:=congrArg List.length hy;rw[rX,aG,aG,hy0] at e;have:=hd;unfold Hid at this;omega
   exact bU (bF (P:=Tryz.prog) rfl _ _ (w.heap.size+1) 116 (dO s1 k1 N).toArray _ rfl hL Tryz.underlying116 rfl (by rw[akF.out];exact zy)) rfl ⟨s1,k1,by rw[<-hdx,hN],by rw[<-uo (l:=bl x) (i:=d) (by rw[aG];omega)];exact hST,hBL⟩
  ·have dx:y.toList.isEmpty=false:=by
    rw[ByteArray.toList_eq];cases e:y.data.toList with
    | nil=>exact absurd (ByteArray.ext (Array.ext' e)) h0
    | cons _ _=>rfl
   have hpos:Hid (0<y.size):=by
    unfold Hid;rcases Nat.eq_zero_or_pos y.size with e | e
    ·exact absurd (ByteArray.ext (by apply Array.eq_empty_of_size_eq_zero;exact e)) h0
    ·exact e
   have cn:=Xu hB A8.out;obtain⟨o,ho⟩:∃ o,N % 64=o:=⟨_,rfl⟩;have hoH:=zh ho;have hole:o<64:=by omega
   have o1:(N:Int) % 64=(o:Int):=by omega
   have o2:(0:Int)<=(o:Int):=by omega
   have o3:(o:Int)<=64:=by omega
   have o4:wrap64 (o:Int)=(o:Int):=by unfold wrap64;omega
   obtain⟨kk,hkk⟩:∃ kk,Nat.min y.size (64-o)=kk:=⟨_,rfl⟩;have SX:=zh hN;have hk1:kk<=y.size:=by rw[<-hkk];exact Nat.min_le_left _ _
   have hk2:o+kk<=64:=by
    have:kk<=64-o:=by rw[<-hkk];exact Nat.min_le_right _ _
    omega
   have hk3:0<kk:=by
    have:=hpos.out;rw[<-hkk];show 0<min y.size (64-o)
    omega
   have q1:(0:Int)<=(kk:Int):=by omega
   have q2:(kk:Int)<=(y.size:Int):=by omega
   have hkx:=zh (And.intro hk2 hk3);have hkk':=zh hkk;have afL:=zh hole;have XP:=zh hST;have hRH:=zh (And.intro hR hRs);have abX:=zh hBel;have hBH:=zh hB;have hNb:N+kk<18446744073709551616:=by
    have h1:=BR.out;have h2:=hy;unfold Hid at h2;have h3:=congrArg List.length h2;rw[rX,aG,aG] at h3;have h4:=hd;unfold Hid at h4;omega
   have q3:IntKind.u64.wrap (kk:Int)=(kk:Int):=DX kk (by omega);have q4:IntKind.u64.wrap ((N:Int)+(kk:Int))=((N+kk:Nat):Int):=DX (N+kk) hNb;have hd1:Hid (d+kk<=x.size):=by
    have h2:=hy;unfold Hid at h2;have h3:=congrArg List.length h2;rw[rX,aG,aG] at h3;have h4:=hd;unfold Hid at h4 ⊢;omega
   have hy1:Hid (bl (y.extract kk y.size)=(bl x).drop (d+kk)):=by
    have h2:=hy;unfold Hid at h2 ⊢;rw[jD _ _ hk1,h2,List.drop_drop]
   have hyt:Hid ((bl y).take kk=(bl y).take (64-o)):=by
    unfold Hid;have e:kk=min (bl y).length (64-o):=by rw[aG];exact hkk.symm
    rw[e,abU]
   have hms:Hid (Gg (Value.string (y.extract kk y.size))<Gg (Value.string y)):=by
    unfold Hid Gg;show(y.extract kk y.size).size<y.size
    rw[<-aG,jD _ _ hk1,rX,aG];omega
   by_cases hfull:o+kk=64
   ·have q5:wrap64 ((o:Int)+(kk:Int))=64:=N9 o kk 64 hfull (by decide);have Vb:=zh hfull;clear h0 hN ho hk1 hk2 hk3 hkk hole hST hR hRs hBel hB hNb hfull;go_wp2_with (first | (refine E5 rfl _ _ rfl w.heap.size o y s1 k1 N kk rfl rfl hBH.out A8.out afL.out hkk'.out ?_;intro W2 hB2 hG2 hF2;have cn2:=Xu hB2 (Cm k1 (bl y) A8.out hkx.out.1 hkk'.out (aG y));have fn2:=hB2.frozen 72;have aem:=zh hB2;have aen:=zh hG2;have aeo:=zh hF2;clear hB2 hG2 hF2 cn hBH) | fail);have hB3:=Q8 aem.out (Cm k1 (bl y) A8.out hkx.out.1 hkk'.out (aG y)) (N+kk);have hG3:=aZ aen.out (bC W2 w.heap.size 72 (.int .u64 ((N+kk:Nat):Int)));have Rh:=(aeo.out _ _ (aF _) abX.out).setCell (p:=⟨w.heap.size,72,none⟩) (aF _) (.int .u64 ((N+kk:Nat):Int));rw[Int.natCast_add] at hB3 hG3 Rh;generalize W2.setCell { block:=w.heap.size,off:=72 } (Value.int IntKind.u64 (↑N+ ↑kk))=W3 at *;have hlk2:=Cm k1 (bl y) A8.out hkx.out.1 hkk'.out (aG y);obtain⟨k2,hk2⟩:∃ k2,k1.take o++(bl y).take kk++k1.drop (o+kk)=k2:=⟨_,rfl⟩;rw[hk2] at hB3 hlk2;have v0:W3.cell? ⟨w.heap.size,0,none⟩=some (ah s1.a):=gX hB3 0 (by decide);have v1:W3.cell? ⟨w.heap.size,1,none⟩=some (ah s1.b):=gX hB3 1 (by decide);have v2:W3.cell? ⟨w.heap.size,2,none⟩=some (ah s1.c):=gX hB3 2 (by decide);have v3:W3.cell? ⟨w.heap.size,3,none⟩=some (ah s1.d):=gX hB3 3 (by decide);have v4:W3.cell? ⟨w.heap.size,4,none⟩=some (ah s1.e):=gX hB3 4 (by decide);have v5:W3.cell? ⟨w.heap.size,5,none⟩=some (ah s1.f):=gX hB3 5 (by decide);have v6:W3.cell? ⟨w.heap.size,6,none⟩=some (ah s1.g):=gX hB3 6 (by decide);have v7:W3.cell? ⟨w.heap.size,7,none⟩=some (ah s1.h):=gX hB3 7 (by decide);have HB3:=zh hB3;have abY:=zh Rh;have XM:=zh hG3;have HL2:=zh hlk2;have HK2:=zh hk2;clear hB3 Rh hG3 hlk2 hk2 aem aen aeo abX cn2 fn2;have hnb:=zh (World.new_ne W3 _ v0);obtain⟨S,hS⟩:∃ S,rH s1 k2=S:=⟨_,rfl⟩;have HC:Hid (Calls Tryz.prog 111 #[.agg #[ah s1.a,ah s1.b,ah s1.c,ah s1.d,ah s1.e,ah s1.f,ah s1.g,ah s1.h],.slice (some ⟨w.heap.size,8,none⟩) 64 64] W3.drew fun e w'=>e= .returned (.agg #[ah S.a,ah S.b,ah S.c,ah S.d,ah S.e,ah S.f,ah S.g,ah S.h])/\Below W3.drew.heap.size W3.drew w'):=by
     have h:=abP W3.drew s1 w.heap.size 8 64 k2 HL2.out (by decide) (Y2 HB3.out.drew) (lV.below hKH.out abY.out.drew);rw[hS] at h;exact h
    have HS:=zh hS;clear hS;refine bJ (S:=(fun w'=>w'.cell? ⟨w.heap.size,0,none⟩=some (ah s1.a)/\w'.cell? ⟨w.heap.size,1,none⟩=some (ah s1.b)/\w'.cell? ⟨w.heap.size,2,none⟩=some (ah s1.c)/\w'.cell? ⟨w.heap.size,3,none⟩=some (ah s1.d)/\w'.cell? ⟨w.heap.size,4,none⟩=some (ah s1.e)/\w'.cell? ⟨w.heap.size,5,none⟩=some (ah s1.f)/\w'.cell? ⟨w.heap.size,6,none⟩=some (ah s1.g)/\w'.cell? ⟨w.heap.size,7,none⟩=some (ah s1.h))) 6 (by kernel_rfl) ⟨v0,v1,v2,v3,v4,v5,v6,v7⟩ (fun zs=>?_);refine' tl 0 rfl zs ?_;refine' tl 1 rfl zs ?_;refine' tl 2 rfl zs ?_;refine' tl 3 rfl zs ?_;refine aN (rs:= [4]) (by kernel_rfl) (by simp) ?_;refine aI.cons rfl (fun K hK=>?_) aI.nil;go_simp;go_at_call 111;refine HC.out.mono ?_;rintro e w4 ⟨rfl,hB4⟩;have hb4:=HB3.out.drew.below hB4 HB3.out.lt;have i0:=hb4.frozen 0;have j0:w4.cell? ⟨w.heap.size,0,none⟩=some (ah s1.a):=gX hb4 0 (by decide);have i1:=hb4.frozen 1;have j1:w4.cell? ⟨w.heap.size,1,none⟩=some (ah s1.b):=gX hb4 1 (by decide);have i2:=hb4.frozen 2;have j2:w4.cell? ⟨w.heap.size,2,none⟩=some (ah s1.c):=gX hb4 2 (by decide);have i3:=hb4.frozen 3;have j3:w4.cell? ⟨w.heap.size,3,none⟩=some (ah s1.d):=gX hb4 3 (by decide);have i4:=hb4.frozen 4;have j4:w4.cell? ⟨w.heap.size,4,none⟩=some (ah s1.e):=gX hb4 4 (by decide);have i5:=hb4.frozen 5;have j5:w4.cell? ⟨w.heap.size,5,none⟩=some (ah s1.f):=gX hb4 5 (by decide);have i6:=hb4.frozen 6;have j6:w4.cell? ⟨w.heap.size,6,none⟩=some (ah s1.g):=gX hb4 6 (by decide);have i7:=hb4.frozen 7;have j7:w4.cell? ⟨w.heap.size,7,none⟩=some (ah s1.h):=gX hb4 7 (by decide);have Hb4:=zh hb4;have HB4:=zh (hB4);clear hb4 hB4;go_wp2_with fail;refine hK.out _ _ (⟨j0,j1,j2,j3,j4,j5,j6,j7⟩) (fun zs=>?_);clear hK K;try simp only[sA,gA]
    refine' tl 5 rfl zs ?_;refine aN (rs:= [6]) (by kernel_rfl) (by simp) ?_;refine aI.last rfl (fun K hK=>?_);go_simp;refine hK.out _ _ ?_;clear hK K;try simp only[sA,gA]
    refine bZ (by kernel_rfl) ?_ _;clear zs;have hb5:=abS Hb4.out HL2.out S;have hg5:W3.drew.grownBy (abR w4 w.heap.size S) (some w.heap.size):=aZ (Ad HB4.out (aF _) (some w.heap.size)) (Va w4 w.heap.size S);have afM:=U9 (g:=w.heap.size) S (aF _) (abY.out.drew.trans (HB4.out.mono abY.out.size));have F5:=(hRH.out.1.grown XM.out (by simp)).drew.grown hg5 (by simp);have hfin:=abW XP.out SX.out hoH.out rfl (by rw[aG];exact hd1) Vb.out;rw[<-hy,HK2.out,HS.out] at hfin;have hA5:Hid (abT w (abR w4 w.heap.size S) m (bl x) (d+kk)):=by
     refine⟨⟨S,k2,?_,hfin⟩,⟨_,F5,hRH.out.2⟩,afM⟩;rw[<-Nat.add_assoc,SX.out];exact hb5
    clear hb5 hg5 afM F5 hfin;go_wp2_with fail;exact⟨⟨d+kk,_,rfl,hd1,hy1,hA5⟩,hms⟩
   ·have q5:wrap64 ((o:Int)+(kk:Int))=((o+kk:Nat):Int):=N9 o kk (o+kk) rfl (Nat.lt_of_le_of_lt hkx.out.1 (by decide));have q6:((o:Int)+(kk:Int)==64)=false:=int_ne o kk hfull;have Vb:=zh hfull;clear h0 hN ho hk1 hk2 hk3 hkk hole hST hR hRs hBel hB hNb hfull;go_wp2_with (first | (refine E5 rfl _ _ rfl w.heap.size o y s1 k1 N kk rfl rfl hBH.out A8.out afL.out hkk'.out ?_;intro W2 hB2 hG2 hF2;have cn2:=Xu hB2 (Cm k1 (bl y) A8.out hkx.out.1 hkk'.out (aG y));have fn2:=hB2.frozen 72;have aem:=zh hB2;have aen:=zh hG2;have aeo:=zh hF2;clear hB2 hG2 hF2 cn hBH) | fail);have hB3:=Q8 aem.out (Cm k1 (bl y) A8.out hkx.out.1 hkk'.out (aG y)) (N+kk);have hG3:=aZ aen.out (bC W2 w.heap.size 72 (.int .u64 ((N+kk:Nat):Int)));have Rh:=(aeo.out _ _ (aF _) abX.out).setCell (p:=⟨w.heap.size,72,none⟩) (aF _) (.int .u64 ((N+kk:Nat):Int));have F5:=hRH.out.1.grown hG3 (by simp);have hfin:=abV XP.out SX.out hoH.out rfl (by rw[aG];exact hd1) hkx.out.1 Vb.out;rw[<-hy] at hfin;refine⟨⟨d+kk,_,rfl,hd1,hy1,⟨⟨s1,_,?_,hfin⟩,⟨_,F5,hRH.out.2⟩,Rh⟩⟩,hms⟩;rw[<-Nat.add_assoc,SX.out];exact hB3
end
theorem FQ:(Tryz.prog.info? 5).map (fun i=>(i.zero,i.size,i.bytes))=some (some (.int .u8 0),1,1):=by kernel_rfl
def dD (w:World) (base:Nat) (v:Value) (l:List UInt8):Prop:=w.ownsRow base 5 1 v l.length (l.map aK)
section
variable {w w':World} {base:Nat} {v:Value} {l:List UInt8}
theorem um (w:World) (base:Nat):dD w base (.slice none 0 0) []:=Ju w base _ 1
theorem dD.slice (h:dD w base v l) (hl:l≠ []):∃ g c,v= .slice (some ⟨g,0,none⟩) l.length c/\base<=g/\g<w.heap.size:=by
 rcases h.2 with⟨_,h0⟩ | ⟨g,cap,cur,hv,hb,hg,_⟩
 ·exact absurd (ZX h0) hl
 ·exact⟨g,cap,hv,hb,(Array.getElem?_eq_some_iff.1 hg).1⟩
theorem dD.any (h:dD w base v l):∃ A c,v= .slice A l.length c:=by
 rcases h.2 with⟨hv,h0⟩ | ⟨g,cap,cur,hv,_⟩
 ·exact⟨none,0,by rw[hv,h0]⟩
 ·exact⟨_,_,hv⟩
theorem dD.more {base':Nat} (h:dD w base v l) (hle:base'<=base):dD w base' v l:=by
 refine⟨h.1,?_⟩;rcases h.2 with h2 | ⟨g,cap,cur,hv,hg,r⟩
 ·exact .inl h2
 ·exact .inr ⟨g,cap,cur,hv,fU hle hg,r⟩
theorem dD.alloc (h:dD w base v l) (o:Obj):dD (w.alloc o) base v l:=World.ownsRow.alloc h o
theorem dD.drewN (h:dD w base v l) (n:Nat):dD (w.drewN n) base v l:=h
theorem dD.kept {row:Option Nat} (h:dD w base v l) (hg:w.grownBy w' row) (hne:v.ownBlock=none\/v.ownBlock≠row):dD w' base v l:=World.ownsRow.kept h hg hne
theorem dD.below (h:dD w base v l) (hB:Below w.heap.size w w'):dD w' base v l:=
 h.kept (Ad hB (aF _) none) (by
  cases e:v.ownBlock with
  | none=>exact .inl rfl
  | some k=>exact .inr (by simp))
theorem dD.cell {g n c:Nat} (h:dD w base (.slice (some ⟨g,0,none⟩) n c) l) (j:Nat) (x:UInt8) (hx:l[j]? =some x):w.cell? ⟨g,j,none⟩=some (aK x):=by
 have:=h.cells (g:=g) rfl j (aK x) (by rw[sD,hx];rfl);rw[show(⟨g,j,none⟩:Addr)=(⟨g,0,none⟩:Addr).add j by simp[Addr.add]];exact this
theorem dD.nN {g n c:Nat} (h:dD w base (.slice (some ⟨g,0,none⟩) n c) l):BytesAt w g 0 l:=
 ⟨(h.lt g rfl).2,fun i x hx=>by rw[AZ];exact h.cell i x hx⟩
theorem uj (w:World) (l:List UInt8) (hb:base<=w.heap.size) (hm:l.length<=maxLen):dD (w.alloc (.cells (l.map aK).toArray 5)) base (.slice (some ⟨w.heap.size,0,none⟩) l.length l.length) l:=by
 refine⟨by simp,.inr ⟨w.heap.size,l.length,_,rfl,hb,heap_alloc_new w _,aF _,hm,by simp,?_⟩⟩;rw[Nat.mul_one,uo (by simp)]
theorem jk (h:dD w base v l):(convert 66 9 v).run Tryz.prog w= .ok (.string ⟨l.toArray⟩) w:=by
 rcases h.2 with⟨hv,h0⟩ | ⟨g,cap,cur,hv,hb,hg,_⟩
 ·have e:=ZX h0;subst e hv;have hc:=run_convert_bytes_string (P:=Tryz.prog) w 66 9 5 none 0 0 Tryz.underlying66 Tryz.underlying5 Tryz.underlying9;rw[hc];rfl
 ·subst hv;exact run_convert_bytes_back (P:=Tryz.prog) w 66 9 5 ⟨g,0,none⟩ cap l Tryz.underlying66 Tryz.underlying5 Tryz.underlying9 (fun j hj=>by
   exact h.cells (g:=g) rfl j (aK l[j]) (by rw[sD,jB hj];rfl))
end
theorem wpList_append_run {P:Program} {w:World} {ops:Array Oper} {rest:List Oper} {o:Oper} {a:Act} {Q:Exit->Act->World->Prop} (hgd:o.guard=none) (d s:Operand) (dT sT:TypeId)
  (ho:o.op= .call { callee:= .builtin .append,args:= #[d,s],argTypes:= #[dT,sT] }) (x y:Value) (hd:a.eval d=x) (hs:a.eval s=y) {v':Value} {w':World}
  (hrun:(Builtin.append_ #[dT,sT] o.type #[x,y]).run P w= .ok v' w') (h:wpList P ops Q rest (a.put o.dst v') w'):wpList P ops Q (o::rest) a w:=by
 refine wpList_plain hgd fun K hK=>?_
 unfold Oper.wp;simp[execOp,ho,resolve,invoke,builtin,hd,hs,hrun,Result.andThen];exact hK _ _ h
structure Pushed (w w':World) (base:Nat) (v v':Value) (l:List UInt8):Prop where
 row:dD w' base v' l
 grown:w.grownBy w' v.ownBlock
 bel:∀ B w0,B<=base->base<=w.heap.size->Below B w0 w->Below B w0 w'
section
variable {w:World} {ops:Array Oper} {rest:List Oper} {o:Oper} {a:Act} {Q:Exit->Act->World->Prop}
theorem Dp {w':World} {base:Nat} {v v':Value} {l l':List UInt8} (hrow:dD w base v l) (h1:dD w' base v' l') (hg:w.grownBy w' v.ownBlock):Pushed w w' base v v' l':=
 ⟨h1,hg,fun _ _ hB hb h=>h.grown hg (fU hB hb) (fun k e=>fU hB (hrow.lt k e).1)⟩
theorem Ae (hgd:o.guard=none) (d s:Operand) (ho:o.op= .call { callee:= .builtin .append,args:= #[d,s],argTypes:= #[66,66] }) (base:Nat) (v:Value) (l:List UInt8) (hd:a.eval d=v) (hrow:dD w base v l)
  (g off c:Nat) (m:List UInt8) (hs:a.eval s= .slice (some ⟨g,off,none⟩) m.length c) (hm:BytesAt w g off m) (hlen:l.length+m.length<100000000000) (hb:base<=w.heap.size)
  (h:∀ v' w',Pushed w w' base v v' (l++m)->wpList Tryz.prog ops Q rest (a.put o.dst v') w'):wpList Tryz.prog ops Q (o::rest) a w:=by
 obtain⟨i0,hi,hz0,hz1,hz2⟩:=info_parts FQ;refine wpList_append_own w hgd d s 66 ho base 5 i0 (.int .u8 0) 1 1 Tryz.underlying66 hi hz0 hz1 hz2 rfl (by decide) v l.length (l.map aK) hd hrow ⟨g,off,none⟩ m.length c (m.map aK) hs (by simp) ?_ (kF _) (by unfold maxLen;omega) (by omega) hb ?_
 ·intro j u hj;rw[sD,Option.map_eq_some_iff] at hj;obtain⟨x,hx,rfl⟩:=hj;rw[show(⟨g,off,none⟩:Addr).add j=⟨g,off+j,none⟩ by simp[Addr.add]];exact hm.2 j x hx
 ·intro v' w' h1 h2 _;refine h v' w' (Dp hrow ?_ h2);unfold dD;rw[kM,Gh];exact h1
theorem mF {w0:World} (hgd:o.guard=none) (d s:Operand) (ho:o.op= .call { callee:= .builtin .append,args:= #[d,s],argTypes:= #[66,66] }) (base:Nat) (v:Value) (l:List UInt8) (hd:a.eval d=v) (hrow:dD w0 base v l)
  (c:Nat) (x:UInt8) {val:Value} (hval:val=aK x) (hs:a.eval s= .slice (some ⟨w0.heap.size,0,none⟩) 1 c) (hlen:l.length<99999999999) (hb:base<=w0.heap.size)
  (h:∀ v' w',Pushed w0 w' base v v' (l++ [x])->wpList Tryz.prog ops Q rest (a.put o.dst v') w'):wpList Tryz.prog ops Q (o::rest) a (w0.alloc (.cells #[val] 5)):=by
 subst hval;refine Ae hgd d s ho base v l hd (hrow.alloc _) w0.heap.size 0 c [x] hs (uj (base:=w0.heap.size) w0 [x] (aF _) (by simp[maxLen])).nN ?_ ?_ ?_
 ·rw[show[x].length=1 from rfl];omega
 ·rw[oz];omega
 ·intro v' w' hP;refine h v' w' ⟨hP.row,?_,fun B w1 hB hb2 hBel=>hP.bel B w1 hB (by rw[oz];omega) (hBel.alloc (fU hB hb2) _)⟩;exact aZ (Ad ((bK _ w0).alloc (aF _) _) (aF _) v.ownBlock) hP.grown
theorem ZY {w0:World} (hgd:o.guard=none) (d s:Operand) (ho:o.op= .call { callee:= .builtin .append,args:= #[d,s],argTypes:= #[66,66] }) (base:Nat) (v:Value) (l:List UInt8) (hd:a.eval d=v) (hrow:dD w0 base v l)
  (n c:Nat) (xs:List UInt8) {vals:Array Value} (hval:vals=(xs.map aK).toArray) (hn:xs.length=n) (hs:a.eval s= .slice (some ⟨w0.heap.size,0,none⟩) n c) (hlen:l.length+n<99999999999) (hb:base<=w0.heap.size)
  (h:∀ v' w',Pushed w0 w' base v v' (l++xs)->wpList Tryz.prog ops Q rest (a.put o.dst v') w'):wpList Tryz.prog ops Q (o::rest) a (w0.alloc (.cells vals 5)):=by
 subst hval hn;refine Ae hgd d s ho base v l hd (hrow.alloc _) w0.heap.size 0 c xs hs (uj (base:=w0.heap.size) w0 xs (aF _) (by unfold maxLen;omega)).nN ?_ ?_ ?_
 ·omega
 ·rw[oz];omega
 ·intro v' w' hP;refine h v' w' ⟨hP.row,?_,fun B w1 hB hb2 hBel=>hP.bel B w1 hB (by rw[oz];omega) (hBel.alloc (fU hB hb2) _)⟩;exact aZ (Ad ((bK _ w0).alloc (aF _) _) (aF _) v.ownBlock) hP.grown
theorem xk (hgd:o.guard=none) (d s:Operand) (ho:o.op= .call { callee:= .builtin .append,args:= #[d,s],argTypes:= #[66,9] }) (base:Nat) (v:Value) (l:List UInt8) (hd:a.eval d=v) (hrow:dD w base v l)
  (x:ByteArray) (hs:a.eval s= .string x) (hlen:l.length+x.size<100000000000) (hb:base<=w.heap.size)
  (h:∀ v' w',Pushed w w' base v v' (l++bl x)->wpList Tryz.prog ops Q rest (a.put o.dst v') w'):wpList Tryz.prog ops Q (o::rest) a w:=by
 obtain⟨i0,hi,hz0,hz1,hz2⟩:=info_parts FQ;obtain⟨v',w',hr,h1,h2,_⟩:=Lib.run_append_own_string (P:=Tryz.prog) w base 66 9 o.type 5 i0 Tryz.underlying66 Tryz.underlying9 hi hz0 hz1 hz2 v _ _ hrow x (by unfold maxLen;omega) (by omega) hb;refine wpList_append_run hgd d s _ _ ho _ _ hd hs hr (h v' w' (Dp hrow ?_ h2));unfold dD;rw[kM,Gh,aG];exact h1
end
def sF (w:World) (g:Nat) (t:TypeId) (L:List UInt8) (n i:Nat):Prop:=ak w g t ((L.take i++List.replicate (n-i) 0).map aK).toArray
theorem Gi {L:List UInt8} {n i:Nat} (hL:L.length=n) (hi:i<=n):((L.take i++List.replicate (n-i) 0).map aK).toArray.size=n:=by
 rw[mG,lq,kM,ou,FT];omega
theorem sF.aB {w:World} {g:Nat} {t:TypeId} {L:List UInt8} {n i:Nat} (h:sF w g t L n i) (hL:L.length=n) (hi:i<n) (x:UInt8) (hx:L[i]? =some x):sF (w.setCell ⟨g,i,none⟩ (aK x)) g t L n (i+1):=by
 have h1:=ak.aB h i (aK x);have e:((L.take i++List.replicate (n-i) 0).map aK).toArray.setIfInBounds i (aK x)=((L.take (i+1)++List.replicate (n-(i+1)) 0).map aK).toArray:=by
  have hl:((L.take i).map aK).length=i:=by rw[lq,ou];omega
  rw[List.setIfInBounds_toArray,Gh,List.set_append_right _ _ (Nat.le_of_eq hl),hl,Nat.sub_self,show n-i=(n-(i+1))+1 by omega,List.replicate_succ,List.map_cons,List.set_cons_zero,FD,hx,Gh,Gh,Em];rfl
 rw[e] at h1;exact h1
theorem sF.done {w:World} {g:Nat} {t:TypeId} {L:List UInt8} {n:Nat} (h:sF w g t L n n) (hL:L.length=n):ak w g t (L.map aK).toArray:=by
 unfold sF at h;rw[uo (Nat.le_of_eq hL),Nat.sub_self,List.replicate_zero,List.append_nil] at h;exact h
theorem Dq (w:World) (x:ByteArray):∃ c w',(convert 9 66 (.string x)).run Tryz.prog w= .ok (.slice (some ⟨w.heap.size,0,none⟩) x.size c) w'/\BytesAt w' w.heap.size 0 (bl x)/\Below w.heap.size w w'/\w'.heap.size=w.heap.size+1:=by
 refine⟨_,_,Lib.run_convert_string_bytes (P:=Tryz.prog) w 9 66 5 x Tryz.underlying9 Tryz.underlying66 Tryz.underlying5,⟨by rw[Lib.bytesWorld_size];omega,fun i y hy=>?_⟩,Lib.bytesWorld_below _ _ _,Lib.bytesWorld_size _ _ _⟩;have hi:i<x.size:=by
  rw[<-aG];exact(List.getElem?_eq_some_iff.1 hy).1
 rw[AZ,Lib.bytesWorld_cell w 5 x i hi,En];unfold bl at hy;rw[hy];rfl
section
attribute [local go_sem] Oper.semAt_some
def z32:Array Value:=Array.replicate 32 (.int .u8 0)
def pG (k:Nat):List UInt8:=128::List.replicate k 0
theorem zl (k:Nat):(pG k).length=k+1:=by unfold pG;rw[AY,FT]
theorem Hy (k:Nat):pG (k+1)=pG k++ [0]:=by unfold pG;rw[List.replicate_succ',List.cons_append]
theorem uy (w:World) (o:Obj) (t:TypeId) (cs:Array Value):ak ((w.alloc o).alloc (.cells cs t)) (w.heap.size+1) t cs:=by
 have bk:=ak.new (w.alloc o) t cs;rw[oz] at bk;exact bk
def rowLen:Value->Nat
 | .slice _ n _=>n
 | _=>0
theorem Y3 {w:World} {base:Nat} {v:Value} {j:Nat} (h:dD w base v (pG j)):∃ A c,v= .slice A (j+1) c:=by
 obtain⟨A,c,e⟩:=h.any;rw[zl] at e;exact⟨A,c,e⟩
theorem Vd {w:World} {base:Nat} {v:Value} {p:List UInt8} {q n i:Nat} (h:dD w base v (p++(zL q).take (i+1))) (hn:(p++(zL q).take i).length=n+i) (hi:i<8):∃ A c,v= .slice A (n+(i+1)) c:=by
 obtain⟨A,c,e⟩:=h.any;rw[kM,ou,uT] at e hn;exact⟨A,c,by rw[e];congr 1;omega⟩
theorem jM:(Tryz.prog.info? 109).map (·.size)=some 32:=by kernel_rfl
theorem zn:∃ a,Tryz.prog.info? 109=some a/\a.size=32:=Option.map_eq_some_iff.1 jM
theorem LK (s:S8) (t:Nat) (h:t<32):(digest s)[t]? =some (UInt8.ofNat ((s.get (t/4)).toNat/2^(24-8*(t % 4)))):=by
 unfold digest;rw[sD,List.getElem?_range h];rfl
theorem Ia (n k:Nat):Value.int IntKind.u8 ((n:Int)/2^k % 256)=aK (UInt8.ofNat (n/2^k)):=by
 unfold aK;rw[<-byte_of (n/2^k),Int.natCast_ediv,Int.natCast_pow];rfl
structure ahc (w0 wr:World) (g:Nat) (s:S8) (k:List UInt8) (N:Nat):Prop where
 st:ak wr g 116 (dO s k N).toArray
 res:∃ cs,ak wr (g+1) 109 cs/\cs.size=32
 bel:Below w0.heap.size w0 wr
theorem Lh (w:World) (m:List UInt8) (s:S8) (k:List UInt8) (hS:jL iv m s k) (hK:lV w 1) (hlen:m.length<100000000000):
  Calls Tryz.prog 78 #[.agg (dO s k m.length).toArray] w fun e w'=>e= .returned (.agg ((gU m).map aK).toArray)/\Below w.heap.size w w':=by
 obtain⟨N,hN⟩:∃ N,m.length=N:=⟨_,rfl⟩;rw[hN] at hlen ⊢;have q0:IntKind.u64.wrap (8*(N:Int))=((8*N:Nat):Int):=DX (8*N) (by omega);go_enter Tryz.func78,Tryz.ntmps78;go_upto_region 1 with fail;refine aX (P:=fun W=>Code.wp _ _ _ _ W) (fun W2 hW2=>?_);have hA:Hid (ahc w W2 w.heap.size s k N):=by
  have b1:=(bK _ w).alloc (aF _) (Obj.cells (dO s k N).toArray 116);have hres:∃ cs,ak W2 (w.heap.size+1) 109 cs/\cs.size=32:=by rw[<-hW2];exact⟨z32,uy _ _ _ _,rfl⟩
  refine⟨?_,hres,?_⟩
  ·rw[<-hW2];exact(ak.new w _ _).alloc _
  ·rw[<-hW2];exact b1.alloc b1.size _
 have hsz:W2.heap.size=w.heap.size+2:=by rw[<-hW2];simp
 clear hW2;have cn:=Xu hA.out.st (n:=N) hS.len;have hrow:=uj (base:=W2.heap.size) W2 [128] (aF _) (by decide);go_wp2_with fail;have BR:=zh hlen;have XP:=zh hS;have hKH:=zh hK;have SX:=zh hN;have akH:=zh hsz;rw[hsz] at hrow;have hR0:Hid (dD (W2.alloc (Obj.cells #[Value.int IntKind.u8 128] 5)) (w.heap.size+2) (.slice (some ⟨w.heap.size+2,0,none⟩) (0+1) 1) (pG 0)):=hrow;have hB0:Hid (Below (w.heap.size+2) W2 (W2.alloc (Obj.cells #[Value.int IntKind.u8 128] 5))):=(bK _ W2).alloc (Nat.le_of_eq hsz.symm) _;clear hlen hS hK hN hrow;go_loopw [4] (fun v wr=>∃ j A c,v= .slice A (j+1) c/\Hid (j<=dP N)/\Hid (dD wr (w.heap.size+2) v (pG j))/\Hid (Below (w.heap.size+2) W2 wr)) (fun v _=>70-rowLen v)
 case atStart=>exact⟨0,_,_,rfl,iT _,hR0,hB0⟩
 case round=>
  clear hR0 hB0;obtain⟨j,A,c,rfl,hj,hR,hB⟩:=hrel;have cn1:wr.cell? ⟨w.heap.size,72,none⟩=some (.int .u64 (N:Int)):=by rw[hB.out.cell (p:=⟨w.heap.size,72,none⟩) (by show w.heap.size<w.heap.size+2;omega)];exact cn
  have q1:wrap64 (N:Int)=(N:Int):=pR N (by have:=BR.out;omega);obtain⟨T,hT⟩:∃ T,N+(j+1)=T:=⟨_,rfl⟩;have hz:j<=63:=fU hj (by unfold dP;omega);have q2:wrap64 ((N:Int)+((j:Int)+1))=(T:Int):=N9 N (j+1) T hT (by have:=BR.out;omega);obtain⟨r,hr⟩:∃ r,T % 64=r:=⟨_,rfl⟩;have q3:(T:Int) % 64=(r:Int):=by omega
  by_cases hlt:j<dP N
  ·have q4:¬ r=56:=by
    have:=zV N j hlt;omega
   have q5:((r:Int)==56)=false:=by rw[FI];omega
   have fG:=zh hlt;have hsz2:=zh (fU (Nat.le_of_eq akH.out.symm) hB.out.size);clear hT hr hlt cn;have hln:(pG j).length<99999999999:=by rw[zl];omega
   go_wp2_with (at_builtin;refine mF rfl _ _ rfl (w.heap.size+2) _ (pG j) rfl hR.out 1 0 rfl rfl hln hsz2.out ?_;intro v' w' hP;rw[<-Hy] at hP;obtain⟨A2,c2,rfl⟩:=Y3 hP.row);have hB2:=hP.bel _ _ (aF _) hsz2.out hB.out;refine⟨⟨j+1,A2,c2,rfl,fG.out,hP.row,hB2⟩,?_⟩;show 70-(j+1+1)<70-(j+1)
   omega
  ·have q4:r=56:=by
    have:=wC N;have h2:j=dP N:=zap hj (Ep hlt);rw[h2] at hT;omega
   have q5:((r:Int)==56)=true:=by rw[q4];rfl
   have hjz:Hid (j=dP N):=zap hj (Ep hlt);clear hT hr cn hlt;go_wp2_with fail;have hR1:Hid (dD wr (w.heap.size+2) (Value.slice A (j+1) c) (pG (dP N)++(zL (8*N)).take 0)):=by
    have h:=hR.out;rw[hjz.out] at h ⊢;unfold Hid;rw[List.take_zero,List.append_nil];exact h
   have hB1:=hB;clear hR hB q1 q2 q3 q4 q5 cn1 hj hz;go_loopw [4,23] (fun p q wr=>∃ i A c,p= .slice A (j+1+i) c/\q= .int .i64 i/\Hid (i<=8)/\Hid (dD wr (w.heap.size+2) p (pG (dP N)++(zL (8*N)).take i))/\Hid (Below (w.heap.size+2) W2 wr)) (fun _ q _=>8-(intOf q).toNat)
   case atStart=>exact⟨0,A,c,rfl,rfl,iT _,hR1,hB1⟩
   case round=>
    clear hR1 hB1;obtain⟨i,A,c,rfl,rfl,hi,hR,hB⟩:=hrel;by_cases hlt:i<8
    ·have d1:decide (i<8)=true:=pW hlt;have d2:decide ((i:Int)<8)=true:=pW (by omega);have hv:=byte_of (8*N/2^(56-8*i));have hv2:Value.int IntKind.u8 (8*(N:Int)/2^(56-8*i) % 256)=aK (UInt8.ofNat (8*N/2^(56-8*i))):=by
      unfold aK;rw[<-hv,Int.natCast_ediv,Int.natCast_mul,Int.natCast_pow];rfl
     have hsn:=LH (8*N) i hlt;obtain⟨bx,hbx⟩:∃ bx,UInt8.ofNat (8*N/2^(56-8*i))=bx:=⟨_,rfl⟩;rw[hbx] at hv2 hsn;have anM:=zh hv2;have xu:=zh hsn;clear hv hv2 hsn hbx;have fG:=zh hlt;have hsz2:=zh (fU (Nat.le_of_eq akH.out.symm) hB.out.size);have hln:(pG (dP N)++(zL (8*N)).take i).length=j+1+i:=by rw[kM,zl,ou,uT,hjz.out];omega
     have agN:Hid ((pG (dP N)++(zL (8*N)).take i).length<99999999999):=by unfold Hid;rw[hln];have:=hjz.out;unfold dP at this;omega
     have anN:=zh hln;clear hln;go_wp2_with (at_builtin;refine mF rfl _ _ rfl (w.heap.size+2) _ (pG (dP N)++(zL (8*N)).take i) rfl hR.out 1 bx anM.out rfl agN.out hsz2.out ?_;intro v' w' hP;rw[Em,<-xu.out] at hP;obtain⟨A2,c2,rfl⟩:=Vd hP.row anN.out fG.out);have hB2:=hP.bel _ _ (aF _) hsz2.out hB.out;have hr2:=hP.row;refine⟨⟨i+1,A2,c2,rfl,by go_num,fG.out,hr2,hB2⟩,?_⟩;have:=fG.out;simp[intOf];omega
    ·have d1:decide (i<8)=false:=dF hlt;have d2:decide ((i:Int)<8)=false:=dF (by omega);have hrow:dD wr (w.heap.size+2) (.slice A (j+1+i) c) (uU N):=by
      have h:=hR.out;have h8:i=8:=zap hi (Ep hlt);have e:(zL (8*N)).take i=zL (8*N):=uo (by rw[uT,h8];exact aF _);rw[e] at h;unfold uU;rw[Nat.mod_eq_of_lt (by have:=BR.out;omega)];exact h
     have hcv:=jk hrow;obtain⟨P,hP⟩:∃ P:ByteArray,(⟨(uU N).toArray⟩:ByteArray)=P:=⟨_,rfl⟩;have hPb:bl P=uU N:=by rw[<-hP];unfold bl;rfl
     have hPs:P.size=dP N+9:=by rw[<-aG,hPb,BU]
     rw[hP] at hcv;have hst:=hA.out.st.below hB.out (by omega);have hBw:Below w.heap.size w wr:=hA.out.bel.trans (hB.out.mono (by omega));have abZ:=add_any wr m s k P XP.out (lV.below hKH.out hBw) (by rw[SX.out,hPs];have:=BR.out;unfold dP;omega);rw[SX.out,hPb] at abZ;have akI:=zh abZ;have hrg:=dZ hst;have hi1:Hid ((Tryz.prog.info? 116).map (·.size)=some (dO s k N).length):=by unfold Hid;rw[rM,XP.out.len];exact zy
     have TA:=zh hst;have akJ:=zh hBw;clear hlt hrow hP abZ hst hBw hPs;go_upto_region 11 with(first | (refine wpList_load_mid rfl 116 _ rfl w.heap.size 0 rfl (dO s k N) _ hrg Tryz.underlying116 rfl hi1.out ?_) | (go_at_call 77;refine akI.out.mono ?_;rintro e w3 ⟨s2,k2,rfl,hS2,hB3⟩) | (refine wpList_store_mid rfl 116 _ _ rfl w.heap.size 0 (dO s2 k2 (N+P.size)).toArray rfl rfl ?hAA ?yM ?hCC ?_) | fail)
     case hAA=>rw[rO _ _ _ hS2.len];exact aU (o:=0) (n:=73) (TA.out.below hB3 TA.out.lt) (by rw[rO _ _ _ XP.out.len];exact aF _)
     case yM=>rw[rO _ _ _ hS2.len];exact zy
     case hCC=>exact all_oneCell_toArray (Rf _ _ _)
     have hres:=hA.out.res;have JD:=aW (TA.out.below hB3 TA.out.lt) (dO s2 k2 (N+P.size)) (by rw[rM,hS2.len,rO _ _ _ XP.out.len]);have hg4:wr.grownBy (w3.setCells w.heap.size 0 (dO s2 k2 (N+P.size))) (some w.heap.size):=aZ (Ad hB3 (aF _) _) (kT w.heap.size _ 0 w3);have hB4:=below_setCells (g:=w.heap.size) (aF _) (dO s2 k2 (N+P.size)) 0 _ (akJ.out.trans (hB3.mono akJ.out.size));have akK:∃ cs,ak (w3.setCells w.heap.size 0 (dO s2 k2 (N+P.size))) (w.heap.size+1) 109 cs/\cs.size=32:=by
      obtain⟨cs,h1,h2⟩:=hA.out.res;exact⟨cs,(h1.below hB.out (by omega)).grown hg4 (by simp),h2⟩
     have hs2:Hid (s2=ad5 m):=J5 (by rw[SX.out];exact hS2);have hk2:=hS2.len;generalize w3.setCells w.heap.size 0 (dO s2 k2 (N+P.size))=W4 at *;try simp only[Act.put]
     clear hg4 hres hrg hcv hB3;go_upto_region 12 with fail;refine aX (P:=fun W=>Code.wp _ _ _ _ W) (fun W5 Dv=>?_);have hlt4:=JD.lt;obtain⟨rs,hr4,akL⟩:=akK;have hO5:Hid (sF W5 W4.heap.size 109 (digest s2) 32 0):=by unfold Hid;rw[<-Dv];exact ak.new W4 _ _
     have hst5:Hid (ak W5 w.heap.size 116 (dO s2 k2 (N+P.size)).toArray):=by unfold Hid;rw[<-Dv];exact JD.alloc _
     have F5:Hid (ak W5 (w.heap.size+1) 109 rs):=by unfold Hid;rw[<-Dv];exact hr4.alloc _
     have akM:=zh akL;have oZ:Hid (Below w.heap.size w W5):=by unfold Hid;rw[<-Dv];exact hB4.alloc hB4.size _
     have aep:=zh hr4.lt;have hlts:=zh hlt4;have hdl:=zh (rC s2);obtain⟨ob,hob⟩:∃ ob,W4.heap.size=ob:=⟨_,rfl⟩;unfold Hid at aep hlts;rw[hob] at hO5 aep hlts ⊢;have hne1:w.heap.size≠ob:=Nat.ne_of_lt hlts;have hne2:=zh (Nat.ne_of_lt aep);have hge:=zh (Nat.le_of_lt hlts);clear Dv JD hr4 hB4 hlt4 hob aep hlts akL;go_wp2_with fail;go_loopw [40] (fun q wr=>∃ t:Nat,q= .int .i64 t/\Hid (t<=32)/\Hid (sF wr ob 109 (digest s2) 32 t)/\Hid (ak wr w.heap.size 116 (dO s2 k2 (N+P.size)).toArray)/\Hid (ak wr (w.heap.size+1) 109 rs)/\Hid (Below w.heap.size w wr)) (fun q _=>32-(intOf q).toNat)
     case atStart=>exact⟨0,rfl,iT _,hO5,hst5,F5,oZ⟩
     case round=>
      clear hO5 hst5 F5 oZ;obtain⟨t,rfl,ht,hO,hst,hr,hB⟩:=hrel;by_cases hlt:t<32
      ·have d1:decide (t<32)=true:=pW hlt;have d2:decide ((t:Int)<32)=true:=pW (by omega);obtain⟨a,ha⟩:∃ a,t/4=a:=⟨_,rfl⟩;obtain⟨b,hb⟩:∃ b,t % 4=b:=⟨_,rfl⟩;have z1:(t:Int)/4=(a:Int):=by omega
       have z2:(t:Int) % 4=(b:Int):=by omega
       have z3:a<8:=by omega
       have z4:b<4:=by omega
       have z5:(a:Int)<8:=by omega
       have z6:(b:Int)<4:=by omega
       have cw:=gX hst.out a z3;have hfz:=ak.frozen hO.out t;obtain⟨oc,hoc⟩:∃ oc,wr.cell? ⟨ob,t,none⟩=some oc:=by
        have:=ak.cell hO.out t;rw[this];exact⟨_,ZO (by rw[Gi hdl.out ht];exact hlt)⟩
       have hx:=LK s2 t hlt;rw[ha,hb] at hx;have hv:=Ia (s2.get a).toNat (24-8*b);have hxH:=zh hx;have hvH:=zh hv;have fG:=zh hlt;clear hx hv ha hb;go_wp2_with fail;refine⟨⟨t+1,by go_num,fG.out,?_,?_,?_,?_⟩,?_⟩
       ·unfold Hid;rw[hvH.out];exact sF.aB hO.out hdl.out fG.out _ hxH.out
       ·exact ak.grown hst.out (bC _ _ _ _) (by simpa using hne1)
       ·exact ak.grown hr.out (bC _ _ _ _) (by simpa using hne2.out)
       ·exact Below.setCell (p:=⟨ob,t,none⟩) hB.out hge.out _
       ·have:=fG.out;simp[intOf];omega
      ·have d1:decide (t<32)=false:=dF hlt;have d2:decide ((t:Int)<32)=false:=dF (by omega);have e32:t=32:=zap ht (Ep hlt);have hO2:Hid (ak wr ob 109 ((digest s2).map aK).toArray):=by
        have h:=hO.out;rw[e32] at h;exact sF.done h hdl.out
       have hlD:Hid (((digest s2).map aK).length=32):=by unfold Hid;rw[lq];exact hdl.out
       have hoD:Hid (∀ v ∈ (digest s2).map aK,v.oneCell'=true):=kF _;have hfin:Hid ((gU m).map aK=(digest s2).map aK):=by unfold Hid gU;rw[hs2.out]
       generalize (digest s2).map aK=D at *;have agS:=dZ hO2.out;clear hO e32 hlt ht hst;go_wp2_with (first | (refine wpList_load_mid rfl 109 _ rfl ob 0 rfl D _ agS Tryz.underlying109 rfl ?hI1 ?_) | (refine wpList_store_mid rfl 109 _ _ rfl (w.heap.size+1) 0 D.toArray rfl rfl ?hI2 ?Dx ?SN ?_) | fail)
       case hI1=>rw[hlD.out];exact zn
       case hI2=>rw[hlD.out];exact aU (o:=0) hr.out (by rw[akM.out];exact aF _)
       case Dx=>rw[hlD.out];exact zn
       case SN=>exact hoD.out
       have hL:=aW hr.out D (by rw[hlD.out,akM.out]);have hBL:=below_setCells (g:=w.heap.size+1) (wW _) D 0 _ hB.out;rw[hfin.out];exact bU (bF (P:=Tryz.prog) rfl _ _ (w.heap.size+1) 109 D.toArray _ rfl hL Tryz.underlying109 rfl (by rw[mG,hlD.out];exact jM)) rfl ⟨rfl,hBL⟩
end
section
attribute [local go_sem] Oper.semAt_some
theorem mM {w:World} {g o c:Nat} {l:List UInt8} (h:BytesAt w g o l):(convert 66 9 (.slice (some ⟨g,o,none⟩) l.length c)).run Tryz.prog w= .ok (.string ⟨l.toArray⟩) w:=
 run_convert_bytes_back (P:=Tryz.prog) w 66 9 5 ⟨g,o,none⟩ c l Tryz.underlying66 Tryz.underlying5 Tryz.underlying9 (fun j hj=>by
  have:=h.2 j l[j] (jB hj);rw[show(⟨g,o,none⟩:Addr).add j=⟨g,o+j,none⟩ from Addr.add_mid g o j];exact this)
theorem Ri {w:World} {g o:Nat} {l:List UInt8} (h:BytesAt w g o l) {ob:Nat} (hne:g≠ob) (vs:List Value):BytesAt (w.setCells ob 0 vs) g o l:=by
 have hg:=kT ob vs 0 w;refine⟨rY h.1 hg.size,fun i x hx=>?_⟩;exact hg.cell (h.2 i x hx) (fun e=>hne (by cases e;rfl))
theorem sum_any (w:World) (bb bo c L:Nat) (b:List UInt8) (hL:b.length=L) (hb:BytesAt w bb bo b) (hK:lV w 1) (hlen:L<100000000000):
  Calls Tryz.prog 74 #[.slice (some ⟨bb,bo,none⟩) L c] w fun e w'=>e= .returned (.agg ((gU b).map aK).toArray)/\Below w.heap.size w w':=by
 go_enter Tryz.func74,Tryz.ntmps74;go_upto_region 1 with fail;refine aX (P:=fun W=>Code.wp _ _ _ _ W) (fun W1 hW1=>?_);have HB1:Hid (Below w.heap.size w W1):=by unfold Hid;rw[<-hW1];exact(bK _ w).alloc (aF _) _
 have HR:Hid (ak W1 w.heap.size 109 z32):=by unfold Hid;rw[<-hW1];exact ak.new w _ _
 clear hW1;obtain⟨X,hX⟩:∃ X:ByteArray,(⟨b.toArray⟩:ByteArray)=X:=⟨_,rfl⟩;have Gf:bl X=b:=by rw[<-hX];unfold bl;rfl
 have UE:X.size=L:=by rw[<-aG,Gf,hL]
 have hb1:=hb.below HB1.out;have hne:bb≠w.heap.size:=Nat.ne_of_lt hb.1;have CV:Hid (∀ wx,Below W1.heap.size W1 wx->(convert 66 9 (.slice (some ⟨bb,bo,none⟩) L c)).run Tryz.prog wx= .ok (.string X) wx):=fun wx hB=>by
  rw[<-hL,<-hX];exact mM (hb1.below hB)
 have CV2:Hid (∀ wx,Below W1.heap.size W1 wx->(convert 66 9 (.slice (some ⟨bb,bo,none⟩) L c)).run Tryz.prog (wx.setCells w.heap.size 0 ((gU b).map aK).toArray.toList)= .ok (.string X) (wx.setCells w.heap.size 0 ((gU b).map aK).toArray.toList)):=fun wx hB=>by
  rw[<-hL,<-hX];exact mM (Ri (hb1.below hB) hne _)
 have abZ:Hid (∀ wx,Below W1.heap.size W1 wx->Calls Tryz.prog 77 #[.agg (dO iv (List.replicate 64 0) 0).toArray,.string X] wx fun e w'=>∃ s2 k2,e= .returned (.agg (dO s2 k2 L).toArray)/\jL iv b s2 k2/\Below wx.heap.size wx w'):=fun wx hB=>by
  have h:=add_any wx [] iv (List.replicate 64 0) X (xX iv _ (FT ..)) ((lV.below hK HB1.out).below hB) (by rw[UE];simp;omega);rw[UE,Gf,GI,zag,AZ] at h;exact h
 have agT:Hid (∀ wx s2 k2,Below W1.heap.size W1 wx->jL iv b s2 k2->Calls Tryz.prog 78 #[.agg (dO s2 k2 L).toArray] wx fun e w'=>e= .returned (.agg ((gU b).map aK).toArray)/\Below wx.heap.size wx w'):=fun wx s2 k2 hB hS=>by
  have h:=Lh wx b s2 k2 hS ((lV.below hK HB1.out).below hB) (by rw[hL];exact hlen);rw[hL] at h;exact h
 have F7:Hid (((gU b).map aK).length=32):=by unfold Hid gU;rw[lq,rC]
 clear hX Gf UE hb1 hb hK hne;refine yD (S:=(fun w'=>(convert 66 9 (.slice (some ⟨bb,bo,none⟩) L c)).run Tryz.prog w'= .ok (.string X) w')) (by kernel_rfl) (CV.out _ (bK _ W1).drew) (fun zs=>?_);refine' tk 1 rfl zs ?_;refine' tk 2 rfl zs ?_;refine td 0 rfl (fun K hK=>?_);go_simp;go_at_call 76;refine(zk _).mono ?_;rintro e w2 ⟨rfl,hB2⟩;have HB2:=zh ((bK _ W1).drew.trans hB2);clear hB2;go_wp2_with fail;refine hK.out _ _ (CV.out _ HB2.out) (fun zs=>?_);clear hK K;try simp only[Act.put,zq]
 refine td 3 rfl (fun K hK=>?_);go_simp;go_at_call 77;refine(abZ.out _ (HB2.out)).mono ?_;rintro e w3 ⟨s2,k2,rfl,hS2,hB3⟩;have HB3:=zh (HB2.out.trans (hB3.mono HB2.out.size));have HS2:=zh hS2;clear hB3 hS2;go_wp2_with fail;refine hK.out _ _ (CV.out _ HB3.out) (fun zs=>?_);clear hK K;try simp only[Act.put,zq]
 refine td 4 rfl (fun K hK=>?_);go_simp;go_at_call 78;refine(agT.out _ s2 k2 HB3.out HS2.out).mono ?_;rintro e w4 ⟨rfl,hB4⟩;have HB4:=zh (HB3.out.trans (hB4.mono HB3.out.size));clear hB4;go_wp2_with fail;refine hK.out _ _ (CV.out _ HB4.out) (fun zs=>?_);clear hK K;try simp only[Act.put,zq]
 refine td 5 rfl (fun K hK=>?_);refine wp_store_mid 109 _ _ rfl w.heap.size 0 ((gU b).map aK).toArray rfl rfl ?ht1 ?ht2 ?ht3 ?ht4
 case ht1=>exact aU (o:=0) (HR.out.below HB4.out HR.out.lt) (by rw[mG,F7.out];exact aF _)
 case ht2=>rw[mG,F7.out];exact jM
 case ht3=>exact all_oneCell_toArray (kF _)
 case ht4=>
 refine hK.out _ _ (CV2.out _ HB4.out) (fun zs=>?_);clear hK K;try simp only[Act.put,zq]
 refine wZ (by kernel_rfl) ?_ _;clear zs;have hL2:=aW (HR.out.below HB4.out HR.out.lt) ((gU b).map aK) (by rw[F7.out];rfl);have hBL:=below_setCells (g:=w.heap.size) (aF _) ((gU b).map aK) 0 _ (HB1.out.trans (HB4.out.mono HB1.out.size));go_wp2_with fail;exact bU (bF (P:=Tryz.prog) rfl _ _ w.heap.size 109 ((gU b).map aK).toArray _ rfl hL2 Tryz.underlying109 rfl (by rw[mG,F7.out];exact jM)) rfl ⟨rfl,hBL⟩
end
attribute [local go_sem] Oper.semAt_some
def pK (x y:UInt8):UInt8:=x^^^y
theorem lu (x y:UInt8):bits .xor .u8 (x.toNat:Int) (y.toNat:Int)=((pK x y).toNat:Int):=by
 unfold pK;rw[UInt8.toNat_xor];exact u8_xor_nat _ _ x.toNat_lt y.toNat_lt
def DU:List Value:=List.replicate 64 (.int .u8 0)
def xU (k:List UInt8):List UInt8:=k++List.replicate (64-k.length) 0
theorem Le (k:List UInt8) (h:k.length<=64):(xU k).length=64:=by unfold xU;rw[kM,FT];omega
def nK (k:List UInt8) (c:UInt8):List UInt8:=(xU k).map fun x=>pK x c
def tV (w:World) (g:Nat) (t:TypeId) (L1 L2:List UInt8) (i:Nat):Prop:=ak w g t ((L1.take i++L2.drop i).map aK).toArray
theorem tV.aB {w:World} {g:Nat} {t:TypeId} {L1 L2:List UInt8} {i:Nat} (h:tV w g t L1 L2 i) (hl:L1.length=L2.length) (x:UInt8) (hx:L1[i]? =some x):tV (w.setCell ⟨g,i,none⟩ (aK x)) g t L1 L2 (i+1):=by
 have hi:i<L1.length:=(List.getElem?_eq_some_iff.1 hx).1;have h1:=ak.aB h i (aK x);have e:((L1.take i++L2.drop i).map aK).toArray.setIfInBounds i (aK x)=((L1.take (i+1)++L2.drop (i+1)).map aK).toArray:=by
  have hl2:((L1.take i).map aK).length=i:=by rw[lq,ou];omega
  rw[List.setIfInBounds_toArray,Gh,List.set_append_right _ _ (Nat.le_of_eq hl2),hl2,Nat.sub_self,List.drop_eq_getElem_cons (by omega:i<L2.length),List.map_cons,List.set_cons_zero,FD,hx,Gh,Gh,Em];rfl
 rw[e] at h1;exact h1
theorem tV.cell {w:World} {g:Nat} {t:TypeId} {L1 L2:List UInt8} {i:Nat} (h:tV w g t L1 L2 i) (hl:L1.length=L2.length) (x:UInt8) (hx:L2[i]? =some x):w.cell? ⟨g,i,none⟩=some (aK x):=by
 have hi:i<L2.length:=(List.getElem?_eq_some_iff.1 hx).1;rw[ak.cell h,Ti,sD,ZP (by rw[ou];omega),ou,Gm (by omega),Nat.sub_self,Nc,Nat.add_zero,hx];rfl
theorem tV.done {w:World} {g:Nat} {t:TypeId} {L1 L2:List UInt8} {n:Nat} (h:tV w g t L1 L2 n) (h1:L1.length=n) (h2:L2.length=n):ak w g t (L1.map aK).toArray:=by
 unfold tV at h;rw[uo (Nat.le_of_eq h1),List.drop_of_length_le (Nat.le_of_eq h2),List.append_nil] at h;exact h
theorem zi {w:World} {g:Nat} {t:TypeId} {L:List UInt8} (h:ak w g t (L.map aK).toArray):BytesAt w g 0 L:=
 ⟨h.lt,fun i x hx=>by rw[AZ,h.cell,Ti,sD,hx];rfl⟩
theorem NH {P:Program} {op:Oper} {a:Act} {w:World} {K:Act->World->Prop} {Q:Exit->Act->World->Prop} {d s:Operand} (dT sT:TypeId)
  (ho:op.op= .call { callee:= .builtin .copy,args:= #[d,s],argTypes:= #[dT,sT] }) (elem:TypeId) (size:Nat) (hu:P.underlying dT=some (.slice elem)) (hsz:(P.info? elem).map (·.size)=some size)
  (g off dLen dCap:Nat) (b:ByteArray) (hd:a.eval d= .slice (some ⟨g,off,none⟩) dLen dCap) (hs:a.eval s= .string b)
  (cur:Array Value) (t:TypeId) (cs:List Value) (hcs:List.take (Nat.min b.size dLen) (List.map (fun b:UInt8=>Value.int .u8 (b.toNat:Int)) b.data.toList)=cs) (hg:w.heap[g]? =some (.cells cur t (0,0)))
  (hfit:off+cs.length<=cur.size) (h1:∀ v ∈ cs,v.oneCell'=true)
  (h:K (a.put op.dst (goInt (Nat.min b.size dLen))) (w.setRow g (cur.toList.take off++cs++cur.toList.drop (off+cs.length)).toArray)):op.wp P a w K Q:=by
 have hrun:=zS (P:=P) w dT sT op.type elem size g off dLen dCap b cur t cs hu hsz hcs hg hfit h1;unfold Oper.wp;simp[execOp,ho,resolve,invoke,builtin,hd,hs,hrun,Result.andThen];simp at h;exact h
theorem aa0 {w:World} {x:ByteArray} {kb g:Nat} {cs:Array Value} (h:w.cell? ⟨kb,0,none⟩=some (.string x)) (hne:kb≠g):(w.setRow g cs).cell? ⟨kb,0,none⟩=some (.string x):=by
 rw[cell_setRow_other _ _ _ _ hne];exact h
theorem Qj (w:World) (kb:Nat) (x:ByteArray) (c:UInt8) (hx:x.size<=64) (hk:w.cell? ⟨kb,0,none⟩=some (.string x)) (hkl:kb<w.heap.size):
  Calls Tryz.prog 75 #[.int .u8 (c.toNat:Int),.pointer (some ⟨kb,0,none⟩)] w fun e w'=>e= .returned (.string ⟨(nK (bl x) c).toArray⟩)/\Below w.heap.size w w':=by
 go_enter Tryz.func75,Tryz.ntmps75;go_upto_region 2 with fail;refine aX (P:=fun W=>Code.wp _ _ _ _ W) (fun W1 hW1=>?_);have NI:Hid (Below w.heap.size w W1):=by unfold Hid;rw[<-hW1];exact(bK _ w).alloc (aF _) _
 have HB:Hid (ak W1 w.heap.size 111 DU.toArray):=by unfold Hid;rw[<-hW1];exact ak.new w _ _
 have Hk:Hid (W1.cell? ⟨kb,0,none⟩=some (.string x)):=by unfold Hid;rw[NI.out.cell (p:=⟨kb,0,none⟩) hkl];exact hk
 have hkb:kb≠w.heap.size:=Nat.ne_of_lt hkl;clear hW1 hk hkl;refine yD (S:=(fun w'=>w'.cell? ⟨kb,0,none⟩=some (.string x))) (by kernel_rfl) Hk.out (fun zs=>?_);refine' tk 0 rfl zs ?_;refine' tk 1 rfl zs ?_;refine td 2 rfl (fun K hK=>?_);refine NH _ _ rfl 5 1 Tryz.underlying66 tK w.heap.size 0 64 64 x rfl rfl DU.toArray 111 ((bl x).map aK) ?hc1 (HB.out.drew) ?hc2 (kF _) ?hc3
 case hc1=>rw[uo (by rw[lq];show(bl x).length<=min x.size 64;rw[aG];omega)];rfl
 case hc2=>rw[lq,aG];show 0+x.size<=64;omega
 case hc3=>
 refine hK.out _ _ (aa0 Hk.out hkb) (fun zs=>?_);clear hK K;try simp only[sA,gA]
 refine wZ (by kernel_rfl) ?_ _;clear zs;have HB2:Hid (tV (W1.drew.setRow w.heap.size (List.take 0 DU++List.map aK (bl x)++List.drop (0+(List.map aK (bl x)).length) DU).toArray) w.heap.size 111 (nK (bl x) c) (xU (bl x)) 0):=by
  have h:=setRow_heap W1.drew w.heap.size _ (List.take 0 DU++List.map aK (bl x)++List.drop (0+(List.map aK (bl x)).length) DU).toArray _ _ HB.out.drew;have e:List.take 0 DU++List.map aK (bl x)++List.drop (0+(List.map aK (bl x)).length) DU=((nK (bl x) c).take 0++(xU (bl x)).drop 0).map aK:=by
   unfold xU DU;rw[List.take_zero,List.take_zero,List.drop_zero,GI,GI,AZ,lq,List.drop_replicate,Gh,List.map_replicate];rfl
  rw[e] at h ⊢;exact h
 have G7:Hid (Below w.heap.size w (W1.drew.setRow w.heap.size (List.take 0 DU++List.map aK (bl x)++List.drop (0+(List.map aK (bl x)).length) DU).toArray)):=below_setRow NI.out.drew (aF _) _;generalize W1.drew.setRow w.heap.size (List.take 0 DU++List.map aK (bl x)++List.drop (0+(List.map aK (bl x)).length) DU).toArray=W2 at *;have hl2:Hid ((xU (bl x)).length=64):=Le _ (by rw[aG];exact hx);have hl1:Hid ((nK (bl x) c).length=64):=by unfold Hid nK;rw[lq];exact hl2.out
 have hat:Hid (∀ i y,(xU (bl x))[i]? =some y->(nK (bl x) c)[i]? =some (pK y c)):=fun i y h=>by unfold nK;rw[sD,h];rfl
 generalize hL1:nK (bl x) c=L1 at *;have agd:=zh hL1;clear hL1;generalize xU (bl x)=L2 at *;clear HB NI Hk hx;go_wp2_with fail;go_loopw [9] (fun q wr=>∃ t:Nat,q= .int .i64 t/\Hid (t<=64)/\Hid (tV wr w.heap.size 111 L1 L2 t)/\Hid (Below w.heap.size w wr)) (fun q _=>64-(intOf q).toNat)
 case atStart=>exact⟨0,rfl,iT _,HB2,G7⟩
 case round=>
  clear HB2 G7;obtain⟨t,rfl,ht,hT,hB⟩:=hrel;by_cases hlt:t<64
  ·have d1:decide (t<64)=true:=pW hlt;have d2:decide ((t:Int)<64)=true:=pW (by omega);obtain⟨y,hy⟩:∃ y,L2[t]? =some y:=⟨_,jB (by rw[hl2.out];exact hlt)⟩;have cy:wr.cell? ⟨w.heap.size,t,none⟩=some (.int .u8 (y.toNat:Int)):=hT.out.cell (by rw[hl1.out,hl2.out]) y hy;have fy:=ak.frozen hT.out t;have hxy:=lu y c;have hT2:=zh (hT.out.aB (by rw[hl1.out,hl2.out]) (pK y c) (hat.out t y hy));have hB2:=zh (hB.out.setCell (p:=⟨w.heap.size,t,none⟩) (aF _) (aK (pK y c)));have fG:=zh hlt;clear hy;go_wp2_with fail;refine⟨⟨t+1,by go_num,fG.out,hT2,hB2⟩,?_⟩;have:=fG.out;simp[intOf];omega
  ·have d1:decide (t<64)=false:=dF hlt;have d2:decide ((t:Int)<64)=false:=dF (by omega);have e64:t=64:=zap ht (Ep hlt);have hcv:(convert 66 9 (.slice (some ⟨w.heap.size,0,none⟩) 64 64)).run Tryz.prog wr= .ok (.string ⟨L1.toArray⟩) wr:=by
    have h:=hT.out;rw[e64] at h;have h2:=mM (c:=64) (zi (h.done hl1.out hl2.out));rw[hl1.out] at h2;exact h2
   clear e64 hlt;go_wp2_with fail;go_ret;exact⟨by rw[agd.out];rfl,hB.out⟩
end Go.Proofs.YtpghocekofdpbaaGreatDoor
