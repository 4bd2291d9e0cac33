import Derived.Test.YtpghocekofdpbaaGreatDoorQr06
import Derived.Test.YtpghocekofdpbaaGreatDoorQr07
set_option maxRecDepth 100000
set_option maxHeartbeats 4000000
namespace Go.Proofs.YtpghocekofdpbaaGreatDoor
section
open Go.RowKit Go.Shelf
attribute [local go_sem] Oper.semAt_some
def zeros:ByteArray:=⟨(List.replicate 64 (0:UInt8)).toArray⟩
theorem Gn:zeros.size=64:=by decide
def Sec.blank:Sec:=⟨zeros,zeros,⟨#[]⟩,false,false⟩
theorem aJ {w:World} {base:Nat} {e:TypeId} {size:Nat} {v:Value} {n:Nat} {xs:List Value} (h:w.ownsRow base e size v n xs):∃ A c,v= .slice A n c:=by
 rcases h.2 with⟨rfl,rfl⟩ | ⟨g,cap,_,rfl,_⟩
 ·exact⟨none,0,rfl⟩
 ·exact⟨_,_,rfl⟩
theorem mul_one (w:World) (n:Nat) (h:n<=4096):Calls Tryz.prog 129 #[.int .u64 1,.int .u64 n] w fun e w'=>e= .returned (.tuple #[.int .u64 0,.int .u64 n])/\w=w':=by
 refine(Tryz.bits_Mul 1 n (by omega) (by omega) w).mono ?_;rintro e w' ⟨rfl,rfl⟩;refine⟨?_,rfl⟩;rw[Nat.one_mul,Nat.div_eq_of_lt (by omega),Nat.mod_eq_of_lt (by omega)];rfl
theorem O6:(Tryz.prog.info? 139).map (·.size)=some 5:=by kernel_rfl
def Row (w:World) (g n k:Nat) (s:Sec):Prop:=∃ cur,ak w g 139 cur/\cur.size=n*5/\cur.toList.take (k*5)=cO (List.replicate k s)
theorem Ky {wr:World} {g n k m dCap sLen sCap:Nat} {s:Sec} {ad:Addr} (h:Row wr g n k s) (hm:Nat.min sLen (n-k)=m) (hkm:k+m<=n)
  (hsrc:∀ j u,(cO (List.replicate m s))[j]? =some u->wr.cell? (ad.add j)=some u):
  ∃ w2,(Builtin.copy_ #[135,135] 3 #[.slice (some ⟨g,k*5,none⟩) (n-k) dCap,.slice (some ad) sLen sCap]).run Tryz.prog wr= .ok (.int .i64 m) w2/\Row w2 g n (k+m) s/\∀ B w0,Below B w0 wr->B<=g->Below B w0 w2:=by
 obtain⟨cur,hb,hsz,ht⟩:=h;have hl:(cO (List.replicate m s)).length=m*5:=by rw[jS,FT]
 have hr:=JE (P:=Tryz.prog) wr 135 135 3 139 5 g (k*5) (n-k) dCap ad sLen sCap cur 139 (cO (List.replicate m s)) Tryz.underlying135 O6 hb (by rw[hl,hm]) hsrc (by rw[hl,hsz];omega) (Nh _);rw[hm] at hr;refine⟨_,hr,⟨_,setRow_heap wr g _ _ _ _ hb,?_,?_⟩,fun B w0 hB hg=>below_setRow hB hg _⟩
 ·have:cur.toList.length=n*5:=by simpa using hsz
  simp[hl];omega
 ·rw[show(cur.toList.take (k*5)++cO (List.replicate m s)++cur.toList.drop (k*5+(cO (List.replicate m s)).length)).toArray.toList=cur.toList.take (k*5)++cO (List.replicate m s)++cur.toList.drop (k*5+(cO (List.replicate m s)).length) from rfl,ht,<-vF,List.replicate_append_replicate];rw[List.take_append_of_le_length (by rw[jS,FT];omega),uo (by rw[jS,FT];omega)]
theorem Nj (w:World) (gb cap n:Nat) (s:Sec) (h1:1<=n) (h2:n<=4096) (_hc:1<=cap) (_hcm:cap<=4096) (hb:gb<w.heap.size) (hs:∀ j u,(jo s)[j]? =some u->w.cell? ⟨gb,j,none⟩=some u):
  Calls Tryz.prog 115 #[.slice (some ⟨gb,0,none⟩) 1 cap,.int .i64 n] w fun e w'=>∃ g,e= .returned (.slice (some ⟨g,0,none⟩) n n)/\w'.ownsRow w.heap.size 139 5 (.slice (some ⟨g,0,none⟩) n n) n (cO (List.replicate n s))/\Below w.heap.size w w':=by
 obtain⟨i0,hi,hz0,hz1,hz2⟩:=info_parts adz;have Hs:=zh hs;have aiO:=zh (mul_one w n h2);have e1:IntKind.u64.wrap (n:Int)=n:=by unfold IntKind.wrap;simp[IntKind.signed,IntKind.bits];omega
 clear hs;obtain⟨w1,hmk,hr1,hg1⟩:=run_make_full (P:=Tryz.prog) w w.heap.size 135 139 i0 _ 5 Tryz.underlying135 hi hz0 hz1 .i64 .i64 n (by rw[hz2];omega) (by unfold maxLen;omega) (aF _);obtain⟨cur,hbk,hcs⟩:∃ cur,ak w1 w.heap.size 139 cur/\cur.size=n*5:=by
  rcases hr1.2 with⟨_,h0⟩ | ⟨g,cap',cur,e,_,hb,_,_,hsz,_⟩
  ·omega
  ·cases e;exact⟨cur,hb,hsz⟩
 have hB1:Below w.heap.size w w1:=below_grown hg1;clear hr1 hg1;have hs1:∀ j u,(cO (List.replicate 1 s))[j]? =some u->w1.cell? ((⟨gb,0,none⟩:Addr).add j)=some u:=by
  intro j u hu;have e:(⟨gb,0,none⟩:Addr).add j=⟨gb,j,none⟩:=by simp[Addr.add];intro e;exact e.symm
  rw[e];exact(hB1.cell (p:=⟨gb,j,none⟩) hb).trans (Hs.out j u (by simpa [cO] using hu))
 obtain⟨w2,hcp,hrow,hB2⟩:=Ky (wr:=w1) (g:=w.heap.size) (n:=n) (k:=0) (m:=1) (dCap:=n) (sLen:=1) (sCap:=cap) (ad:=⟨gb,0,none⟩) ⟨cur,hbk,hcs,by simp[cO]⟩ (Gm (by omega)) (by omega) hs1;have hB2':=hB2 _ _ hB1 (aF _);rw[Nat.zero_mul,Nat.sub_zero] at hcp;rw[AZ] at hrow;clear hs1 hbk hcs hB2;go_enter Tryz.func115,Tryz.ntmps115;go_wp2_with (go_at_call 129;refine aiO.out.mono ?_;rintro e w' ⟨rfl,rfl⟩);go_loopw [8] (fun a wr=>∃ k:Nat,1<=k/\k<=n/\a= .int .i64 k/\Row wr w.heap.size n k s/\Below w.heap.size w wr) (fun a _=>n-(intOf a).toNat)
 case atStart=>exact⟨1,aF _,h1,rfl,hrow,hB2'⟩
 case round=>
  obtain⟨k,hk1,hk,rfl,hR,hB⟩:=hrel;clear hmk hcp hrow hB2' hB1 aiO;by_cases hkl:k<n
  ·have hsl1:∀ wx,(Instr.slice 135 (.slice (some ⟨w.heap.size,0,none⟩) n n) (some (.int .i64 k)) none none).run Tryz.prog wx= .ok (.slice (some ⟨w.heap.size,k*5,none⟩) (n-k) (n-k)) wx:=by
    intro wx;have e2:¬ n=k:=by omega
    simp[go_sem,e2];omega
   have hsl2:∀ wx,(Instr.slice 135 (.slice (some ⟨w.heap.size,0,none⟩) n n) none (some (.int .i64 k)) none).run Tryz.prog wx= .ok (.slice (some ⟨w.heap.size,0,none⟩) k n) wx:=by
    intro wx;have e2:¬ n=k:=by omega
    simp[go_sem];omega
   obtain⟨m,hm⟩:∃ m,Nat.min k (n-k)=m:=⟨_,rfl⟩;have hm1:1<=m:=by have:Nat.min k (n-k)=min k (n-k):=rfl;omega
   have hm2:k+m<=n:=by have:Nat.min k (n-k)=min k (n-k):=rfl;omega
   have hm3:m<=k:=by have:Nat.min k (n-k)=min k (n-k):=rfl;omega
   have hR2:Row wr.drew w.heap.size n k s:=hR;obtain⟨w3,hcp,hrow,hB3⟩:=Ky (wr:=wr.drew) (dCap:=n-k) (sLen:=k) (sCap:=n) (ad:=⟨w.heap.size,0,none⟩) hR2 hm hm2 (fun j u hu=>by
    obtain⟨cur,hb,hsz,ht⟩:=hR2;have hj:=(List.getElem?_eq_some_iff.1 hu).1;rw[jS,FT] at hj;have e:(⟨w.heap.size,0,none⟩:Addr).add j=⟨w.heap.size,j,none⟩:=by simp[Addr.add];intro e;exact e.symm
    rw[e,hb.cell,<-hu,<-Array.getElem?_toList,<-List.getElem?_take_of_lt (show j<k*5 by omega),ht];obtain⟨d,rfl⟩:∃ d,k=m+d:=⟨k-m,by omega⟩;rw[<-List.replicate_append_replicate,vF,List.getElem?_append_left (by rw[jS,FT];exact hj)])
   have hB4:=hB3 _ _ hB.drew (aF _);clear hR hR2 hB3 hB hm;go_wp2_with fail
   go_region
   go_wp2
   go_roundw
   case rel=>exact⟨k+m,by omega,hm2,by go_num,hrow,hB4⟩
   case measure=>simp[intOf];omega
  ·obtain rfl:k=n:=by omega
   go_wp2_with fail;go_ret;obtain⟨cur,hb,hsz,ht⟩:=hR;exact⟨_,rfl,⟨by rw[jS,FT],.inr ⟨w.heap.size,k,cur,rfl,aF _,hb,aF _,by unfold maxLen;omega,hsz,ht⟩⟩,hB⟩
theorem adA (w:World) (n:Int) (h:n<1\/4096<n):
  Calls Tryz.prog 82 #[.int .i64 n] w fun e w'=>e= .returned (.tuple #[.pointer none,.int .i64 1])/\w=w':=by
 by_cases h1:n<1
 ·clear h;go_enter Tryz.func82,Tryz.ntmps82;go_wp2_with fail;go_ret2;exact⟨rfl,rfl⟩
 ·have h2:4096<n:=by omega
  clear h;go_enter Tryz.func82,Tryz.ntmps82;go_wp2_with fail;go_ret2;exact⟨rfl,rfl⟩
theorem aiP (w:World):Calls Tryz.prog 95 #[.string ⟨#[0]⟩,.int .i64 64] w fun e w'=>e= .returned (.string zeros)/\Below w.heap.size w w':=by
 refine(Tryz.strings_Repeat ⟨#[0]⟩ 64 w (by omega) (by show 1*64<=140737488355328;omega)).mono ?_;rintro e w' ⟨rfl,hB⟩;refine⟨?_,hB⟩;have h:(⟨(Lib.repeatL (⟨#[0]⟩:ByteArray).data.toList 64).toArray⟩:ByteArray)=zeros:=by kernel_rfl
 rw[h]
theorem aah (w:World) (n:Nat) (h1:1<=n) (h2:n<=4096):
  Calls Tryz.prog 82 #[.int .i64 n] w fun e w'=>∃ b g,e= .returned (.tuple #[.pointer (some ⟨b,0,none⟩),.int .i64 0])/\w.heap.size<=b/\w.heap.size<=g/\jP w' b g (List.replicate n Sec.blank)/\Below w.heap.size w w':=by
 go_enter Tryz.func82,Tryz.ntmps82;go_wp2_with (go_at_call 95;refine(aiP _).mono ?_;rintro e w1 ⟨rfl,hB1⟩);have amx:=hB1.size;have hbk:=ak.new w1 139 #[.string zeros,.string zeros,.string ⟨#[]⟩,.bool false,.bool false];have hB2:Below w.heap.size w (w1.alloc (.cells #[.string zeros,.string zeros,.string ⟨#[]⟩,.bool false,.bool false] 139)):=hB1.alloc amx _;have hsz:(w1.alloc (.cells #[.string zeros,.string zeros,.string ⟨#[]⟩,.bool false,.bool false] 139)).heap.size=w1.heap.size+1:=by simp
 generalize w1.alloc (.cells #[.string zeros,.string zeros,.string ⟨#[]⟩,.bool false,.bool false] 139)=w2 at hbk hB2 hsz ⊢;have HR:=zh (Nj w2 w1.heap.size 1 n Sec.blank h1 h2 (aF _) (by omega) (by omega) (fun j u hu=>by rw[hbk.cell,<-Array.getElem?_toList];exact hu));go_wp2_with (go_at_call 115;refine HR.out.mono ?_;rintro e w3 ⟨g,rfl,hrow,hB3⟩);go_ret2;have hs3:=hB3.size;have hB4:=(hB2.trans (hB3.mono (by omega))).alloc (by omega) (.cells #[.slice (some ⟨g,0,none⟩) n n] 137);obtain⟨g2,hg2,hM2⟩:=Bd (tM:=137) (M:=List.replicate n Sec.blank) (by simp;omega) (by simpa using hrow.alloc (.cells #[.slice (some ⟨g,0,none⟩) n n] 137)) (ak.new w3 137 #[.slice (some ⟨g,0,none⟩) n n]) (by decide);exact⟨_,g2,rfl,by omega,by omega,hM2,hB4⟩
end
section
open Go.RowKit Go.Shelf
attribute [local go_sem] Oper.semAt_some
def iV (M:List Sec) (i:Int):Prop:=0<=i/\i<M.length
instance (M:List Sec) (i:Int):Decidable (iV M i):=inferInstanceAs (Decidable (_/\_))
def upd (f:Sec->Sec) (M:List Sec) (i:Int):List Sec:=M.set i.toNat (f (M.getD i.toNat default))
def errOf (p:Prop) [Decidable p]:Value:= .int .i64 (if p then 0 else 1)
theorem Bg {M:List Sec} {i:Int} (h:iV M i):∃ (k:Nat) (s:Sec),i=(k:Int)/\M[k]? =some s/\∀ f,upd f M i=M.set k (f s):=by
 obtain⟨k,rfl⟩:=Int.eq_ofNat_of_zero_le h.1;have hk:k<M.length:=by have:=h.2;omega
 refine⟨k,M[k],rfl,jB hk,fun f=>?_⟩;unfold upd;simp[List.getD,jB hk]
theorem Bh {M:List Sec} {i:Int} (h:¬ iV M i):i<0\/(M.length:Int)<=i:=by
 unfold iV at h;omega
section
variable {w:World} {b g:Nat} {M:List Sec}
theorem write_any (h:jP w b g M) (i:Int) (t:ByteArray):
  Calls Tryz.prog 156 #[.pointer (some ⟨b,0,none⟩),.int .i64 i,.string t] w fun e w'=>e= .returned (errOf (iV M i/\t.size=64))/\jP w' b g (if iV M i/\t.size=64 then upd (fun s=>s.write t) M i else M)/\w.grownBy w' (some g):=by
 by_cases hp:iV M i/\t.size=64
 ·obtain⟨k,s,rfl,hs,hu⟩:=Bg hp.1;refine(aam h k s t hs hp.2).mono ?_;rintro e w' ⟨rfl,h1,h2⟩;rw[if_pos hp,hu];exact⟨by unfold errOf;rw[if_pos hp],h1,h2⟩
 ·refine(X3 h i t ?_).mono ?_
  ·by_cases h1:iV M i
   ·exact .inr (fun e=>hp ⟨h1,e⟩)
   ·exact .inl (Bh h1)
  ·rintro e w' ⟨rfl,rfl⟩;rw[if_neg hp];exact⟨by unfold errOf;rw[if_neg hp],h,iJ _ _⟩
theorem aan (h:jP w b g M) (i:Int):
  Calls Tryz.prog 146 #[.pointer (some ⟨b,0,none⟩),.int .i64 i] w fun e w'=>e= .returned (.tuple #[.string (if iV M i then (M.getD i.toNat default).seen else ⟨#[]⟩),errOf (iV M i)])/\w=w':=by
 by_cases hp:iV M i
 ·obtain⟨k,s,rfl,hs,hu⟩:=Bg hp;refine(adD h k s hs).mono ?_;rintro e w' ⟨rfl,rfl⟩;rw[if_pos hp];exact⟨by unfold errOf;rw[if_pos hp];simp[List.getD,hs],rfl⟩
 ·refine(aao h i (Bh hp)).mono ?_;rintro e w' ⟨rfl,rfl⟩;rw[if_neg hp];exact⟨by unfold errOf;rw[if_neg hp],rfl⟩
end
end
section
open Go.RowKit Go.Shelf
theorem O8 {now before fresh:ByteArray} {dirty eX:Bool} (h:now.size=64):Sec.settle ⟨now,before,fresh,dirty,eX⟩ 64=⟨fresh.extract 0 64,now,⟨#[]⟩,false,eX⟩:=by
 unfold Sec.settle;rw[if_pos (by omega)];have e:now.extract 64 now.size=⟨#[]⟩:=by
  rw[h];apply ByteArray.ext;simp[]
 have e2:fresh.extract 0 64++(⟨#[]⟩:ByteArray)=fresh.extract 0 64:=by
  apply ByteArray.ext;simp[ByteArray.data_append]
 simp only;rw[e,e2]
theorem adB {p:Sec->Bool} {M:List Sec} {i:Nat} (h:i ∈ idxs p M):∃ s,M[i]? =some s/\p s=true:=by
 unfold idxs at h;generalize hn:M.length=n at h;have:∀ n,i ∈ upto (fun i=>((M[i]?).map p).getD false) n->((M[i]?).map p).getD false=true:=by
  intro n
  induction n with
  | zero=>intro h;simp[Kz] at h
  | succ n ih=>
   intro h;cases hb:((M[n]?).map p).getD false
   ·rw[Nl _ n hb] at h;exact ih h
   ·rw[Gq _ n hb] at h;rcases List.mem_append.1 h with h | h
    ·exact ih h
    ·simp at h;rw[h];exact hb
 have h2:=this n h;cases hs:M[i]? with
 | none=>rw[hs] at h2;simp at h2
 | some s=>rw[hs] at h2;exact⟨s,rfl,by simpa using h2⟩
theorem vG (P0:Nat->Bool):∀ n,(upto P0 n).Nodup
 | 0=>by simp[Kz]
 | n+1=>by
  cases hb:P0 n
  ·rw[Nl P0 n hb];exact vG P0 n
  ·rw[Gq P0 n hb,List.nodup_append];refine⟨vG P0 n,by simp,?_⟩;intro a ha c hc e;simp at hc;subst hc;subst e
   exact absurd (FW P0 _ _ ha) (by omega)
def Sec.fine (s:Sec):Prop:=s.now.size=64/\s.before.size=64/\(s.dirty=true->s.fresh.size=64)
theorem aap {M:List Sec} (h:Fine M) {i:Nat} {s:Sec} (hs:s.fine):Fine (M.set i s):=by
 intro x hx;rcases List.mem_or_eq_of_mem_set hx with h1 | rfl
 ·exact h x h1
 ·exact hs
theorem aaj {M:List Sec} (h:Fine M) {f:Sec->Sec} (hf:∀ s:Sec,s.fine->(f s).fine) {i:Int} (hi:iV M i):Fine (upd f M i):=by
 obtain⟨k,s,rfl,hs,hu⟩:=Bg hi;rw[hu];exact aap h (hf s (h s (zI hs)))
theorem V8 (f:Sec->Sec) (M:List Sec) (i:Int):(upd f M i).length=M.length:=by simp[upd]
end
structure Dev where
 slots:List ByteArray
 qR:List Bool
 counter:Int
 clock:Int
 M:List Sec
 down:Bool
 left:Int
def Dev.jq (D:Dev) (check:Int) (f:Dev->Dev):Int×Dev:=
 if D.down=true then (14,D)
 else if check≠0 then (check,D)
 else if D.left=0 then (14,{ D with down:=true,left:= -1 })
 else (0,f { D with left:=max (D.left-1) (-1) })
def zero32:ByteArray:=⟨(List.replicate 32 (0:UInt8)).toArray⟩
def chk (p:Prop) [Decidable p]:Int:=if p then 0 else 1
def FK {α:Type} (l:List α) (i:Int):Prop:=0<=i/\i<l.length
instance {α:Type} (l:List α) (i:Int):Decidable (FK l i):=inferInstanceAs (Decidable (_/\_))
def dN (n s f:Nat):Dev:=⟨List.replicate s zero32,List.replicate f false,0,0,List.replicate n Sec.blank,false,-1⟩
section
variable {n s f:Nat} {D:Dev}
theorem Gp {M:List Sec} (h:Fine M) (t:ByteArray) (i:Int) (hi:iV M i/\t.size=64):Fine (upd (fun s=>s.write t) M i):=by
 refine aaj (f:=fun s=>s.write t) h (fun x hx=>?_) hi.1;unfold Sec.write;split
 ·exact hx
 ·exact⟨hx.1,hx.2.1,fun _=>hi.2⟩
end
section
open Go.RowKit
theorem XW {p:Sec->Bool} {M:List Sec} (h:∀ s ∈ M,p s=false):idxs p M= []:=by
 unfold idxs upto;rw[List.filter_eq_nil_iff];intro i hi;have hi':i<M.length:=by simpa using hi
 have:=h _ (List.getElem_mem hi');simp[jB hi',this]
theorem Bf {p:Sec->Bool} {M:List Sec} {j:Nat}:j ∈ idxs p M ↔ ∃ s,M[j]? =some s/\p s=true:=by
 refine⟨adB,fun⟨s,h1,h2⟩=>?_⟩;unfold idxs upto;rw[List.mem_filter,List.mem_range];exact⟨(List.getElem?_eq_some_iff.1 h1).1,by simp[h1,h2]⟩
theorem DC (cnt:Nat->Nat) (M:List Sec):∀ (n:Nat) (pre:List Nat),pre.length=n->pre.Nodup->∀ j s,j ∈ pre->M[j]? =some s->∃ i,(iI cnt M pre)[j]? =some (s.settle (cnt i))
 | 0,pre,hl,_,j,s,hj,_=>by rw[ZX hl] at hj;cases hj
 | n+1,pre,hl,hn,j,s,hj,hs=>by
  have hne:pre≠ []:=by intro e;rw[e] at hl;simp at hl
  rw[<-List.dropLast_concat_getLast hne] at hj hn ⊢;rw[Ai];by_cases hjl:j=pre.getLast hne
  ·subst hjl;refine⟨pre.dropLast.length,?_⟩;rw[List.getElem?_set_self (by rw[qJ];exact(List.getElem?_eq_some_iff.1 hs).1),List.getD,hs];rfl
  ·have hj':j ∈ pre.dropLast:=by
    rcases List.mem_append.1 hj with h | h
    ·exact h
    ·exact absurd (by simpa using h) hjl
   rw[List.getElem?_set_ne (fun e=>hjl e.symm)];exact DC cnt M n _ (by simp[hl]) (List.nodup_append.1 hn).1 j s hj' hs
def Sec.flushed (s:Sec):Sec:=if s.dirty then ⟨s.fresh,s.now,⟨#[]⟩,false,s.eX⟩ else s
theorem extract_all {t:ByteArray} (h:t.size=64):t.extract 0 64=t:=by
 rw[<-h];exact ByteArray.extract_zero_size
theorem XY {M:List Sec} (hf:Fine M) {j:Nat} {s:Sec} (hs:M[j]? =some s):(iI (fun _=>64) M (idxs Sec.dirty M))[j]? =some s.flushed:=by
 unfold Sec.flushed;by_cases hd:s.dirty=true
 ·rw[if_pos hd];obtain⟨i,hi⟩:=DC (fun _=>64) M _ (idxs Sec.dirty M) rfl (vG _ _) j s (Bf.2 ⟨s,hs,hd⟩) hs;rw[hi];obtain⟨h1,h2,h3⟩:=hf s (zI hs);have h4:=h3 hd;obtain⟨now,before,fresh,dirty,eX⟩:=s;dsimp only at h1 h4 ⊢;rw[O8 h1,extract_all h4]
 ·rw[if_neg hd,uz _ _ _ _ (fun i hi e=>by
   obtain⟨s',h1,h2⟩:=Bf.1 hi;rw[e,hs] at h1;cases h1;exact hd h2),hs]
theorem XZ {M:List Sec} (hf:Fine M):iI (fun _=>64) M (idxs Sec.dirty M)=M.map Sec.flushed:=by
 apply List.ext_getElem?;intro j;rw[sD];cases hs:M[j]? with
 | none=>rw[List.getElem?_eq_none (by rw[qJ];exact List.getElem?_eq_none_iff.1 hs)];rfl
 | some s=>exact XY hf hs
theorem JF (s:Sec):s.flushed.dirty=false:=by
 unfold Sec.flushed;split
 ·rfl
 ·rename_i h;simpa using h
theorem V7 {M:List Sec} (P:List Int) {j:Nat} {s:Sec} (hs:M[j]? =some s):(s.dirty=false/\(iI (pick P) M (idxs Sec.dirty M))[j]? =some s)\/(s.dirty=true/\∃ n,n<=64/\(iI (pick P) M (idxs Sec.dirty M))[j]? =some (s.settle n)):=by
 by_cases hd:s.dirty=true
 ·obtain⟨i,hi⟩:=DC (pick P) M _ (idxs Sec.dirty M) rfl (vG _ _) j s (Bf.2 ⟨s,hs,hd⟩) hs;exact .inr ⟨hd,_,adC P i,hi⟩
 ·refine .inl ⟨by simpa using hd,?_⟩;rw[uz _ _ _ _ (fun i hi e=>by
   obtain⟨s',h1,h2⟩:=Bf.1 hi;rw[e,hs] at h1;cases h1;exact hd h2),hs]
theorem aak {M:List Sec} (P:List Int) (h:∀ s ∈ M,s.dirty=false):iI (pick P) M (idxs Sec.dirty M)=M:=by
 rw[XW h,X0]
theorem Nk (s:Sec) (n:Nat):(s.settle n).dirty=false:=by unfold Sec.settle;split<;>rfl
def SV (t:ByteArray):List UInt8:=t.data.toList
theorem FV (t:ByteArray):(SV t).length=t.size:=by simp[SV]
theorem Es (t:ByteArray) (i j:Nat):SV (t.extract i j)=((SV t).drop i).take (j-i):=by
 unfold SV;rw[ByteArray.data_extract,Array.toList_extract,List.extract_eq_take_drop]
theorem TF (a b:ByteArray):SV (a++b)=SV a++SV b:=by
 unfold SV;rw[ByteArray.data_append,Array.toList_append]
theorem aal (t:ByteArray) {j:Nat} (h:j<t.size):∃ b:UInt8,(SV t)[j]? =some b/\∀ w,(Instr.index 9 (.string t) (.int .i64 j)).run Tryz.prog w= .ok (.int .u8 b.toNat) w:=by
 refine⟨t[j],?_,fun w=>?_⟩
 ·unfold SV;rw[Array.getElem?_toList,ZO h];rfl
 ·rw[run_index_string w 9 t .i64 j Tryz.underlying9,dif_pos ⟨by omega,by omega⟩];rfl
end
open Go.RowKit Go.Shelf
section
variable {w:World} {b g:Nat} {M:List Sec}
theorem ag4 (h:DV w b g M) (i:Nat) (hi:i<M.length):
  Calls Tryz.prog 180 #[.pointer (some ⟨b,0,none⟩),.int .i64 i] w fun e w'=>e= .returned (.bool true)/\w=w':=by
 obtain⟨cap,hc,hcap,hm⟩:=h.head;unfold maxLen at hm;go_enter Tryz.func180,Tryz.ntmps180;go_wp2_with fail;go_ret;exact⟨rfl,rfl⟩
theorem aef (h:DV w b g M) (i:Int) (hi:i<0\/(M.length:Int)<=i):
  Calls Tryz.prog 180 #[.pointer (some ⟨b,0,none⟩),.int .i64 i] w fun e w'=>e= .returned (.bool false)/\w=w':=by
 obtain⟨cap,hc,hcap,hm⟩:=h.head;unfold maxLen at hm;by_cases h0:i<0
 ·clear hi;have h1:decide (i>=0)=false:=by simp;omega
  go_enter Tryz.func180,Tryz.ntmps180;go_wp2_with fail;go_ret;exact⟨rfl,rfl⟩
 ·have h1:(M.length:Int)<=i:=by omega
  clear hi;go_enter Tryz.func180,Tryz.ntmps180;go_wp2_with fail;go_ret;exact⟨by show Ending.returned (.bool (decide (i<(M.length:Int))))=_;rw[dF (by omega)],rfl⟩
theorem abJ (h:DV w b g M) (i:Nat) (s:Sec) (hs:M[i]? =some s):
  Calls Tryz.prog 163 #[.pointer (some ⟨b,0,none⟩),.int .i64 i] w fun e w'=>e= .returned (.tuple #[.string s.seen,.int .i64 0])/\w=w':=by
 have hi:=(List.getElem?_eq_some_iff.1 hs).1;obtain⟨cap,hc,hcap,hm⟩:=h.head;unfold maxLen at hm;obtain⟨c0,c1,c2,c3,c4⟩:=h.sec hs;have Lc:=zh (ag4 h i hi);obtain⟨now,before,fresh,dirty,eX⟩:=s;dsimp only at c0 c1 c2 c3 c4;clear hs;cases dirty
 ·go_enter Tryz.func163,Tryz.ntmps163;go_wp2_with (go_at_call 180;refine Lc.out.mono ?_;rintro e w' ⟨rfl,rfl⟩);go_ret2;exact⟨rfl,rfl⟩
 ·go_enter Tryz.func163,Tryz.ntmps163;go_wp2_with (go_at_call 180;refine Lc.out.mono ?_;rintro e w' ⟨rfl,rfl⟩);go_ret2;exact⟨rfl,rfl⟩
theorem YV (h:DV w b g M) (i:Int) (hi:i<0\/(M.length:Int)<=i):
  Calls Tryz.prog 163 #[.pointer (some ⟨b,0,none⟩),.int .i64 i] w fun e w'=>e= .returned (.tuple #[.string ⟨#[]⟩,.int .i64 1])/\w=w':=by
 have Lc:=zh (aef h i hi);clear hi;go_enter Tryz.func163,Tryz.ntmps163;go_wp2_with (go_at_call 180;refine Lc.out.mono ?_;rintro e w' ⟨rfl,rfl⟩);go_ret2;exact⟨rfl,rfl⟩
theorem YT (h:DV w b g M) (i:Int):
  Calls Tryz.prog 163 #[.pointer (some ⟨b,0,none⟩),.int .i64 i] w fun e w'=>e= .returned (.tuple #[.string (if iV M i then (M.getD i.toNat default).seen else ⟨#[]⟩),errOf (iV M i)])/\w=w':=by
 by_cases hp:iV M i
 ·obtain⟨k,s,rfl,hs,hu⟩:=Bg hp;refine(abJ h k s hs).mono ?_;rintro e w' ⟨rfl,rfl⟩;rw[if_pos hp];exact⟨by unfold errOf;rw[if_pos hp];simp[List.getD,hs],rfl⟩
 ·refine(YV h i (Bh hp)).mono ?_;rintro e w' ⟨rfl,rfl⟩;rw[if_neg hp];exact⟨by unfold errOf;rw[if_neg hp],rfl⟩
end
attribute [local go_sem] Oper.semAt_some
section
variable {w:World} {b g:Nat} {M:List Sec}
theorem YU (h:DV w b g M) (v:Value) (I:List ByteArray) (hv:Texts w v I) (hN:I.length<=1048576):
  Calls Tryz.prog 138 #[.pointer (some ⟨b,0,none⟩),v] w fun e w'=>e= .returned (.int .i64 (if dS I M then 1 else 0))/\DV w' b g (if dS I M then M else kP I M)/\w.grownBy w' (some g):=by
 obtain⟨A,c,rfl,hc1,hc2,hc3⟩:=hv.parts;obtain⟨cap,hc,hcap,hm⟩:=h.head;unfold maxLen at hm hc2;have H3:=zh hc3;clear hc3 hv;have hne:∀ {gb cs},ak w gb 9 cs->gb≠g:=by
  obtain⟨_,cur,_,hbg,_⟩:=h.body;exact fun hb=>hb.gY hbg (by decide)
 have HM:=zh h;clear h;cases hq:((I.length:Int) !=M.length)
 ·have hl:I.length=M.length:=by have:(I.length:Int)=M.length:=(by simpa using hq);omega
  have Hl:=zh hl;clear hl;cases hw:kR I
  ·have e:dS I M=false:=by unfold dS;rw[hq,hw];rfl
   rw[e];have Hw:=zh hw;clear e hw;go_enter Tryz.func138,Tryz.ntmps138;go_wp2_with fail
   go_loop [5] (fun a=>∃ k:Nat,k<=I.length/\a= .int .i64 k) (fun a=>I.length-(intOf a).toNat)
   case atStart=>exact⟨0,iT _,rfl⟩
   case round=>
    obtain⟨k,hk,rfl⟩:=hrel;by_cases hkl:k<I.length
    ·obtain⟨t,hs⟩:∃ t,I[k]? =some t:=⟨_,jB hkl⟩;obtain⟨gb,cs,rfl,hb,hct⟩:=H3.out k t hs;have hq2:((t.size:Int) !=64)=false:=by
      cases hq2:((t.size:Int) !=64)
      ·rfl
      ·exact absurd (Hw.out.symm.trans (List.any_eq_true.2 ⟨t,zI hs,hq2⟩)) (by simp)
     clear hs hb;go_wp2_with fail
     go_round
     case rel=>exact⟨k+1,by omega,by go_num⟩
     case measure=>simp[intOf];omega
    ·obtain rfl:k=I.length:=by omega
     go_wp2_with fail;go_loopw [6] (fun a wr=>∃ k:Nat,k<=M.length/\a= .int .i64 k/\DV wr b g (kS I M k)/\w.grownBy wr (some g)) (fun a _=>M.length-(intOf a).toNat)
     case atStart=>exact⟨0,iT _,rfl,by rw[EO];exact HM.out,iJ _ _⟩
     case round=>
      obtain⟨k,hk,rfl,hM,hg⟩:=hrel;have hlen:=vZ I M k Hl.out hk;by_cases hkl:k<M.length
      ·obtain⟨t,ht⟩:∃ t,I[k]? =some t:=⟨_,jB (by have:=Hl.out;omega)⟩;obtain⟨s,hs⟩:∃ s,M[k]? =some s:=⟨_,jB hkl⟩;obtain⟨gb,cs,rfl,hb,hct⟩:=H3.out k t ht;have hng:=hne hb;have agJ:=hg.cell hct (by simp;exact hng);have hs1:(kS I M k)[k]? =some s:=by rw[Lu I M k Hl.out hkl,hs]
       obtain⟨c0,c1,c2,c3,c4⟩:=hM.sec hs1;obtain⟨cap1,hc',hcap',hm'⟩:=hM.head;rw[hlen] at hc' hcap';unfold maxLen at hm';have hfr:=hM.frozen;have Hs1:=zh hs1;have Hsu:=zh (EP I M k t s Hl.out ht hs);clear hs1 ht hs hlen hct;have hkI:k<I.length:=by have:=Hl.out;omega
       go_wp2_with fail
       go_still_tail 23,(by kernel_rfl)
       change wpList _ _ _ _ _ wr.drew;have hM2:DV wr.drew b g (kS I M k):=hM.grown (grown_drewN wr 1 none) (by simp) (by simp);have hg2:w.grownBy wr.drew (some g):=bG hg (grown_drewN wr 1 _);clear c0 c1 c2 c3 c4 agJ hc' hfr hM hg;generalize wr.drew=w2 at hM2 hg2 ⊢;clear wr;obtain⟨c0,c1,c2,c3,c4⟩:=hM2.sec Hs1.out;have hfr:=hM2.frozen;obtain⟨cap2,hc',_⟩:=hM2.head;rw[vZ I M k Hl.out hk] at hc';go_wp2_with fail;go_roundw
       case rel=>exact⟨k+1,by omega,by go_num,by rw[Hsu.out];exact aa9 hM2 Hs1.out ⟨t,t,⟨#[]⟩,false,s.eX⟩,G9 hg2 _ _ _ _ _ _ _ _ _ _⟩
       case measure=>simp[intOf];omega
      ·obtain rfl:k=M.length:=by omega
       rw[G8 I M Hl.out] at hM;have hnl:¬ M.length<I.length:=by have:=Hl.out;omega
       go_wp2_with fail;go_ret;exact⟨rfl,hM,hg⟩
  ·have e:dS I M=true:=by unfold dS;rw[hq,hw];rfl
   rw[e];have Hw:=zh hw;clear e hw;go_enter Tryz.func138,Tryz.ntmps138;go_wp2_with fail
   go_loop [5] (fun a=>∃ k:Nat,k<=I.length/\a= .int .i64 k/\Hid (kR (I.take k)=false)) (fun a=>I.length-(intOf a).toNat)
   case atStart=>exact⟨0,iT _,rfl,rfl⟩
   case round=>
    obtain⟨k,hk,rfl,hw⟩:=hrel;by_cases hkl:k<I.length
    ·obtain⟨t,hs⟩:∃ t,I[k]? =some t:=⟨_,jB hkl⟩;obtain⟨gb,cs,rfl,hb,hct⟩:=H3.out k t hs;have hw1:Hid (kR (I.take (k+1))=((t.size:Int) !=64)):=by
      unfold Hid;rw[FD,hs];unfold kR at *;rw[List.any_append,hw.out];simp
     clear hs hb;cases hq2:((t.size:Int) !=64)
     ·rw[hq2] at hw1;go_wp2_with fail
      go_round
      case rel=>exact⟨k+1,by omega,by go_num,hw1⟩
      case measure=>simp[intOf];omega
     ·clear hw1;go_wp2_with fail;go_ret;exact⟨rfl,HM.out,iJ _ _⟩
    ·obtain rfl:k=I.length:=by omega
     rw[List.take_length] at hw;exact absurd (Hw.out.symm.trans hw.out) (by simp)
 ·have e:dS I M=true:=by unfold dS;rw[hq];rfl
  rw[e];clear e;go_enter Tryz.func138,Tryz.ntmps138;go_wp2_with fail;go_ret;exact⟨rfl,HM.out,iJ _ _⟩
end
theorem abK:(Tryz.prog.info? 227).map (fun i=>(i.zero,i.size,i.bytes))=some (some (.agg #[.string ⟨#[]⟩,.string ⟨#[]⟩,.string ⟨#[]⟩,.bool false,.bool false]),5,56):=by kernel_rfl
def tZ:Array Value:=Array.replicate 64 (.int .u8 0)
theorem Ud (w:World):(Instr.makeSlice 66 (.int .i64 64) (.int .i64 64)).run Tryz.prog w= .ok (.slice (some ⟨w.heap.size,0,none⟩) 64 64) (w.alloc (.cells tZ 5)):=by kernel_rfl
theorem ag5 (w:World):(convert 66 9 (.slice (some ⟨w.heap.size,0,none⟩) 64 64)).run Tryz.prog (w.alloc (.cells tZ 5))= .ok (.string zeros) (w.alloc (.cells tZ 5)):=by
 have h:=run_convert_bytes_back (P:=Tryz.prog) (w.alloc (.cells tZ 5)) 66 9 5 ⟨w.heap.size,0,none⟩ 64 (List.replicate 64 (0:UInt8)) Tryz.underlying66 Tryz.underlying5 Tryz.underlying9 (fun j hj=>by
  have hb:=(ak.new w 5 tZ).cell j;have e:(⟨w.heap.size,0,none⟩:Addr).add j=⟨w.heap.size,j,none⟩:=by
   simp[Addr.add];intro e;exact e.symm
  rw[e,hb];have hj':j<64:=by simpa using hj
  rw[List.getElem_replicate];have hz:tZ[j]? =some (.int .u8 0):=by
   unfold tZ;rw[Array.getElem?_replicate,if_pos hj']
  rw[hz];rfl)
 exact h
theorem aee (w:World) (n:Nat) (h1:1<=n) (h2:n<=4096):
  Calls Tryz.prog 136 #[.int .i64 n] w fun e w'=>∃ b g,e= .returned (.tuple #[.pointer (some ⟨b,0,none⟩),.int .i64 0])/\w.heap.size<=b/\w.heap.size<=g/\DV w' b g (List.replicate n Sec.blank)/\Below w.heap.size w w':=by
 obtain⟨i0,hi,hz0,hz1,hz2⟩:=info_parts abK;have m64:=Ud w;have c64:=ag5 w;go_enter Tryz.func136,Tryz.ntmps136;go_wp2_with fail;have hw0:Below w.heap.size w ((w.alloc (.cells tZ 5)).alloc (.cells #[.slice none 0 0] 225)):=((bK _ w).alloc (aF _) _).alloc (by simp) _;have akx:ak ((w.alloc (.cells tZ 5)).alloc (.cells #[.slice none 0 0] 225)) (w.heap.size+1) 225 #[.slice none 0 0]:=by
  have:=ak.new (w.alloc (.cells tZ 5)) 225 #[.slice none 0 0];rw[oz] at this;exact this
 go_loopw [6] (fun a wr=>∃ (k:Nat) (v:Value),k<=n/\a= .int .i64 k/\ak wr (w.heap.size+1) 225 #[v]/\wr.ownsRow w.heap.size 227 5 v k (cO (List.replicate k Sec.blank))/\Below w.heap.size w wr) (fun a _=>n-(intOf a).toNat)
 case atStart=>exact⟨0,_,iT _,rfl,akx,Ju _ _ _ _,hw0⟩
 case round=>
  obtain⟨k,v,hk,rfl,hbm,hown,hB⟩:=hrel;have hBs:=hB.size;obtain⟨A,c,rfl⟩:=aJ hown;have hcm:wr.cell? ⟨w.heap.size+1,0,none⟩=some (.slice A k c):=hbm.cell 0;clear hw0 akx m64 c64;by_cases hkl:k<n
  ·have hle:Hid ((k+1:Nat)<=maxLen):=by unfold Hid maxLen;omega
   have anD:=zh hown;go_wp2_with (at_builtin;refine wpList_append_own _ rfl _ _ 223 rfl w.heap.size 227 i0 _ 5 56 Tryz.underlying223 hi hz0 hz1 hz2 rfl (by decide) _ k (cO (List.replicate k Sec.blank)) rfl (hown.alloc _) ⟨wr.heap.size,0,none⟩ 1 1 (jo Sec.blank) rfl rfl ?c1 (BM _) ?c3 ?c4 ?c5 ?_)
   case c1=>exact gG (ak.new wr 227 #[.string zeros,.string zeros,.string ⟨#[]⟩,.bool false,.bool false])
   case c3=>exact hle.out
   case c4=>omega
   case c5=>simp;omega
   intro v' w3 hown3 hg3 hn3;have hB3:Below w.heap.size w w3:=(hB.alloc (by omega) _).grown hg3 (by simp;omega) (fun g e=>(hown.lt g e).1);have abL:ak w3 (w.heap.size+1) 225 #[.slice A k c]:=(hbm.alloc _).grown hg3 (aA hown hbm (by decide)).symm;have hown4:w3.ownsRow w.heap.size 227 5 v' (k+1) (cO (List.replicate (k+1) Sec.blank)):=by
    have e:cO (List.replicate (k+1) Sec.blank)=cO (List.replicate k Sec.blank)++jo Sec.blank:=by
     rw[List.replicate_succ',vF];simp[cO]
    rw[e];exact hown3
   obtain⟨A',c',rfl⟩:=aJ hown4;have aq9:w3.cell? ⟨w.heap.size+1,0,none⟩=some (.slice A k c):=abL.cell 0;have ara:=abL.frozen 0;have anE:=abL.aB 0 (.slice A' (k+1) c');have hown5:=hown4.kept (grownBy_setCell' w3 (w.heap.size+1) (.slice A' (k+1) c')) (.inr (aA hown4 abL (by decide)));have hB4:=hB3.setCell (p:=⟨w.heap.size+1,0,none⟩) (by simp) (.slice A' (k+1) c');clear hg3 hn3 hown3 hown4 hown hbm hcm anD abL hB3;go_wp2_with fail;go_roundw
   case rel=>exact⟨k+1,_,by omega,by go_num,anE,hown5,hB4⟩
   case measure=>simp[intOf];omega
  ·obtain rfl:k=n:=by omega
   go_wp2_with fail;go_ret2;obtain⟨g2,hg2,hM2⟩:=Bd (tM:=225) (M:=List.replicate k Sec.blank) (by simp;omega) (by simpa using hown) hbm (by decide);exact⟨_,g2,rfl,by omega,hg2,hM2,hB⟩
end Go.Proofs.YtpghocekofdpbaaGreatDoor
