import Derived.Test.YtpghocekofdpbaaGreatDoorQr04
import Derived.Test.YtpghocekofdpbaaGreatDoorQr05
import Derived.Shelf.RegionOpen
import Derived.OwnWalkIn
import Derived.LoopNIn
import Derived.LoopIn
set_option maxRecDepth 100000
set_option maxHeartbeats 4000000
namespace Go.Proofs.YtpghocekofdpbaaGreatDoor
open Go.RowKit Go.Shelf
attribute [local go_sem] Oper.semAt_some
def upto (P0:Nat->Bool) (k:Nat):List Nat:=(List.range k).filter P0
theorem Kz (P0:Nat->Bool):upto P0 0= []:=rfl
theorem Gq (P0:Nat->Bool) (k:Nat) (h:P0 k=true):upto P0 (k+1)=upto P0 k++ [k]:=by
 simp[upto,List.range_succ,List.filter_append,h]
theorem Nl (P0:Nat->Bool) (k:Nat) (h:P0 k=false):upto P0 (k+1)=upto P0 k:=by
 simp[upto,List.range_succ,List.filter_append,h]
theorem FW (P0:Nat->Bool) (k:Nat):∀ j ∈ upto P0 k,j<k:=by
 intro j hj;simp[upto] at hj;exact hj.1
def agI (b g Bm Bi fi:Nat) (N:Nat) (p:Sec->Bool) (P0:Nat->Bool) (pre:List Nat) (W:World):Prop:=
 ∃ M,jP W b g M/\M.length=N/\W.cell? ⟨Bm,0,none⟩=some (.pointer (some ⟨b,0,none⟩))/\W.cell? ⟨Bi,0,none⟩=some (.func (.func fi) #[] #[])/\
  ∀ i s,(∀ j ∈ pre,j<i)->M[i]? =some s->p s=P0 i
def Looks (F:Fence) (n:Nat) (fi:Nat) (p:Sec->Bool):Prop:=
 ∀ (w:World) (b g:Nat) (M:List Sec) (i:Nat) (s:Sec),jP w b g M->M[i]? =some s->CallsIn F n Tryz.prog fi #[.pointer (some ⟨g,i*5,none⟩)] w fun e w'=>e= .returned (.bool (p s))/\w=w'
theorem Ql (F:Fence) (n:Nat) (hs1:F.fn 135) (hro:F.round=none) (hn:1<=n) (b g Bm Bi fi N:Nat) (p:Sec->Bool) (P0:Nat->Bool) (hfi:F.fn fi) (hN:N<=1048576)
  (eg:∀ args w,(callFunc fi args).run Tryz.prog w= .ok (.enter fi args) w) (hp:Looks F (n-1) fi p):
  aa7 F n Tryz.prog 135 #[.pointer (some ⟨Bm,0,none⟩),.pointer (some ⟨Bi,0,none⟩)] (fun i:Nat=> #[.int .i64 i,.pointer (some ⟨g,i*5,none⟩)])
   (agI b g Bm Bi fi N p P0) (fun pre i=>i<N/\P0 i=true/\pre=upto P0 i) (fun xs=>xs=upto P0 N):=by
 intro l J W hG hY h0;have HG:=zh hG;have HY:=zh hY;have Hp:=zh hp;clear hG hY hp;obtain⟨M,hM,hMl,hcm,hci,_⟩:=HG.out [] W h0;obtain⟨cap,hc,hcap,hm⟩:=hM.head;rw[hMl] at hc hcap;unfold maxLen at hm;refine callsIn_of_wp Tryz.func135 rfl hs1 ?_ hro;simp only[Tryz.ntmps135,mG,AY,zag,Nat.reduceAdd,Nat.reduceSub,Array.replicate_succ,Array.replicate_zero,List.push_toArray,List.append_toArray,GI,List.cons_append]
 gi_wp2
 gi_loopw [4,5,11] (fun _ _ i wr=>∃ k:Nat,k<=N/\i= .int .i64 k/\J (upto P0 k) wr) (fun _ _ i _=>N-(intOf i).toNat)
 case atStart=>exact⟨0,iT _,rfl,h0⟩
 case round=>
  obtain⟨k,hk,rfl,hJ⟩:=hrel;clear hc hcap hm hM hMl hcm hci;obtain⟨M',hM',amW,hcm',aqP,hP⟩:=HG.out _ wr hJ;obtain⟨cap',hc',hcap',hm'⟩:=hM'.head;rw[amW] at hc' hcap';unfold maxLen at hm';by_cases hlt:k<N
  ·have hks:=jB (show k<M'.length by omega);have hpk:=hP k _ (FW P0 k) hks;have hL:=zh (Hp.out wr b g M' k _ hM' hks);rw[hpk] at hL;clear hP hpk;cases hb:P0 k
   ·rw[hb] at hL;gi_wp2_with fail;refine hL.out.mono ?_;rintro e w' ⟨rfl,rfl⟩
    gi_wp2
    refine⟨fun _ h=>(by cases h),?_⟩
    gi_wp2
    go_roundw
    case rel=>exact⟨k+1,by omega,by go_num,by rw[Nl P0 k hb];exact hJ⟩
    case measure=>simp[intOf];omega
   ·rw[hb] at hL;obtain⟨fn,tmps,assign,body,hy,hR⟩:=HY.out (upto P0 k) k wr hJ ⟨hlt,hb,rfl⟩;have HR:=zh hR;clear hR;gi_wp2_with fail;refine hL.out.mono ?_;rintro e w' ⟨rfl,rfl⟩
    gi_wp2
    refine HR.out.mono ?_;rintro e W' ⟨rfl,hJ'⟩
    gi_wp2
    go_roundw
    case rel=>exact⟨k+1,by omega,by go_num,by rw[Gq P0 k hb];exact hJ'⟩
    case measure=>simp[intOf];omega
  ·obtain rfl:k=N:=by omega
   gi_wp2
   go_end0;exact⟨⟨_,rfl⟩,_,rfl,hJ⟩
theorem Qm (w:World) (b g:Nat) (M:List Sec) (i:Nat) (s:Sec) (h:jP w b g M) (hs:M[i]? =some s):
  Calls Tryz.prog 97 #[.pointer (some ⟨g,i*5,none⟩)] w fun e w'=>e= .returned (.bool s.dirty)/\w=w':=by
 obtain⟨c0,c1,c2,c3,c4⟩:=h.sec hs;go_enter Tryz.func97,Tryz.ntmps97;go_wp2_with fail;go_ret;exact⟨rfl,rfl⟩
theorem EM (n:Nat):Looks Fence.wide n 97 Sec.dirty:=fun w b g M i s h hs=>callsIn_wide.2 (Qm w b g M i s h hs)
theorem BK (args:Array Value) (w:World):(callFunc 97 args).run Tryz.prog w= .ok (.enter 97 args) w:=by simp[go_sem]
theorem Qn (w:World) (b fi:Nat):
  Calls Tryz.prog 96 #[.pointer (some ⟨b,0,none⟩),.func (.func fi) #[] #[]] w fun e w'=>
   e= .returned (.func (.func 135) #[] #[.pointer (some ⟨w.heap.size,0,none⟩),.pointer (some ⟨w.heap.size+1,0,none⟩)])/\
   (w.alloc (.cells #[.pointer (some ⟨b,0,none⟩)] 87)).alloc (.cells #[.func (.func fi) #[] #[]] 145)=w':=by
 go_enter Tryz.func96,Tryz.ntmps96;go_wp2_with fail;go_ret;exact⟨rfl,rfl⟩
def iI (cnt:Nat->Nat) (M:List Sec) (pre:List Nat):List Sec:=
 (pre.foldl (fun(acc:List Sec×Nat) i=>(acc.1.set i ((M.getD i default).settle (cnt acc.2)),acc.2+1)) (M,0)).1
theorem Ll (cnt:Nat->Nat) (M:List Sec):∀ (pre:List Nat) (acc:List Sec×Nat),(pre.foldl (fun(acc:List Sec×Nat) i=>(acc.1.set i ((M.getD i default).settle (cnt acc.2)),acc.2+1)) acc).2=acc.2+pre.length
 | [],acc=>by simp
 | i::r,acc=>by
  rw[List.foldl_cons,Ll cnt M r];simp;omega
theorem X0 (cnt:Nat->Nat) (M:List Sec):iI cnt M []=M:=rfl
theorem Ai (cnt:Nat->Nat) (M:List Sec) (pre:List Nat) (i:Nat):iI cnt M (pre++ [i])=(iI cnt M pre).set i ((M.getD i default).settle (cnt pre.length)):=by
 unfold iI;rw[List.foldl_append,List.foldl_cons,List.foldl_nil];have:=Ll cnt M pre (M,0);rw[this];simp
theorem Lm (cnt:Nat->Nat) (M:List Sec):∀ (pre:List Nat) (acc:List Sec×Nat),(pre.foldl (fun(acc:List Sec×Nat) i=>(acc.1.set i ((M.getD i default).settle (cnt acc.2)),acc.2+1)) acc).1.length=acc.1.length
 | [],acc=>rfl
 | i::r,acc=>by rw[List.foldl_cons,Lm cnt M r];simp
theorem qJ (cnt:Nat->Nat) (M:List Sec) (pre:List Nat):(iI cnt M pre).length=M.length:=Lm cnt M pre _
theorem Qo (cnt:Nat->Nat) (M:List Sec) (i:Nat):∀ (pre:List Nat) (acc:List Sec×Nat),(∀ j ∈ pre,j≠i)->(pre.foldl (fun(acc:List Sec×Nat) i=>(acc.1.set i ((M.getD i default).settle (cnt acc.2)),acc.2+1)) acc).1[i]? =acc.1[i]?
 | [],acc,_=>rfl
 | k::r,acc,h=>by
  rw[List.foldl_cons,Qo cnt M i r _ (fun j hj=>h j (by simp[hj]))];simp only;rw[List.getElem?_set_ne (h k (by simp))]
theorem uz (cnt:Nat->Nat) (M:List Sec) (pre:List Nat) (i:Nat) (h:∀ j ∈ pre,j≠i):(iI cnt M pre)[i]? =M[i]? :=Qo cnt M i pre _ h
def idxs (p:Sec->Bool) (M:List Sec):List Nat:=upto (fun i=>((M[i]?).map p).getD false) M.length
def Fine (M:List Sec):Prop:=∀ s ∈ M,s.now.size=64/\s.before.size=64/\(s.dirty=true->s.fresh.size=64)
section
variable {w:World} {b g:Nat} {M:List Sec}
theorem vX (h:jP w b g M) (i:Nat) (s:Sec) (n:Nat) (hs:M[i]? =some s) (hn:n<=64) (h1:s.fresh.size=64) (h2:s.now.size=64):
  Calls Tryz.prog 98 #[.pointer (some ⟨g,i*5,none⟩),.int .i64 n] w fun e w'=>e= .returned (.tuple #[])/\jP w' b g (M.set i (s.settle n))/\w.grownBy w' (some g):=by
 rcases Nat.eq_zero_or_pos n with rfl | hp
 ·exact Qk h i s hs
 ·exact Ur h i s n hs hp (by omega) (by omega) (by omega) (by omega)
def BL (cnt:Nat->Nat) (w0:World) (b g:Nat) (M:List Sec) (pre:List Nat) (W:World):Prop:=jP W b g (iI cnt M pre)/\w0.grownBy W (some g)
theorem NJ (cnt:Nat->Nat) {w0:World} (hb:b<w0.heap.size) (hg:g<w0.heap.size):OwnFrom w0.heap.size (BL cnt w0 b g M):=by
 rintro pre W W' row ⟨h1,h2⟩ hg' hr;refine⟨h1.grown hg' ?_ ?_,?_⟩
 ·intro e;have:=(hr b e.symm).1;omega
 ·intro e;have:=(hr g e.symm).1;omega
 ·refine⟨hg'.os.trans h2.os,hg'.tape.trans h2.tape,hg'.output.trans h2.output,fU h2.size hg'.size,fun k hk hne=>?_⟩;exact(hg'.block k (rY hk h2.size) (fun e=>by have:=(hr k e.symm).1;omega)).trans (h2.block k hk hne)
theorem JU (cnt:Nat->Nat) {w0:World} {Bm Bi fi:Nat} (hm:w0.cell? ⟨Bm,0,none⟩=some (.pointer (some ⟨b,0,none⟩))) (hi:w0.cell? ⟨Bi,0,none⟩=some (.func (.func fi) #[] #[])) (nm:Bm≠g) (ni:Bi≠g) (p:Sec->Bool)
  (pre:List Nat) (W:World) (h:BL cnt w0 b g M pre W):agI b g Bm Bi fi M.length p (fun i=>((M[i]?).map p).getD false) pre W:=by
 obtain⟨h1,h2⟩:=h;refine⟨_,h1,qJ _ _ _,h2.cell hm (by simp;exact nm),h2.cell hi (by simp;exact ni),fun i s hl hs=>?_⟩;rw[uz cnt M pre i (fun j hj e=>by have:=hl j hj;omega)] at hs;simp[hs]
theorem sK {W W':World} {tM tS:TypeId} {M':List Sec} (hM:kD tM tS W b g M') (hg:W.grownBy W' (some g)):KeepsOthers W W':=by
 obtain⟨cap,cur,_,h2,_⟩:=hM.body;refine KeepsOthers.of_grownBy hg (fun j o e hj=>?_);cases e;unfold ak at h2;rw[h2] at hj;cases hj;rfl
theorem Lp {w0 W:World} {row:Option Nat} (h:w0.grownBy W row) {D:Nat} (hD:w0.heap.size<=D) (o:Obj):w0.grownBy (W.putObj D o) row:=by
 have hp:=grownBy_putObj' W D o;refine⟨hp.os.trans h.os,hp.tape.trans h.tape,hp.output.trans h.output,fU h.size hp.size,fun k hk hne=>?_⟩;exact(hp.block k (rY hk h.size) (fun e=>by cases e;omega)).trans (h.block k hk hne)
theorem X8 (h:jP w b g M) (hf:Fine M) (hN:M.length<=1048576):
  Calls Tryz.prog 157 #[.pointer (some ⟨b,0,none⟩)] w fun e w'=>e= .returned (.tuple #[])/\jP w' b g (iI (fun _=>64) M (idxs Sec.dirty M))/\w.grownBy w' (some g):=by
 refine(callsIn_wide (n:=4)).1 ?_;refine callsIn_of_wp_marks Tryz.func157 rfl trivial ?_ rfl;simp only[Tryz.ntmps157,mG,AY,zag,Nat.reduceAdd,Nat.reduceSub,Array.replicate_succ,Array.replicate_zero,List.push_toArray,List.append_toArray,GI,List.cons_append];gi_wp2_with (refine⟨trivial,?_⟩;gi_at_call 96;refine(callsIn_wide.2 (Qn _ _ _)).mono ?_;rintro e w' ⟨rfl,rfl⟩);have hlt:=h.lt;obtain⟨w0,hw0⟩:∃ w0,(w.alloc (.cells #[.pointer (some ⟨b,0,none⟩)] 87)).alloc (.cells #[.func (.func 97) #[] #[]] 145)=w0:=⟨_,rfl⟩;have hs0:w0.heap.size=w.heap.size+2:=by rw[<-hw0];simp
 have hB0:Below w.heap.size w w0:=by rw[<-hw0];exact((bK _ w).alloc (aF _) _).alloc (by simp) _
 have hm0:w0.cell? ⟨w.heap.size,0,none⟩=some (.pointer (some ⟨b,0,none⟩)):=by
  rw[<-hw0];exact(((ak.new w 87 #[.pointer (some ⟨b,0,none⟩)]).alloc _).cell 0).trans rfl
 have hi0:w0.cell? ⟨w.heap.size+1,0,none⟩=some (.func (.func 97) #[] #[]):=by
  rw[<-hw0];have:=(ak.new (w.alloc (.cells #[.pointer (some ⟨b,0,none⟩)] 87)) 145 #[.func (.func 97) #[] #[]]).cell 0;rw[oz] at this;exact this
 have hM0:jP w0 b g M:=h.below hB0 hlt.1 hlt.2;rw[hw0];refine rF rfl (by decide) (gf:=135) (lb:= #[.pointer (some ⟨w.heap.size,0,none⟩),.pointer (some ⟨w.heap.size+1,0,none⟩)]) rfl trivial (enters_of Tryz.func135 (by kernel_rfl) rfl)
  (Ql Fence.wide 3 trivial rfl (by decide) b g w.heap.size (w.heap.size+1) 97 M.length Sec.dirty (fun i=>((M[i]?).map Sec.dirty).getD false) trivial hN BK (EM _)) (fun _=>rfl)
  (BL (fun _=>64) w0 b g M) (NJ _ (by omega) (by omega)) (JU _ hm0 hi0 (by omega) (by omega) Sec.dirty) ⟨hM0,iJ _ _⟩
  (fun i=> { tmps:= #[.pointer (some ⟨b,0,none⟩),undef,undef,.pointer (some ⟨g,i*5,none⟩),.pointer (some ⟨b,0,none⟩),.func (.func 135) #[] #[.pointer (some ⟨w.heap.size,0,none⟩),.pointer (some ⟨w.heap.size+1,0,none⟩)],.int .i64 i,.pointer (some ⟨g,i*5,none⟩),undef,undef],defers:= [] }) ?assign ?body ?done
 case assign=>
  intro l x W K hK
  gi_wp2
  exact hK
 case body=>
  rintro l pre x W ⟨hM,hgr⟩ ⟨hx,hP,hpre⟩;have hs:=jB hx;have hd:M[x].dirty=true:=by simpa [hs] using hP
  have hne:∀ j ∈ pre,j≠x:=fun j hj e=>by have:=FW _ _ j (hpre ▸ hj);omega
  have hs2:(iI (fun _=>64) M pre)[x]? =some M[x]:=by rw[uz _ _ _ _ hne,hs]
  have hfx:=hf M[x] (List.getElem_mem hx);have hc:=zh (vX hM x M[x] 64 hs2 (aF _) (hfx.2.2 hd) hfx.1);have hdn:Hid (iI (fun _=>64) M (pre++ [x])=(iI (fun _=>64) M pre).set x (M[x].settle 64)):=by
   unfold Hid;rw[Ai,List.getD,hs];rfl
  clear hP hpre hne hs hs2 hd;gi_wp2_with (refine⟨trivial,?_⟩;gi_at_call 98;refine(CallsIn.inRound l (callsIn_wide.2 hc.out)).mono ?_;rintro e w' ⟨rfl,h1,h2⟩);exact⟨sK hM h2,by rw[BL,hdn.out];exact⟨h1,bG hgr h2⟩⟩
 case done=>
  rintro D xs W hD rfl ⟨hM,hgr⟩ hK
  gi_wp2
  refine⟨by simp,.inl ⟨_,_,rfl,run_takeDeferred hK,?_⟩⟩;refine⟨_,results_none rfl _ _ _,rfl,hM.grown (grownBy_putObj' W D (.deferred none)) (fun e=>by cases e;omega) (fun e=>by cases e;omega),?_⟩;exact Lp (bG (grown_below hB0 (aF _) _) hgr) (by omega) _
end
def xY (x:Int):Nat:=(max 0 (min x 64)).toNat
theorem DW (x:Int):xY x<=64:=by unfold xY;omega
def pick (P:List Int) (j:Nat):Nat:=match P[j]? with | some x=>xY x | none=>0
theorem adC (P:List Int) (j:Nat):pick P j<=64:=by
 unfold pick;split
 ·exact DW _
 ·omega
def mO (w:World) (v:Value) (P:List Int):Prop:=
 ∃ A c,v= .slice A P.length c/\P.length<=c/\c<=maxLen/\(0<P.length->∃ b o,A=some ⟨b,o,none⟩/\b<w.heap.size/\∀ i x,P[i]? =some x->w.cell? ⟨b,o+i,none⟩=some (.int .i64 x))
def vJ (v:Value) (n j pb po:Nat):Prop:=∃ A c,v= .slice A (n-j) c/\n-j<=c/\c<=maxLen/\(j<n->A=some ⟨pb,po+j,none⟩)
section
variable {w:World} {b g:Nat} {M:List Sec}
def Cutting (P:List Int) (pb po:Nat) (w0:World) (b g Bp:Nat) (M:List Sec) (pre:List Nat) (W:World):Prop:=
 jP W b g (iI (pick P) M pre)/\(∃ v,ak W Bp 30 #[v]/\vJ v P.length (min pre.length P.length) pb po)/\
  W.os=w0.os/\W.tape=w0.tape/\W.output=w0.output/\w0.heap.size<=W.heap.size/\∀ k,k<w0.heap.size->k≠g->k≠Bp->W.heap[k]? =w0.heap[k]?
theorem Qp (P:List Int) (pb po:Nat) {w0:World} {Bp:Nat} (hb:b<w0.heap.size) (hg:g<w0.heap.size) (hp:Bp<w0.heap.size):OwnFrom w0.heap.size (Cutting P pb po w0 b g Bp M):=by
 rintro pre W W' row ⟨h1,⟨v,h2,h3⟩,h4,h5,h6,h7,h8⟩ hg' hr;refine⟨h1.grown hg' ?_ ?_,⟨v,h2.grown hg' ?_,h3⟩,hg'.os.trans h4,hg'.tape.trans h5,hg'.output.trans h6,fU h7 hg'.size,fun k hk n1 n2=>?_⟩
 ·intro e;have:=(hr b e.symm).1;omega
 ·intro e;have:=(hr g e.symm).1;omega
 ·intro e;have:=(hr Bp e.symm).1;omega
 ·exact(hg'.block k (rY hk h7) (fun e=>by have:=(hr k e.symm).1;omega)).trans (h8 k hk n1 n2)
theorem NK (P:List Int) (pb po:Nat) {w0:World} {Bp Bm Bi fi:Nat} (hm:w0.cell? ⟨Bm,0,none⟩=some (.pointer (some ⟨b,0,none⟩))) (hi:w0.cell? ⟨Bi,0,none⟩=some (.func (.func fi) #[] #[]))
  (lm:Bm<w0.heap.size) (li:Bi<w0.heap.size) (nm:Bm≠g) (ni:Bi≠g) (nm':Bm≠Bp) (ni':Bi≠Bp) (p:Sec->Bool)
  (pre:List Nat) (W:World) (h:Cutting P pb po w0 b g Bp M pre W):agI b g Bm Bi fi M.length p (fun i=>((M[i]?).map p).getD false) pre W:=by
 obtain⟨h1,_,_,_,_,_,h8⟩:=h;refine⟨_,h1,qJ _ _ _,(World.cell?_of_block (h8 Bm lm nm nm')).trans hm,(World.cell?_of_block (h8 Bi li ni ni')).trans hi,fun i s hl hs=>?_⟩;rw[uz (pick P) M pre i (fun j hj e=>by have:=hl j hj;omega)] at hs;simp[hs]
theorem aa8 (X:Int):(if 0<if 64<X then 64 else X then if 64<X then 64 else X else 0)=(xY X:Int):=by
 unfold xY
 repeat' split
 all_goals omega
theorem EN {n j pb po:Nat} (A:Option Addr) (c:Nat) (hj:n<=j) (hc:c<=maxLen):vJ (.slice A 0 c) n (min j n) pb po:=
 ⟨A,c,by rw[Nat.min_eq_right hj,Nat.sub_self],by omega,hc,fun h=>by omega⟩
theorem Us {n j pb po:Nat} (A:Option Addr) (hj:n<=j):vJ (.slice A 0 0) n (min j n) pb po:=EN A 0 hj (by unfold maxLen;omega)
theorem Qq {n j m c pb po:Nat} (hm:n-j=m) (h1:m<=c) (h2:c<=maxLen) (hj:j<=n):vJ (.slice (some ⟨pb,po+j,none⟩) m c) n (min j n) pb po:=
 ⟨_,c,by rw[Gm hj,hm],by rw[Gm hj];omega,h2,fun _=>by rw[Gm hj]⟩
theorem vY {P:List Int} {pb po:Nat} {w0 W W1 w':World} {Bp x:Nat} {pre:List Nat} {v':Value} {M1:List Sec} {act:Act} (hC:Cutting P pb po w0 b g Bp M pre W) (hng:Bp≠g)
  (h1:W.grownBy W1 (some Bp)) (k1:KeepsOthers W W1) (hb1:ak W1 Bp 30 #[v']) (hv':vJ v' P.length (min (pre.length+1) P.length) pb po) (hM1:jP W1 b g M1)
  (h2:jP w' b g (iI (pick P) M (pre++ [x]))) (h3:W1.grownBy w' (some g)):Nz (Cutting P pb po w0 b g Bp M) (pre++ [x]) W .normal act w':=by
 obtain⟨_,_,c4,c5,c6,c7,c8⟩:=hC;refine⟨k1.trans (sK hM1 h3),h2,⟨v',hb1.grown h3 (by simp;exact hng),by simpa using hv'⟩,h3.os.trans (h1.os.trans c4),h3.tape.trans (h1.tape.trans c5),h3.output.trans (h1.output.trans c6),?_,fun k hk n1 n2=>?_⟩
 ·have:=h1.size;have:=h3.size;omega
 ·have e1:=h1.size;exact(h3.block k (by omega) (fun e=>n1 (by cases e;rfl))).trans ((h1.block k (by omega) (fun e=>n2 (by cases e;rfl))).trans (c8 k hk n1 n2))
theorem adE (h:jP w b g M) (hf:Fine M) (hN:M.length<=1048576) (v:Value) (P:List Int) (pb po:Nat) (hv:vJ v P.length 0 pb po) (hpg:pb≠g)
  (hc:∀ i x,P[i]? =some x->w.cell? ⟨pb,po+i,none⟩=some (.int .i64 x)):
  Calls Tryz.prog 62 #[.pointer (some ⟨b,0,none⟩),v] w fun e w'=>e= .returned (.tuple #[])/\jP w' b g (iI (pick P) M (idxs Sec.dirty M))/\w.grownBy w' (some g):=by
 have Hc:=zh hc;clear hc;have hv':=hv;obtain⟨A,c,rfl,hv1,hv2,hv3⟩:=hv;have HV:=zh hv';clear hv' hv1 hv2 hv3;refine(callsIn_wide (n:=4)).1 ?_;refine callsIn_of_wp_marks Tryz.func62 rfl trivial ?_ rfl;simp only[Tryz.ntmps62,mG,AY,zag,Nat.reduceAdd,Nat.reduceSub,Array.replicate_succ,Array.replicate_zero,List.push_toArray,List.append_toArray,GI,List.cons_append];gi_wp2_with (refine⟨trivial,?_⟩;gi_at_call 96;refine(callsIn_wide.2 (Qn _ _ _)).mono ?_;rintro e w' ⟨rfl,rfl⟩);have hlt:=h.lt;obtain⟨w0,hw0⟩:∃ w0,((w.alloc (.cells #[.slice A (P.length-0) c] 30)).alloc (.cells #[.pointer (some ⟨b,0,none⟩)] 87)).alloc (.cells #[.func (.func 97) #[] #[]] 145)=w0:=⟨_,rfl⟩;have ajQ:=hw0;rw[Nat.sub_zero] at ajQ;have hs0:w0.heap.size=w.heap.size+3:=by rw[<-hw0];simp
 have hB0:Below w.heap.size w w0:=by rw[<-hw0];exact(((bK _ w).alloc (aF _) _).alloc (by simp) _).alloc (by simp;omega) _
 have hp0:ak w0 w.heap.size 30 #[.slice A (P.length-0) c]:=by
  rw[<-hw0];exact((ak.new w _ _).alloc _).alloc _
 have hm0:w0.cell? ⟨w.heap.size+1,0,none⟩=some (.pointer (some ⟨b,0,none⟩)):=by
  rw[<-hw0];have:=((ak.new (w.alloc (.cells #[.slice A (P.length-0) c] 30)) 87 #[.pointer (some ⟨b,0,none⟩)]).alloc (.cells #[.func (.func 97) #[] #[]] 145)).cell 0;rw[oz] at this;exact this
 have hi0:w0.cell? ⟨w.heap.size+2,0,none⟩=some (.func (.func 97) #[] #[]):=by
  rw[<-hw0];have:=(ak.new ((w.alloc (.cells #[.slice A (P.length-0) c] 30)).alloc (.cells #[.pointer (some ⟨b,0,none⟩)] 87)) 145 #[.func (.func 97) #[] #[]]).cell 0;rw[oz,oz] at this;exact this
 have hM0:jP w0 b g M:=h.below hB0 hlt.1 hlt.2;rw[ajQ];refine rF rfl (by decide) (gf:=135) (lb:= #[.pointer (some ⟨w.heap.size+1,0,none⟩),.pointer (some ⟨w.heap.size+1+1,0,none⟩)]) rfl trivial (enters_of Tryz.func135 (by kernel_rfl) rfl)
  (Ql Fence.wide 3 trivial rfl (by decide) b g (w.heap.size+1) (w.heap.size+2) 97 M.length Sec.dirty (fun i=>((M[i]?).map Sec.dirty).getD false) trivial hN BK (EM _)) (fun _=>rfl)
  (Cutting P pb po w0 b g w.heap.size M) (Qp P pb po (by omega) (by omega) (by omega)) (NK P pb po hm0 hi0 (by omega) (by omega) (by omega) (by omega) (by omega) (by omega) Sec.dirty)
  ⟨hM0,⟨_,hp0,by simpa using HV.out⟩,rfl,rfl,rfl,aF _,fun _ _ _ _=>rfl⟩
  (fun i=> { tmps:= #[.pointer (some ⟨b,0,none⟩),.slice A (P.length-0) c,undef,.pointer (some ⟨w.heap.size,0,none⟩),undef,.pointer (some ⟨g,i*5,none⟩),undef,.pointer (some ⟨b,0,none⟩),.func (.func 135) #[] #[.pointer (some ⟨w.heap.size+1,0,none⟩),.pointer (some ⟨w.heap.size+1+1,0,none⟩)],.int .i64 i,.pointer (some ⟨g,i*5,none⟩),undef,undef,undef,undef,undef,undef,undef,undef,undef,undef,undef,undef,undef],defers:= [] }) ?assign ?body ?done
 case assign=>
  intro l x W K hK
  gi_wp2
  exact hK
 case body=>
  rintro l pre x W ⟨hM,⟨v,hvb,hvr⟩,k4,k5,k6,k7,k8⟩ ⟨hx,hP,hpre⟩;have hs:=jB hx;have hd:M[x].dirty=true:=by simpa [hs] using hP
  have hne:∀ j ∈ pre,j≠x:=fun j hj e=>by have:=FW _ _ j (hpre ▸ hj);omega
  have hs2:(iI (pick P) M pre)[x]? =some M[x]:=by rw[uz _ _ _ _ hne,hs]
  have hfx:=hf M[x] (List.getElem_mem hx);have hdn:Hid (iI (pick P) M (pre++ [x])=(iI (pick P) M pre).set x (M[x].settle (pick P pre.length))):=by
   unfold Hid;rw[Ai,List.getD,hs];rfl
  have hlm:=hM.lt;have hc0:W.cell? ⟨w.heap.size,0,none⟩=some v:=(hvb.cell 0).trans rfl;have hf0:=hvb.frozen 0;have K8:=zh k8;have Yw:=hvr;clear hP hpre hne hs k8;by_cases hj:pre.length<P.length
  ·rw[Gm (by omega)] at hvr;obtain⟨A',c',rfl,hv1,hv2,hv3⟩:=hvr;have hA':=hv3 hj;subst hA';clear hv3;have hpk:W.cell? ⟨pb,po+pre.length,none⟩=some (.int .i64 P[pre.length]):=by
    have h1:=Hc.out pre.length _ (jB hj);have hpl:pb<w.heap.size:=by
     unfold World.cell? at h1;split at h1
     ·rename_i hh;exact(Array.getElem?_eq_some_iff.1 hh).1
     ·cases h1
    exact(World.cell?_of_block (K8.out pb (by omega) hpg (by omega))).trans ((hB0.cell (p:=⟨pb,_,none⟩) hpl).trans h1)
   have hck:Hid (pick P pre.length=xY P[pre.length]):=by unfold Hid pick;rw[jB hj]
   generalize P[pre.length]=X at hpk hck;unfold maxLen at hv2;obtain⟨m,hm⟩:∃ m,P.length-pre.length=m:=⟨_,rfl⟩;have hm1:1<=m:=by omega
   rw[hm] at hc0 hv1;have Hm:=zh hm;clear hm;by_cases hc1:c'=1
   ·subst hc1;have hme:m=1:=by omega
    subst hme;have hg1:W.grownBy (W.setCell ⟨w.heap.size,0,none⟩ (.slice (some ⟨pb,po+pre.length,none⟩) 0 0)).drew (some w.heap.size):=bG (au _ _ _ _) (grown_drewN _ 1 _);have hC:=zh (vX (hM.grown hg1 (by simp;omega) (by simp;omega)) x M[x] (xY X) hs2 (DW _) (hfx.2.2 hd) hfx.1);have hfin:=zh (fun w' (act:Act)=>vY (x:=x) (w':=w') (act:=act) ⟨hM,⟨_,hvb,Yw⟩,k4,k5,k6,k7,K8.out⟩ (by omega:w.heap.size≠g) hg1 ((KeepsOthers.setCell _ _ _).trans (KeepsOthers.drew _)) (hvb.aB 0 _) (Us (j:=pre.length+1) _ (Nat.le_of_sub_eq_zero (by have:=Hm.out;omega))) (hM.grown hg1 (by simp;omega) (by simp;omega)));rw[<-aa8 X] at hC;gi_wp2_with (fail)
    gi_region_with (fail)
    all_goals (gi_wp2_with (refine⟨trivial,?_⟩;gi_at_call 98;refine(CallsIn.inRound l (callsIn_wide.2 hC.out)).mono ?_;rintro e w' ⟨rfl,h1,h2⟩))
    all_goals exact hfin.out _ _ (by rw[hdn.out,hck.out];exact h1) h2
   ·have hc2:2<=c':=by omega
    have hsl:∀ wx,(Instr.slice 30 (.slice (some ⟨pb,po+pre.length,none⟩) m c') (some (.int .i64 1)) none none).run Tryz.prog wx= .ok (.slice (some ⟨pb,po+pre.length+1,none⟩) (m-1) (c'-1)) wx:=by
     intro wx;have e1:¬ c'=1:=by omega
     simp[go_sem,e1];intro hh;omega
    have hg1:W.grownBy (W.setCell ⟨w.heap.size,0,none⟩ (.slice (some ⟨pb,po+pre.length+1,none⟩) (m-1) (c'-1))).drew (some w.heap.size):=bG (au _ _ _ _) (grown_drewN _ 1 _);have hC:=zh (vX (hM.grown hg1 (by simp;omega) (by simp;omega)) x M[x] (xY X) hs2 (DW _) (hfx.2.2 hd) hfx.1);have hfin:=zh (fun w' (act:Act)=>vY (x:=x) (w':=w') (act:=act) ⟨hM,⟨_,hvb,Yw⟩,k4,k5,k6,k7,K8.out⟩ (by omega:w.heap.size≠g) hg1 ((KeepsOthers.setCell _ _ _).trans (KeepsOthers.drew _)) (hvb.aB 0 _)
     (Qq (j:=pre.length+1) (m:=m-1) (c:=c'-1) (by have:=Hm.out;omega) (by omega) (by unfold maxLen;omega) (by omega)) (hM.grown hg1 (by simp;omega) (by simp;omega)))
    rw[<-aa8 X] at hC;clear hs2 hd Yw;gi_wp2_with (fail)
    gi_region_with (fail)
    all_goals (gi_wp2_with (refine⟨trivial,?_⟩;gi_at_call 98;refine(CallsIn.inRound l (callsIn_wide.2 hC.out)).mono ?_;rintro e w' ⟨rfl,h1,h2⟩))
    all_goals exact hfin.out _ _ (by rw[hdn.out,hck.out];exact h1) h2
  ·rw[Nat.min_eq_right (by omega)] at hvr;obtain⟨A',c',rfl,hv1,hv2,hv3⟩:=hvr;rw[Nat.sub_self] at hc0 hvb Yw;have hg1:W.grownBy W (some w.heap.size):=iJ _ _;have hck:pick P pre.length=0:=by unfold pick;rw[List.getElem?_eq_none (by omega)]
   have hC:=zh (vX hM x M[x] 0 hs2 (by omega) (hfx.2.2 hd) hfx.1);have hfin:=zh (fun w' (act:Act)=>vY (x:=x) (w':=w') (act:=act) ⟨hM,⟨_,hvb,Yw⟩,k4,k5,k6,k7,K8.out⟩ (by omega:w.heap.size≠g) hg1 (KeepsOthers.refl _) hvb (EN (j:=pre.length+1) _ _ (by omega) hv2) hM);have Hck:=zh hck;clear hs2 hd Yw hck hv3 hj;gi_wp2_with (refine⟨trivial,?_⟩;gi_at_call 98;refine(CallsIn.inRound l (callsIn_wide.2 hC.out)).mono ?_;rintro e w' ⟨rfl,h1,h2⟩);exact hfin.out _ _ (by rw[hdn.out,Hck.out];exact h1) h2
 case done=>
  rintro D xs W hD rfl ⟨hM,⟨v,hvb,hvr⟩,k4,k5,k6,k7,k8⟩ hK
  gi_wp2
  refine⟨by simp,.inl ⟨_,_,rfl,run_takeDeferred hK,?_⟩⟩;refine⟨_,results_none rfl _ _ _,rfl,hM.grown (grownBy_putObj' W D (.deferred none)) (fun e=>by cases e;omega) (fun e=>by cases e;omega),?_⟩;have hgr:w.grownBy W (some g):=⟨k4.trans hB0.os,k5.trans hB0.tape,k6.trans hB0.output,by omega,fun k hk hne=>(k8 k (by omega) (fun e=>hne (by rw[e])) (by omega)).trans (hB0.block k hk)⟩;exact Lp hgr (by omega) _
end
def intCells (l:List Nat):List Value:=l.map fun i:Nat=>Value.int .i64 i
theorem JQ (l:List Nat) (x:Nat):intCells (l++ [x])=intCells l++ [.int .i64 x]:=by simp[intCells]
theorem WB:(Tryz.prog.info? 3).map (fun i=>(i.zero,i.size,i.bytes))=some (some (.int .i64 0),1,8):=by kernel_rfl
def adK (w w':World) (v:Value) (l:List Nat):Prop:=w'.ownsRow w.heap.size 3 1 v l.length (intCells l)/\(v= .slice none 0 0 ↔ l= [])/\Below w.heap.size w w'
theorem Aq {W w1:World} {B B':Nat} {t e:TypeId} {u v:Value} {n₀ size k:Nat} {xs:List Value} {tmp:Obj} (h:Boxed W B' t u) (hte:t≠e) (hrow:W.ownsRow n₀ e size v k xs)
  (hgrow:(W.alloc tmp).grownBy w1 v.ownBlock) (hne:B'≠B) (v':Value):Boxed (w1.setCell ⟨B,0,none⟩ v') B' t u:=
 ((h.alloc tmp).kept hgrow (h.not_row hte hrow)).kept (grownBy_setCell' w1 B v') (fun e=>hne (by cases e;rfl))
section
variable {w:World} {b g:Nat} {M:List Sec}
end
def strCells (l:List ByteArray):List Value:=l.map Value.string
theorem jE (l:List ByteArray) (x:ByteArray):strCells (l++ [x])=strCells l++ [.string x]:=by simp[strCells]
theorem vT (l:List ByteArray):(strCells l).length=l.length:=by simp[strCells]
theorem iw:(Tryz.prog.info? 9).map (fun i=>(i.zero,i.size,i.bytes))=some (some (.string ⟨#[]⟩),1,16):=by kernel_rfl
def o8 (w w':World) (v:Value) (l:List ByteArray):Prop:=w'.ownsRow w.heap.size 9 1 v l.length (strCells l)/\(v= .slice none 0 0 ↔ l= [])/\Below w.heap.size w w'
section
variable {w:World} {b g:Nat} {M:List Sec}
theorem X6 (h:jP w b g M) (hN:M.length<=1048576):
  Calls Tryz.prog 52 #[.pointer (some ⟨b,0,none⟩)] w fun e w'=>∃ v,e= .returned v/\o8 w w' v (M.map Sec.now):=by
 obtain⟨i0,hi,hz0,hz1,hz2⟩:=info_parts iw;have hlt:=h.lt;obtain⟨cap,hc,hcap,hm⟩:=h.head;unfold maxLen at hm;go_enter Tryz.func52,Tryz.ntmps52;go_wp2_with fail;go_loopw [3,5,11] (fun v _ a wr=>∃ k:Nat,k<=M.length/\a= .int .i64 k/\wr.ownsRow w.heap.size 9 1 v k (strCells ((M.map Sec.now).take k))/\(v= .slice none 0 0 ↔ k=0)/\Below w.heap.size w wr) (fun _ _ a _=>M.length-(intOf a).toNat)
 case atStart=>exact⟨0,iT _,rfl,Ju _ _ _ _,by simp,bK _ _⟩
 case round=>
  obtain⟨k,hk,rfl,hown,hnil,hB⟩:=hrel;have hBs:=hB.size;have hM':jP wr b g M:=h.below hB hlt.1 hlt.2;by_cases hkl:k<M.length
  ·obtain⟨se,hs⟩:∃ se,M[k]? =some se:=⟨_,jB hkl⟩;obtain⟨c0,c1,c2,c3,c4⟩:=hM'.sec hs;have Hs:=zh hs;clear hs;have hle:Hid ((k+1:Nat)<=maxLen):=by unfold Hid maxLen;omega
   go_wp2_with (at_builtin;refine wpList_append_own _ rfl _ _ 35 rfl w.heap.size 9 i0 _ 1 16 Tryz.underlying35 hi hz0 hz1 hz2 rfl (by decide) _ k (strCells ((M.map Sec.now).take k)) rfl ((hown.alloc _).alloc _) ⟨wr.heap.size+1,0,none⟩ 1 1 [.string se.now] rfl rfl ?c1 ?c2 ?c3 ?c4 ?c5 ?_)
   case c1=>
    have:=gG (ak.new (wr.alloc (.cells #[.string se.now,.string se.before,.string se.fresh,.bool se.dirty,.bool se.eX] 139)) 9 #[.string se.now]);rw[oz] at this;exact this
   case c2=>simp[Value.oneCell']
   case c3=>exact hle.out
   case c4=>omega
   case c5=>simp;omega
   intro v' w3 hown3 hg3 hn3;have hB3:Below w.heap.size w w3:=(((hB.alloc (by omega) _).alloc (by simp;omega) _)).grown hg3 (by simp;omega) (fun g e=>(hown.lt g e).1);have hnil3:v'= .slice none 0 0 ↔ k+1=0:=⟨fun e=>(hn3 e).elim,fun e=>by omega⟩;have hown4:w3.ownsRow w.heap.size 9 1 v' (k+1) (strCells ((M.map Sec.now).take (k+1))):=by
    have e:(M.map Sec.now).take (k+1)=(M.map Sec.now).take k++ [se.now]:=by
     rw[FD];simp[Hs.out]
    rw[e,jE];exact hown3
   clear hg3 hn3 hown3 hown hnil;go_wp2_with fail;go_roundw
   case rel=>exact⟨k+1,by omega,by go_num,hown4,hnil3,hB3⟩
   case measure=>simp[intOf];omega
  ·obtain rfl:k=M.length:=by omega
   go_wp2_with fail;go_ret;have hn4:=hnil.trans (show M.length=0 ↔ M.map Sec.now= [] by simp);rw[uo (by simp)] at hown;exact⟨_,rfl,by simpa using hown,hn4,hB⟩
end
def Texts (w:World) (v:Value) (I:List ByteArray):Prop:=w.ownsRow 0 9 1 v I.length (strCells I)
theorem Texts.parts {w:World} {v:Value} {I:List ByteArray} (h:Texts w v I):∃ A c,v= .slice A I.length c/\I.length<=c/\c<=maxLen/\∀ i t,I[i]? =some t->∃ gb cs,A=some ⟨gb,0,none⟩/\ak w gb 9 cs/\w.cell? ⟨gb,i,none⟩=some (.string t):=by
 have h':=h;rcases h.2 with⟨rfl,h0⟩ | ⟨gb,cap,cur,rfl,_,hb,h1,h2,_,_⟩
 ·exact⟨none,0,by rw[h0],by omega,by unfold maxLen;omega,fun i t hi=>by rw[ZX h0] at hi;simp at hi⟩
 ·refine⟨_,cap,rfl,h1,h2,fun i t hi=>⟨gb,cur,rfl,hb,?_⟩⟩;rw[h'.cellAt i (by have:=(List.getElem?_eq_some_iff.1 hi).1;omega)];simp[strCells,hi]
theorem Lr (w:World) (t:ByteArray):Calls Tryz.prog 92 #[.string t] w fun e w'=>e= .returned (.bool ((t.size:Int) !=64))/\w=w':=by
 go_enter Tryz.func92,Tryz.ntmps92;go_wp2_with fail;go_ret;exact⟨rfl,rfl⟩
def kR (I:List ByteArray):Bool:=I.any fun t=>(t.size:Int) !=64
theorem Ut (w:World) (v:Value) (I:List ByteArray) (h:Texts w v I) (_hN:I.length<=1099511627776):
  Calls Tryz.prog 68 #[v,.func (.func 92) #[] #[]] w fun e w'=>(∃ r:Int,e= .returned (.int .i64 r)/\(decide (r>=0))=kR I)/\w=w':=by
 obtain⟨A,c,rfl,hc1,hc2,hc3⟩:=h.parts;unfold maxLen at hc2;have H3:=zh hc3;clear hc3;go_enter Tryz.func68,Tryz.ntmps68;go_wp2_with fail
 go_loop [5,8] (fun _ a=>∃ k:Nat,k<=I.length/\a= .int .i64 k/\Hid (kR (I.take k)=false)) (fun _ a=>I.length-(intOf a).toNat)
 case atStart=>exact⟨0,iT _,rfl,rfl⟩
 case round=>
  obtain⟨k,hk,rfl,hw⟩:=hrel;by_cases hkl:k<I.length
  ·obtain⟨t,hs⟩:∃ t,I[k]? =some t:=⟨_,jB hkl⟩;obtain⟨gb,cs,rfl,hb,hc⟩:=H3.out k t hs;have hw1:Hid (kR (I.take (k+1))=((t.size:Int) !=64)):=by
    unfold Hid;rw[FD,hs];unfold kR at *;rw[List.any_append,hw.out];simp
   have hw2:Hid (((t.size:Int) !=64)=true->kR I=true):=by
    intro e;unfold kR;exact List.any_eq_true.2 ⟨t,zI hs,e⟩
   clear hs hb;cases hq:((t.size:Int) !=64)
   ·have HC:=zh (Lr w t);rw[hq] at HC hw1;clear hq;go_wp2_with fail;refine HC.out.mono ?_;rintro e w' ⟨rfl,rfl⟩;go_wp2_with fail
    go_round
    case rel=>exact⟨k+1,by omega,by go_num,hw1⟩
    case measure=>simp[intOf];omega
   ·have HC:=zh (Lr w t);rw[hq] at HC;clear hw1;go_wp2_with fail;refine HC.out.mono ?_;rintro e w' ⟨rfl,rfl⟩;go_wp2_with fail;go_ret;exact⟨⟨_,rfl,by rw[hw2.out hq];simp⟩,rfl⟩
  ·obtain rfl:k=I.length:=by omega
   rw[List.take_length] at hw;go_wp2_with fail;go_ret;exact⟨⟨_,rfl,by rw[hw.out];simp⟩,rfl⟩
theorem NM (w:World) (v:Value) (I:List ByteArray) (h:Texts w v I) (hN:I.length<=1099511627776):
  Calls Tryz.prog 93 #[v,.func (.func 92) #[] #[]] w fun e w'=>e= .returned (.bool (kR I))/\w=w':=by
 have HC:=zh (Ut w v I h hN);obtain⟨A,c,rfl,_⟩:=h.parts;clear h;go_enter Tryz.func93,Tryz.ntmps93;go_wp2_with (go_at_call 68;refine HC.out.mono ?_;rintro e w' ⟨⟨r,rfl,hr⟩,rfl⟩);go_ret;exact⟨by rw[<-hr];rfl,rfl⟩
def kP (I:List ByteArray) (M:List Sec):List Sec:=List.zipWith (fun t s=>(⟨t,t,⟨#[]⟩,false,s.eX⟩:Sec)) I M
def kS (I:List ByteArray) (M:List Sec) (k:Nat):List Sec:=kP (I.take k) (M.take k)++M.drop k
theorem EO (I:List ByteArray) (M:List Sec):kS I M 0=M:=by simp[kS,kP]
theorem G8 (I:List ByteArray) (M:List Sec) (h:I.length=M.length):kS I M M.length=kP I M:=by
 unfold kS;rw[uo (by omega),List.take_length,List.drop_length,List.append_nil]
theorem Ls (I:List ByteArray) (M:List Sec) (h:I.length=M.length):(kP I M).length=M.length:=by simp[kP,h]
theorem vZ (I:List ByteArray) (M:List Sec) (k:Nat) (h:I.length=M.length) (hk:k<=M.length):(kS I M k).length=M.length:=by
 simp[kS,kP];omega
theorem Lu (I:List ByteArray) (M:List Sec) (k:Nat) (h:I.length=M.length) (hk:k<M.length):(kS I M k)[k]? =M[k]? :=by
 unfold kS;rw[ZP (by simp[kP];omega)];simp[kP]
 congr 1
 omega
theorem EP (I:List ByteArray) (M:List Sec) (k:Nat) (t:ByteArray) (s:Sec) (h:I.length=M.length) (ht:I[k]? =some t) (hs:M[k]? =some s):
  kS I M (k+1)=(kS I M k).set k ⟨t,t,⟨#[]⟩,false,s.eX⟩:=by
 have hk:=(List.getElem?_eq_some_iff.1 hs).1;have e1:(kP (I.take k) (M.take k)).length=k:=by simp[kP];omega
 unfold kS;rw[List.set_append_right _ _ (by omega),e1,Nat.sub_self,FD,FD,ht,hs];have e2:M.drop k=s::M.drop (k+1):=by
  rw[List.drop_eq_getElem_cons hk];congr 1
  rw[jB hk] at hs;exact Option.some.inj hs
 rw[e2];unfold kP;rw[Option.toList_some,Option.toList_some,List.zipWith_append (by simp;omega)];simp
def dS (I:List ByteArray) (M:List Sec):Bool:=(I.length:Int) !=M.length || kR I
theorem aa9 {tM tS:TypeId} {w:World} {b g:Nat} {M:List Sec} (h:kD tM tS w b g M) {i:Nat} {s:Sec} (hs:M[i]? =some s) (s':Sec):
  kD tM tS (((((w.setCell ⟨g,i*5,none⟩ (.string s'.now)).setCell ⟨g,i*5+1,none⟩ (.string s'.before)).setCell ⟨g,i*5+2,none⟩ (.string s'.fresh)).setCell ⟨g,i*5+3,none⟩ (.bool s'.dirty)).setCell ⟨g,i*5+4,none⟩ (.bool s'.eX)) b g (M.set i s'):=by
 obtain⟨now,before,fresh,dirty,eX⟩:=s;obtain⟨now',before',fresh',NP,afB⟩:=s';have hi:=(List.getElem?_eq_some_iff.1 hs).1;have g1:=h.store (i:=i) (j:=0) (s':=⟨now',before,fresh,dirty,eX⟩) (v:= .string now') hs (by omega) rfl;have g2:=g1.store (i:=i) (j:=1) (s:=⟨now',before,fresh,dirty,eX⟩) (s':=⟨now',before',fresh,dirty,eX⟩) (v:= .string before') (List.getElem?_set_self hi) (by omega) rfl;have g3:=g2.store (i:=i) (j:=2) (s:=⟨now',before',fresh,dirty,eX⟩) (s':=⟨now',before',fresh',dirty,eX⟩) (v:= .string fresh') (List.getElem?_set_self (by simpa using hi)) (by omega) rfl;have g4:=g3.store (i:=i) (j:=3) (s:=⟨now',before',fresh',dirty,eX⟩) (s':=⟨now',before',fresh',NP,eX⟩) (v:= .bool NP) (List.getElem?_set_self (by simpa using hi)) (by omega) rfl;have g5:=g4.store (i:=i) (j:=4) (s:=⟨now',before',fresh',NP,eX⟩) (s':=⟨now',before',fresh',NP,afB⟩) (v:= .bool afB) (List.getElem?_set_self (by simpa using hi)) (by omega) rfl
 simpa [List.set_set] using g5
theorem G9 {w w2:World} {g:Nat} (h:w.grownBy w2 (some g)) (i1 i2 i3 i4 i5:Nat) (v1 v2 v3 v4 v5:Value):
  w.grownBy (((((w2.setCell ⟨g,i1,none⟩ v1).setCell ⟨g,i2,none⟩ v2).setCell ⟨g,i3,none⟩ v3).setCell ⟨g,i4,none⟩ v4).setCell ⟨g,i5,none⟩ v5) (some g):=
 bG (bG (bG (bG (bG h (au _ _ _ _)) (au _ _ _ _)) (au _ _ _ _)) (au _ _ _ _)) (au _ _ _ _)
section
variable {w:World} {b g:Nat} {M:List Sec}
theorem aat (h:jP w b g M) (v:Value) (I:List ByteArray) (hv:Texts w v I) (hN:I.length<=1048576):
  Calls Tryz.prog 56 #[.pointer (some ⟨b,0,none⟩),v] w fun e w'=>e= .returned (.int .i64 (if dS I M then 1 else 0))/\jP w' b g (if dS I M then M else kP I M)/\w.grownBy w' (some g):=by
 have HC:=zh (NM w v I hv (by omega));obtain⟨A,c,rfl,hc1,hc2,hc3⟩:=hv.parts;obtain⟨cap,hc,hcap,hm⟩:=h.head;unfold maxLen at hm hc2;have H3:=zh hc3;clear hc3 hv;have hne:∀ {gb cs},ak w gb 9 cs->gb≠g:=by
  obtain⟨_,cur,_,hbg,_⟩:=h.body;exact fun hb=>hb.gY hbg (by decide)
 have HM:=zh h;clear h;cases hq:((I.length:Int) !=M.length)
 ·have hl:I.length=M.length:=by have:(I.length:Int)=M.length:=(by simpa using hq);omega
  cases hw:kR I
  ·rw[hw] at HC;have e:dS I M=false:=by unfold dS;rw[hq,hw];rfl
   rw[e];have Hl:=zh hl;clear e hl hw;go_enter Tryz.func56,Tryz.ntmps56;go_wp2_with (go_at_call 93;refine HC.out.mono ?_;rintro e w' ⟨rfl,rfl⟩);go_loopw [6,7,23] (fun _ _ a wr=>∃ k:Nat,k<=M.length/\a= .int .i64 k/\jP wr b g (kS I M k)/\w.grownBy wr (some g)) (fun _ _ a _=>M.length-(intOf a).toNat)
   case atStart=>exact⟨0,iT _,rfl,by rw[EO];exact HM.out,iJ _ _⟩
   case round=>
    obtain⟨k,hk,rfl,hM,hg⟩:=hrel;have hlen:=vZ I M k Hl.out hk;have HL2:=zh Hl.out;by_cases hkl:k<M.length
    ·obtain⟨t,ht⟩:∃ t,I[k]? =some t:=⟨_,jB (by have:=Hl.out;omega)⟩;obtain⟨s,hs⟩:∃ s,M[k]? =some s:=⟨_,jB hkl⟩;obtain⟨gb,cs,rfl,hb,hct⟩:=H3.out k t ht;have hng:=hne hb;have agJ:=hg.cell hct (by simp;exact hng);have hs1:(kS I M k)[k]? =some s:=by rw[Lu I M k Hl.out hkl,hs]
     obtain⟨c0,c1,c2,c3,c4⟩:=hM.sec hs1;obtain⟨cap1,hc',hcap',hm'⟩:=hM.head;rw[hlen] at hc' hcap';unfold maxLen at hm';have hfr:=hM.frozen;have Hs1:=zh hs1;have Hsu:=zh (EP I M k t s Hl.out ht hs);clear hs1 ht hs hlen hct;have hkI:k<I.length:=by have:=Hl.out;omega
     go_wp2_with fail
     go_still_tail 17,(by kernel_rfl)
     change wpList _ _ _ _ _ wr.drew;have hM2:jP wr.drew b g (kS I M k):=hM.grown (grown_drewN wr 1 none) (by simp) (by simp);have hg2:w.grownBy wr.drew (some g):=bG hg (grown_drewN wr 1 _);clear c0 c1 c2 c3 c4 agJ hc' hfr hM hg;generalize wr.drew=w2 at hM2 hg2 ⊢;clear wr;obtain⟨c0,c1,c2,c3,c4⟩:=hM2.sec Hs1.out;have hfr:=hM2.frozen;obtain⟨cap2,hc',_⟩:=hM2.head;rw[vZ I M k Hl.out hk] at hc';go_wp2_with fail;go_roundw
     case rel=>exact⟨k+1,by omega,by go_num,by rw[Hsu.out];exact aa9 hM2 Hs1.out ⟨t,t,⟨#[]⟩,false,s.eX⟩,G9 hg2 _ _ _ _ _ _ _ _ _ _⟩
     case measure=>simp[intOf];omega
    ·obtain rfl:k=M.length:=by omega
     rw[G8 I M Hl.out] at hM;have hnl:¬ M.length<I.length:=by have:=Hl.out;omega
     go_wp2_with fail;go_ret;exact⟨rfl,hM,hg⟩
  ·rw[hw] at HC;have e:dS I M=true:=by unfold dS;rw[hq,hw];rfl
   rw[e];clear e hl hw;go_enter Tryz.func56,Tryz.ntmps56;go_wp2_with (go_at_call 93;refine HC.out.mono ?_;rintro e w' ⟨rfl,rfl⟩);go_ret;exact⟨rfl,HM.out,iJ _ _⟩
 ·have e:dS I M=true:=by unfold dS;rw[hq];rfl
  rw[e];clear e;go_enter Tryz.func56,Tryz.ntmps56;go_wp2_with fail;go_ret;exact⟨rfl,HM.out,iJ _ _⟩
end
theorem adz:(Tryz.prog.info? 139).map (fun i=>(i.zero,i.size,i.bytes))=some (some (.agg #[.string ⟨#[]⟩,.string ⟨#[]⟩,.string ⟨#[]⟩,.bool false,.bool false]),5,56):=by kernel_rfl
section
variable {tM tS:TypeId} {w w':World} {b g:Nat} {M:List Sec}
theorem Bd {base:Nat} {v:Value} (hp:0<M.length) (hv:w.ownsRow base tS 5 v M.length (cO M)) (hb:ak w b tM #[v]) (ht:tM≠tS):∃ g,base<=g/\kD tM tS w b g M:=by
 rcases hv.2 with⟨_,h0⟩ | ⟨g,cap,cur,rfl,h1,h2,h3,h4,h5,h6⟩
 ·omega
 ·exact⟨g,h1,hb.gY h2 ht,hp,cap,cur,hb,h2,h3,h4,h5,h6⟩
end
section
variable {w:World} {b g:Nat} {M:List Sec}
theorem BM (s:Sec):∀ u ∈ jo s,u.oneCell'=true:=by
 intro u hu;simp[jo] at hu;rcases hu with rfl | rfl | rfl | rfl | rfl<;>rfl
theorem Nh (M:List Sec):∀ u ∈ cO M,u.oneCell'=true:=by
 intro u hu;simp only[cO,List.mem_flatMap] at hu;obtain⟨s,_,hs⟩:=hu;exact BM s u hs
end
end Go.Proofs.YtpghocekofdpbaaGreatDoor
