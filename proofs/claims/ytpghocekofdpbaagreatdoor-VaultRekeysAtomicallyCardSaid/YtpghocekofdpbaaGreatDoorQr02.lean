import Derived.Test.YtpghocekofdpbaaGreatDoorQr00
import Derived.RangeFuncNested
import Derived.RangeFuncBound
import Derived.OrdersIn
namespace Go.Proofs.YtpghocekofdpbaaGreatDoor.Sec
open Go.RowKit
def PX {α:Type} (F:Fence) (n:Nat) (P:Program) (g:Nat) (lb:Array Value) (encs:α->Array Value) (G:List α->World->Prop) (Nx:List α->α->Prop) (S:List α->Prop):Prop:=
 ∀ (l:Nat) (J:List α->World->Prop) (W:World),(∀ pre W1,J pre W1->G pre W1)->(∀ pre W1 W2,J pre W1->Below W1.heap.size W1 W2->J pre W2)->
  (∀ pre x W1,J pre W1->Nx pre x->YieldAt F (n-1) P l (encs x) W1 fun e W'=>e= .returned (.bool true)/\J (pre++ [x]) W')->
  J [] W->
  CallsIn F n P g (#[.func (.yield l) #[] #[]]++lb) W fun e W'=>(∃ v,e= .returned v)/\∃ xs,S xs/\J xs W'
def Nz {α:Type} (I:List α->World->Prop) (xs:List α) (W:World):Exit->Act->World->Prop
 | .normal,_,W'=>KeepsOthers W W'/\I xs W'
 | _,_,_=>False
variable {F:Fence} {n:Nat} {P:Program}
theorem xO {α:Type} {g:Operand} {ps:Array Tmp} {assign body:Code} {Q:Exit->Act->World->Prop} {a:Act} {w:World}
  (hro:F.round=none) (h1:1<=n) {gf:Nat} {lb:Array Value} (hg:a.eval g= .func (.func gf) #[] lb) (hFg:F.fn gf) (eg:∀ args w,(callFunc gf args).run P w= .ok (.enter gf args) w)
  {encs:α->Array Value} {G:List α->World->Prop} {Nx:List α->α->Prop} {S:List α->Prop} (hseq:PX F (n-1) P gf lb encs G Nx S)
  (hps:∀ x,(encs x).size=ps.size)
  (I:List α->World->Prop) (hI:OwnFrom w.heap.size I) (hG:∀ pre W1,I pre W1->G pre W1) (h0:I [] w) (a₁:α->Act)
  (hassign:∀ (l:Nat) (x:α) (W:World) (K:Act->World->Prop),K (a₁ x) W->
   assign.wpIn (F.inRound l) (n-1-1) P (Exit.then K (fun _ _ _=>False)) { tmps:=(ps.zip (encs x)).foldl (fun t (p,v)=>t.setIfInBounds p v) a.tmps,defers:= [] } W)
  (hbody:∀ (l:Nat) (pre:List α) (x:α) (W:World),I pre W->Nx pre x->body.wpIn (F.inRound l) (n-1-1) P (Nz I (pre++ [x]) W) (a₁ x) W)
  (hdone:∀ (D:Nat) (xs:List α) (W:World),w.heap.size<=D->S xs->I xs W->W.heap[D]? =some (.deferred (some []))->Q .normal { a with defers:= { target:= .collected D,args:= #[] }::a.defers } W):
  (Code.rangeFunc g ps assign body).wpIn F n P Q a w:=by
 refine wpIn_rangeFunc ?_;intro fn hfn;rw[hro];obtain⟨rec,hrec⟩:∃ rec:LoopState->Option Code->Loop,rec=fun st pe=> { state:=st,pending:=pe,fn,tmps:=a.tmps,params:=ps,assign,body,defers:=w.heap.size }:=⟨_,rfl⟩
 obtain⟨W1,hW1⟩:∃ W1,(w.alloc (.deferred (some []))).alloc (.loop (rec .ready none))=W1:=⟨_,rfl⟩;have hL1:W1.heap[w.heap.size+1]? =some (.loop (rec .ready none)):=by
  rw[<-hW1];have:=World.alloc_heap_new (w.alloc (.deferred (some []))) (.loop (rec .ready none));rwa [oz] at this
 have hK1:W1.heap[w.heap.size]? =some (.deferred (some [])):=by
  rw[<-hW1];exact(Below.heap_alloc _ _ _ (by simp)).trans (World.alloc_heap_new w _)
 have hI1:I [] W1:=by rw[<-hW1];exact hI.alloc _ (hI.alloc _ h0)
 refine⟨w.heap.size+1,[{ target:= .collected w.heap.size,args:= #[] }],W1,{ target:= .fn (.func gf) lb,args:= #[.func (.yield (w.heap.size+1)) #[] #[]] },W1,gf,
  #[.func (.yield (w.heap.size+1)) #[] #[]]++lb,W1,?_,?_,?_,?_,fun _=>h1,?_⟩
 ·rw[<-hW1,hrec];exact run_enterLoop_outer _ _ _ _ _
 ·simp only[resolve,hg];simp[go_sem]
 ·intro f' hf';simp[Target.leads] at hf';subst hf';exact hFg
 ·simp[invoke,go_sem,eg]
 ·refine(hseq (w.heap.size+1)
   (fun pre W=>I pre W/\W.heap[w.heap.size+1]? =some (.loop (rec .ready none))/\W.heap[w.heap.size]? =some (.deferred (some [])))
   W1 (fun pre W hJ=>hG pre W hJ.1) (fun pre A B hJ hB=>⟨hI pre A B none hJ.1 ⟨hB.os,hB.tape,hB.output,hB.size,fun k hk _=>hB.block k hk⟩ (fun _ e=>by cases e),(hB.block _ (Array.getElem?_eq_some_iff.1 hJ.2.1).1).trans hJ.2.1,(hB.block _ (Array.getElem?_eq_some_iff.1 hJ.2.2).1).trans hJ.2.2⟩) ?_ ⟨hI1,hL1,hK1⟩).mono ?_
  ·
   rintro pre x W ⟨hi,hl,hk⟩ hnx;have hlt:w.heap.size+1<W.heap.size:=(Array.getElem?_eq_some_iff.1 hl).1;have hy:=run_yield (P:=P) (args:=encs x) hl (by rw[hrec];exact hps x);rw[hrec] at hy;refine⟨fn,_,assign,body,hy,roundIn_of_wpIn hfn (hassign _ x W _ ⟨_,run_beginRound hl (by rw[hrec]),?_⟩)⟩;have hl2:(W.putObj (w.heap.size+1) (.loop { rec .ready none with state:= .busy })).heap[w.heap.size+1]? =some (.loop { rec .ready none with state:= .busy }):=World.putObj_heap_same hlt;have hk2:(W.putObj (w.heap.size+1) (.loop { rec .ready none with state:= .busy })).heap[w.heap.size]? =some (.deferred (some [])):=(World.putObj_heap_other (by omega)).trans hk;refine wpIn_mono (hbody _ pre x _ (hI.putObj _ hi (by omega) hl rfl) hnx) ?_;rintro e a3 W3 hp;cases e with
   | normal=>
    obtain⟨hk3,hi3⟩:=hp;have hl3:=hk3.same _ _ hl2 rfl;have hr:=run_endRound (P:=P) none hl3;rw[hrec] at hr hl3;refine⟨_,_,hr,rfl,hI.putObj _ hi3 (by omega) hl3 rfl,?_,?_⟩
    ·rw[hrec];exact World.putObj_heap_same (Array.getElem?_eq_some_iff.1 hl3).1
    ·exact(World.putObj_heap_other (by omega)).trans (hk3.same _ _ hk2 rfl)
   | ret=>exact hp.elim
   | exit id=>exact hp.elim
   | goto t=>exact hp.elim
   | panic ch=>exact hp.elim
   | outgrown=>exact hp.elim
  ·
   rintro e W2 ⟨⟨v,rfl⟩,xs,hS,hi,hl,hk⟩;exact⟨none,_,by have:=run_endLoop (P:=P) hl (by rw[hrec];simp);rw[hrec] at this;exact this,hdone _ xs _ (aF _) hS (hI.putObj _ hi (by omega) hl rfl) ((World.putObj_heap_other (by omega)).trans hk)⟩
end Go.Proofs.YtpghocekofdpbaaGreatDoor.Sec
namespace Go.Proofs.YtpghocekofdpbaaGreatDoor
open Go.RowKit
theorem vC {g:Nat} {t:TypeId}:∀ (vs:List Value) (o:Nat) (w:World) (cs:Array Value),ak w g t cs->
  ∃ ds:Array Value,ak (w.setCells g o vs) g t ds/\ds.size=cs.size/\(∀ j,o<=j->j<o+vs.length->j<cs.size->ds[j]? =vs[j-o]?)/\∀ j,j<o\/o+vs.length<=j->ds[j]? =cs[j]?
 | [],o,w,cs,h=>⟨cs,h,rfl,fun j h1 h2 _=>by simp at h2;omega,fun _ _=>rfl⟩
 | v::r,o,w,cs,h=>by
  obtain⟨ds,h1,h2,h3,h4⟩:=vC r (o+1) (w.setCell ⟨g,o,none⟩ v) _ (h.aB o v);refine⟨ds,h1,by rw[h2];simp,fun j hj1 hj2 hj3=>?_,fun j hj=>?_⟩
  ·by_cases e:j=o
   ·subst e;rw[h4 j (.inl (by omega)),Array.getElem?_setIfInBounds,if_pos rfl,if_pos hj3,Nat.sub_self];rfl
   ·rw[h3 j (by omega) (by simp at hj2;omega) (by simpa using hj3)];rw[show j-o=(j-(o+1))+1 by omega];rfl
  ·rw[h4 j (by simp at hj;omega),Array.getElem?_setIfInBounds,if_neg (by simp at hj;omega)]
theorem aW {w:World} {g:Nat} {t:TypeId} {cs:Array Value} (h:ak w g t cs) (vs:List Value) (hl:vs.length=cs.size):ak (w.setCells g 0 vs) g t vs.toArray:=by
 obtain⟨ds,h1,h2,h3,_⟩:=vC vs 0 w cs h;have e:ds=vs.toArray:=by
  apply Array.ext_getElem?;intro j;by_cases hj:j<cs.size
  ·rw[h3 j (iT _) (by omega) hj,Nat.sub_zero,Ti]
  ·rw[Array.getElem?_eq_none (by omega),Array.getElem?_eq_none (by simp;omega)]
 rw[e] at h1;exact h1
theorem below_setCells {B:Nat} {w0:World} {g:Nat} (hg:B<=g):∀ (vs:List Value) (o:Nat) (w:World),Below B w0 w->Below B w0 (w.setCells g o vs)
 | [],_,_,h=>h
 | v::r,o,_,h=>below_setCells hg r (o+1) _ (h.setCell (p:=⟨g,o,none⟩) hg v)
theorem aU {w:World} {g:Nat} {t:TypeId} {cs:Array Value} (h:ak w g t cs) {o n:Nat} (hn:o+n<=cs.size):w.there g o n:=fun j hj=>
 ⟨by rw[h.cell,ZO (by omega)];rfl,h.frozen _⟩
theorem dZ {w:World} {g:Nat} {t:TypeId} {cs:Array Value} (h:ak w g t cs):w.rangeAt g 0 cs.toList:=fun j v hv=>by
 rw[AZ,h.cell,<-hv,Array.getElem?_toList]
theorem su {α:Type} (f:α->Value) (l:List α) (h:∀ a,(f a).oneCell'=true):(l.map f).toArray.all (·.oneCell')=true:=
 all_oneCell_toArray fun v hv=>by
  obtain⟨a,_,rfl⟩:=List.mem_map.1 hv;exact h a
end Go.Proofs.YtpghocekofdpbaaGreatDoor
namespace Go.Proofs.YtpghocekofdpbaaGreatDoor
open Go.RowKit
theorem zS {P:Program} (w:World) (dT sT ty elem:TypeId) (size g o dLen dCap:Nat) (b:ByteArray) (cur:Array Value) (t:TypeId) (cs:List Value)
  (hu:P.underlying dT=some (.slice elem)) (hs:(P.info? elem).map (·.size)=some size)
  (hcs:List.take (Nat.min b.size dLen) (List.map (fun b:UInt8=>Value.int .u8 (b.toNat:Int)) b.data.toList)=cs) (hg:w.heap[g]? =some (.cells cur t (0,0)))
  (hfit:o+cs.length<=cur.size) (h1:∀ v ∈ cs,v.oneCell'=true):
  (Builtin.copy_ #[dT,sT] ty #[.slice (some ⟨g,o,none⟩) dLen dCap,.string b]).run P w=
   .ok (goInt (Nat.min b.size dLen)) (w.setRow g (cur.toList.take o++cs++cur.toList.drop (o+cs.length)).toArray):=by
 have hst:=run_storeCells_at P g o t cs 0 cur w hg (by simpa using hfit) h1;cases hq:P.info? elem with
 | none=>simp[hq] at hs
 | some i=>
  simp[Builtin.copy_,run_underlying hu,Builtin.lenOf,Builtin.firstCells,sizeOf,typeInfo,hq,hcs,hst]
theorem Dz {P:Program} {w:World} {ops:Array Oper} {rest:List Oper} {o:Oper} {a:Act} {Q:Exit->Act->World->Prop} (hgd:o.guard=none) (d s:Operand) (dT sT:TypeId)
  (ho:o.op= .call { callee:= .builtin .copy,args:= #[d,s],argTypes:= #[dT,sT] }) (elem:TypeId) (size:Nat) (hu:P.underlying dT=some (.slice elem)) (hsz:(P.info? elem).map (·.size)=some size)
  (g off dLen dCap:Nat) (b:ByteArray) (hd:a.eval d= .slice (some ⟨g,off,none⟩) dLen dCap) (hs:a.eval s= .string b)
  (cur:Array Value) (t:TypeId) (cs:List Value) (hcs:List.take (Nat.min b.size dLen) (List.map (fun b:UInt8=>Value.int .u8 (b.toNat:Int)) b.data.toList)=cs) (hg:w.heap[g]? =some (.cells cur t (0,0)))
  (hfit:off+cs.length<=cur.size) (h1:∀ v ∈ cs,v.oneCell'=true)
  (h:wpList P ops Q rest (a.put o.dst (goInt (Nat.min b.size dLen))) (w.setRow g (cur.toList.take off++cs++cur.toList.drop (off+cs.length)).toArray)):wpList P ops Q (o::rest) a w:=by
 refine wpList_plain hgd fun K hK=>?_
 have hrun:=zS (P:=P) w dT sT o.type elem size g off dLen dCap b cur t cs hu hsz hcs hg hfit h1;unfold Oper.wp;simp[execOp,ho,resolve,invoke,builtin,hd,hs,hrun,Result.andThen];exact hK _ _ (by simpa using h)
end Go.Proofs.YtpghocekofdpbaaGreatDoor
namespace Go.Proofs.YtpghocekofdpbaaGreatDoor
open Go.RowKit
def PO {α:Type} (F:Fence) (n:Nat) (P:Program) (g:Nat) (lb:Array Value) (encs:α->Array Value) (G:List α->World->Prop) (Nx:List α->α->World->Prop) (S:List α->Prop):Prop:=
 ∀ (l:Nat) (J Jx:List α->World->Prop) (W:World),(∀ pre W1,J pre W1->G pre W1)->
  (∀ pre W1 W2,J pre W1->Below W1.heap.size W1 W2->J pre W2)->(∀ pre W1 W2,Jx pre W1->Below W1.heap.size W1 W2->Jx pre W2)->
  (∀ pre x W1,J pre W1->Nx pre x W1->YieldAt F (n-1) P l (encs x) W1 fun e W'=>(e= .returned (.bool true)/\J (pre++ [x]) W')\/(e= .returned (.bool false)/\Jx (pre++ [x]) W'))->
  J [] W->
  CallsIn F n P g (#[.func (.yield l) #[] #[]]++lb) W fun e W'=>(∃ v,e= .returned v)/\((∃ xs,S xs/\J xs W')\/∃ xs,Jx xs W')
def ag2 {α:Type} (I:List α->World->Prop) (Ix:Code->List α->World->Prop) (xs:List α) (W:World):Exit->Act->World->Prop
 | .normal,_,W'=>KeepsOthers W W'/\I xs W'
 | .ret,_,W'=>KeepsOthers W W'/\Ix .ret xs W'
 | .exit id,_,W'=>KeepsOthers W W'/\Ix (.exit id) xs W'
 | .goto t,_,W'=>KeepsOthers W W'/\Ix (.goto t) xs W'
 | .panic _,_,_=>False
 | .outgrown,_,_=>False
variable {F:Fence} {n:Nat} {P:Program}
end Go.Proofs.YtpghocekofdpbaaGreatDoor
namespace Go.Proofs.YtpghocekofdpbaaGreatDoor
open Go.RowKit
section
variable {F:Fence} {n:Nat} {P:Program}
theorem oG {α:Type} {g:Operand} {ps:Array Tmp} {assign body:Code} {Q:Exit->Act->World->Prop} {a:Act} {w:World}
  (hro:F.round=none) (h1:1<=n) {gf:Nat} {lb:Array Value} (hg:a.eval g= .func (.func gf) #[] lb) (hFg:F.fn gf) (eg:∀ args w,(callFunc gf args).run P w= .ok (.enter gf args) w)
  {encs:α->Array Value} {G:List α->World->Prop} {Nx:List α->α->World->Prop} {S:List α->Prop} (hseq:PO F (n-1) P gf lb encs G Nx S)
  (hps:∀ x,(encs x).size=ps.size)
  (I:List α->World->Prop) (Ix:Code->List α->World->Prop) (hI:OwnFrom w.heap.size I) (hIx:∀ c,OwnFrom w.heap.size (Ix c)) (hG:∀ pre W1,I pre W1->G pre W1) (hN:∀ pre x,OwnFrom w.heap.size (fun(_:Unit) W=>Nx pre x W)) (h0:I [] w) (As:List α->α->Act->World->Prop) (hAs:∀ pre x a₁,OwnFrom w.heap.size (fun(_:Unit) W=>As pre x a₁ W))
  (hassign:∀ (l:Nat) (pre:List α) (x:α) (W:World) (K:Act->World->Prop),w.heap.size<=W.heap.size->I pre W->(∀ a₁ W1,As pre x a₁ W1->Below W.heap.size W W1->K a₁ W1)->
   assign.wpIn (F.inRound l) (n-1-1) P (Exit.then K (fun _ _ _=>False)) { tmps:=(ps.zip (encs x)).foldl (fun t (p,v)=>t.setIfInBounds p v) a.tmps,defers:= [] } W)
  (hbody:∀ (l:Nat) (pre:List α) (x:α) (a₁:Act) (W:World),w.heap.size<=W.heap.size->I pre W->Nx pre x W->As pre x a₁ W->body.wpIn (F.inRound l) (n-1-1) P (ag2 I Ix (pre++ [x]) W) a₁ W)
  (hdone:∀ (D:Nat) (xs:List α) (W:World),w.heap.size<=D->S xs->I xs W->W.heap[D]? =some (.deferred (some []))->Q .normal { a with defers:= { target:= .collected D,args:= #[] }::a.defers } W)
  (hstop:∀ (D:Nat) (c:Code) (pre:List α) (W:World),w.heap.size<=D->Ix c pre W->W.heap[D]? =some (.deferred (some []))->c.wpIn F n P Q { a with defers:= { target:= .collected D,args:= #[] }::a.defers } W):
  (Code.rangeFunc g ps assign body).wpIn F n P Q a w:=by
 refine wpIn_rangeFunc ?_;intro fn hfn;rw[hro];obtain⟨rec,hrec⟩:∃ rec:LoopState->Option Code->Loop,rec=fun st pe=> { state:=st,pending:=pe,fn,tmps:=a.tmps,params:=ps,assign,body,defers:=w.heap.size }:=⟨_,rfl⟩
 obtain⟨W1,hW1⟩:∃ W1,(w.alloc (.deferred (some []))).alloc (.loop (rec .ready none))=W1:=⟨_,rfl⟩;have hL1:W1.heap[w.heap.size+1]? =some (.loop (rec .ready none)):=by
  rw[<-hW1];have:=World.alloc_heap_new (w.alloc (.deferred (some []))) (.loop (rec .ready none));rwa [oz] at this
 have hK1:W1.heap[w.heap.size]? =some (.deferred (some [])):=by
  rw[<-hW1];exact(Below.heap_alloc _ _ _ (by simp)).trans (World.alloc_heap_new w _)
 have hI1:I [] W1:=by rw[<-hW1];exact hI.alloc _ (hI.alloc _ h0)
 have bel:∀ {A B:World},Below A.heap.size A B->A.grownBy B none:=fun hB=>⟨hB.os,hB.tape,hB.output,hB.size,fun k hk _=>hB.block k hk⟩
 refine⟨w.heap.size+1,[{ target:= .collected w.heap.size,args:= #[] }],W1,{ target:= .fn (.func gf) lb,args:= #[.func (.yield (w.heap.size+1)) #[] #[]] },W1,gf,
  #[.func (.yield (w.heap.size+1)) #[] #[]]++lb,W1,?_,?_,?_,?_,fun _=>h1,?_⟩
 ·rw[<-hW1,hrec];exact run_enterLoop_outer _ _ _ _ _
 ·simp only[resolve,hg];simp[go_sem]
 ·intro f' hf';simp[Target.leads] at hf';subst hf';exact hFg
 ·simp[invoke,go_sem,eg]
 ·refine(hseq (w.heap.size+1)
   (fun pre W=>I pre W/\W.heap[w.heap.size+1]? =some (.loop (rec .ready none))/\W.heap[w.heap.size]? =some (.deferred (some [])))
   (fun pre W=>∃ c,Ix c pre W/\W.heap[w.heap.size+1]? =some (.loop (rec .done (some c)))/\W.heap[w.heap.size]? =some (.deferred (some [])))
   W1 (fun pre W hJ=>hG pre W hJ.1)
   (fun pre A B hJ hB=>⟨hI pre A B none hJ.1 (bel hB) (fun _ e=>by cases e),(hB.block _ (Array.getElem?_eq_some_iff.1 hJ.2.1).1).trans hJ.2.1,(hB.block _ (Array.getElem?_eq_some_iff.1 hJ.2.2).1).trans hJ.2.2⟩)
   (fun pre A B hJ hB=>by
    obtain⟨c,hc,hl,hk⟩:=hJ;exact⟨c,hIx c pre A B none hc (bel hB) (fun _ e=>by cases e),(hB.block _ (Array.getElem?_eq_some_iff.1 hl).1).trans hl,(hB.block _ (Array.getElem?_eq_some_iff.1 hk).1).trans hk⟩)
   ?_ ⟨hI1,hL1,hK1⟩).mono ?_
  ·
   rintro pre x W ⟨hi,hl,hk⟩ hnx;have hlt:w.heap.size+1<W.heap.size:=(Array.getElem?_eq_some_iff.1 hl).1;have hy:=run_yield (P:=P) (args:=encs x) hl (by rw[hrec];exact hps x);rw[hrec] at hy;refine⟨fn,_,assign,body,hy,roundIn_of_wpIn hfn (hassign _ pre x W _ (by omega) hi (fun a₁ Wa hAa hBa=>?_))⟩;have hla:=(hBa.block _ hlt).trans hl;have hka:=(hBa.block _ (Array.getElem?_eq_some_iff.1 hk).1).trans hk;have hia:=hI pre W Wa none hi (bel hBa) (fun _ e=>by cases e);have hna:=hN pre x () W Wa none hnx (bel hBa) (fun _ e=>by cases e);have ag1:w.heap.size+1<Wa.heap.size:=(Array.getElem?_eq_some_iff.1 hla).1;refine⟨_,run_beginRound hla (by rw[hrec]),?_⟩;have hl2:(Wa.putObj (w.heap.size+1) (.loop { rec .ready none with state:= .busy })).heap[w.heap.size+1]? =some (.loop { rec .ready none with state:= .busy }):=World.putObj_heap_same ag1;have hk2:(Wa.putObj (w.heap.size+1) (.loop { rec .ready none with state:= .busy })).heap[w.heap.size]? =some (.deferred (some [])):=(World.putObj_heap_other (by omega)).trans hka;have hsz:w.heap.size<=(Wa.putObj (w.heap.size+1) (.loop { rec .ready none with state:= .busy })).heap.size:=Nat.le_of_lt (Array.getElem?_eq_some_iff.1 hk2).1;refine wpIn_mono (hbody _ pre x a₁ _ hsz (hI.putObj _ hia (by omega) hla rfl) ((hN pre x).putObj (s:=()) _ hna (by omega) hla rfl) ((hAs pre x a₁).putObj (s:=()) _ hAa (by omega) hla rfl)) ?_;have fin:∀ (jump:Option Code) (W3:World),KeepsOthers (Wa.putObj (w.heap.size+1) (.loop { rec .ready none with state:= .busy })) W3->
     (Instr.endRound (w.heap.size+1) jump).run P W3= .ok (.bool jump.isNone) (W3.putObj (w.heap.size+1) (.loop (rec (if jump.isNone then .ready else .done) jump)))/\
     W3.heap[w.heap.size+1]? =some (.loop { rec .ready none with state:= .busy })/\
     (W3.putObj (w.heap.size+1) (.loop (rec (if jump.isNone then .ready else .done) jump))).heap[w.heap.size+1]? =some (.loop (rec (if jump.isNone then .ready else .done) jump))/\
     (W3.putObj (w.heap.size+1) (.loop (rec (if jump.isNone then .ready else .done) jump))).heap[w.heap.size]? =some (.deferred (some [])):=fun jump W3 hk3=>by
    have hl3:=hk3.same _ _ hl2 rfl;have:=run_endRound (P:=P) jump hl3;rw[hrec] at this ⊢;exact⟨this,by rw[hrec] at hl3;exact hl3,World.putObj_heap_same (Array.getElem?_eq_some_iff.1 hl3).1,(World.putObj_heap_other (by omega)).trans (hk3.same _ _ hk2 rfl)⟩
   rintro e a3 W3 hp;cases e with
   | normal=>
    obtain⟨hk3,hi3⟩:=hp;obtain⟨hr,hl3,hl4,hk4⟩:=fin none W3 hk3;exact⟨_,_,hr,.inl ⟨rfl,hI.putObj _ hi3 (by omega) hl3 rfl,hl4,hk4⟩⟩
   | ret=>
    obtain⟨hk3,hi3⟩:=hp;obtain⟨hr,hl3,hl4,hk4⟩:=fin (some .ret) W3 hk3;exact⟨_,_,hr,.inr ⟨rfl,.ret,(hIx _).putObj _ hi3 (by omega) hl3 rfl,hl4,hk4⟩⟩
   | exit id=>
    obtain⟨hk3,hi3⟩:=hp;obtain⟨hr,hl3,hl4,hk4⟩:=fin (some (.exit id)) W3 hk3;exact⟨_,_,hr,.inr ⟨rfl,.exit id,(hIx _).putObj _ hi3 (by omega) hl3 rfl,hl4,hk4⟩⟩
   | goto t=>
    obtain⟨hk3,hi3⟩:=hp;obtain⟨hr,hl3,hl4,hk4⟩:=fin (some (.goto t)) W3 hk3;exact⟨_,_,hr,.inr ⟨rfl,.goto t,(hIx _).putObj _ hi3 (by omega) hl3 rfl,hl4,hk4⟩⟩
   | panic ch=>exact hp.elim
   | outgrown=>exact hp.elim
  ·
   rintro e W2 ⟨⟨v,rfl⟩,(⟨xs,hS,hi,hl,hk⟩ | ⟨pre,c,hi,hl,hk⟩)⟩
   ·exact⟨none,_,by have:=run_endLoop (P:=P) hl (by rw[hrec];simp);rw[hrec] at this;exact this,hdone _ xs _ (aF _) hS (hI.putObj _ hi (by omega) hl rfl) ((World.putObj_heap_other (by omega)).trans hk)⟩
   ·exact⟨some c,_,by have:=run_endLoop (P:=P) hl (by rw[hrec];simp);rw[hrec] at this;exact this,hstop _ c pre _ (aF _) ((hIx c).putObj _ hi (by omega) hl rfl) ((World.putObj_heap_other (by omega)).trans hk)⟩
end
section
variable {P:Program} {ops:Array Oper} {Q:Exit->Act->World->Prop} {l n:Nat} {md:Region.Mode}
def Cc (ops:Array Oper):Bool:=ops.toList.all fun o=>match o.op with | .defer _=>false | _=>true
theorem UU (h:Cc ops=true) {i:Nat} {o:Oper} (hi:ops[i]? =some o):∀ c,o.op≠ .defer c:=by
 intro c e;have hm:o ∈ ops.toList:=by
  rw[<-Array.getElem?_toList] at hi;exact zI hi
 have:=List.all_eq_true.1 h o hm;rw[e] at this;cases this
theorem YS {row:String} {args:Array Value} {w:World} {R:Value->World->Prop} {m:Nat} (h:Rows P row args w R):RowsIn (Fence.wide.inRound l) m P row args w R:=
 fun c cs _=>let ⟨v,w',r,s⟩:=h c cs;⟨v,w',r,stepsIn_wide.2 s⟩
theorem UW (hd:Cc ops=true) (hQ:¬ LetsOut Q) {i:Nat} {K K':Act->World->Prop} {a:Act} {w:World} (hk:∀ a w,K a w->K' a w) (h:wpOp P ops Q i K a w):wpOpIn (Fence.wide.inRound l) n P ops Q i K' a w:=by
 unfold wpOp at h;unfold wpOpIn;cases ho:ops[i]? with
 | none=>
  simp only[ho] at h ⊢;exact hk _ _ h
 | some o=>
  simp only[ho] at h ⊢;by_cases hw:Region.wanted o (yielded ops a.tmps)=true
  ·rw[if_pos hw] at h ⊢;have h:=h.resolve_right (fun k=>hQ k.2);refine⟨fun _ _=>trivial,?_⟩;rw[Oper.semAt_eq _ _ _ (UU hd ho)];unfold Oper.wp at h;generalize (execOp a.eval o).run P w=r at h ⊢;cases r with
   | ok x w'=>
    cases x with
    | value v=>exact hk _ _ h
    | skip=>exact hk _ _ h
    | defer d=>exact hk _ _ h
    | enter f args=>
     refine⟨fun k=>by simp[Fence.wide] at k,CallsIn.inRound l (callsIn_wide.2 (Calls.mono h ?_))⟩;rintro e w'' he;cases e<;>first | exact hk _ _ he | exact he
    | row r args=>exact⟨fun k=>by simp[Fence.wide] at k,(YS h).mono (fun _ _ he=>hk _ _ he)⟩
    | _=>exact h.elim
   | halt x w'=>cases x<;>exact h
  ·rw[if_neg hw] at h ⊢;exact⟨fun _ _=>trivial,hk _ _ h⟩
theorem yB (hd:Cc ops=true) (hQ:¬ LetsOut Q):∀ (fuel:Nat) (listed:Array Bool) (a:Act) (w:World),wpAny P md ops Q fuel listed a w->wpAnyIn (Fence.wide.inRound l) n P md ops Q fuel listed a w
 | 0,_,_,_,h=>h
 | fuel+1,_,_,_,h=>⟨h.1,fun i hi=>UW hd hQ (fun a w=>yB hd hQ fuel _ a w) (h.2 i hi)⟩
theorem BD {S:World->Prop} {id:Nat} {a:Act} {w:World} (hm:P.follows .mixedOrders=true) (hd:Cc ops=true) (hQ:¬ LetsOut Q) (hS:S w.drew)
  (h:S w.drew->wpAnyH P .any ops Q S ops.size (Array.replicate ops.size false) a w.drew):(Code.region id ops true).wpIn (Fence.wide.inRound l) n P Q a w:=
 wpIn_region_any hm (yB hd hQ _ _ _ _ (wpAny_of_held _ _ _ _ (h hS)))
end
end Go.Proofs.YtpghocekofdpbaaGreatDoor
namespace Go.Proofs.YtpghocekofdpbaaGreatDoor
open Go.RowKit
def jw (Ws:Nat->Prop) (W W':World):Prop:=W.heap.size<=W'.heap.size/\∀ k cs t z,W.heap[k]? =some (.cells cs t z)->¬ Ws k->W'.heap[k]? =W.heap[k]?
theorem jw.trans {Ws:Nat->Prop} {A B C:World} (h:jw Ws A B) (k:jw Ws B C):jw Ws A C:=
 ⟨fU h.1 k.1,fun j cs t z hj hw=>(k.2 j cs t z ((h.2 j cs t z hj hw).trans hj) hw).trans (h.2 j cs t z hj hw)⟩
theorem jw.bD {Ws:Nat->Prop} {A B:World} (h:Below A.heap.size A B):jw Ws A B:=
 ⟨h.size,fun j _ _ _ hj _=>h.block j (Array.getElem?_eq_some_iff.1 hj).1⟩
theorem jw.putObj {Ws:Nat->Prop} {A:World} {l:Nat} {o o':Obj} (hl:A.heap[l]? =some o) (ho:o.isCells=false):jw Ws A (A.putObj l o'):=by
 refine⟨by simp[World.putObj],fun j cs t z hj _=>World.putObj_heap_other (fun e=>?_)⟩;subst e;rw[hl] at hj;cases hj;cases ho
theorem jw.setCell {Ws:Nat->Prop} {A:World} {b i:Nat} (v:Value) (hb:Ws b):jw Ws A (A.setCell ⟨b,i,none⟩ v):=
 ⟨by simp[World.setCell],fun j _ _ _ _ hw=>Below.heap_setCell A ⟨b,i,none⟩ v j (fun e=>hw (by have e':j=b:=e;rw[e'];exact hb))⟩
theorem jw.grown {Ws:Nat->Prop} {A B:World} {row:Option Nat} (h:A.grownBy B row) (hr:∀ r,row=some r->Ws r):jw Ws A B:=
 ⟨h.size,fun j _ _ _ hj hw=>h.block j (Array.getElem?_eq_some_iff.1 hj).1 (fun e=>hw (hr j e.symm))⟩
theorem jw.blk {Ws:Nat->Prop} {A B:World} (h:jw Ws A B) {k:Nat} {t:TypeId} {cs:Array Value} (hk:ak A k t cs) (hw:¬ Ws k):ak B k t cs:=(h.2 k cs t (0,0) hk hw).trans hk
theorem jw.mono {A B:Nat->Prop} {W W':World} (h:jw A W W') (hs:∀ k,A k->B k):jw B W W':=⟨h.1,fun j cs t z hj hw=>h.2 j cs t z hj (fun e=>hw (hs j e))⟩
theorem Cb (A:World) (l:Nat) (o:Obj):A.grownBy (A.putObj l o) (some l):=
 ⟨rfl,rfl,rfl,by simp[World.putObj],fun j _ hne=>World.putObj_heap_other (fun e=>hne (by rw[e]))⟩
def Xq {α:Type} (Ws:World->Nat->Prop) (F:Fence) (n:Nat) (P:Program) (g:Nat) (lb:Array Value) (encs:α->Array Value) (G:List α->World->Prop) (Nx:List α->α->World->Prop) (S:List α->Prop):Prop:=
 ∀ (l:Nat) (J Jx:List α->World->Prop) (W:World),(∀ pre A B k,J pre A->Below A.heap.size A B->Ws B k->Ws A k)->(∀ pre A k,J pre A->Ws A k->k<A.heap.size)->(∀ pre W1,J pre W1->G pre W1)->
  (∀ pre W1 W2,J pre W1->Below W1.heap.size W1 W2->J pre W2)->(∀ pre W1 W2,Jx pre W1->Below W1.heap.size W1 W2->Jx pre W2)->
  (∀ pre x W1,J pre W1->Nx pre x W1->YieldAt F (n-1) P l (encs x) W1 fun e W'=>(e= .returned (.bool true)/\J (pre++ [x]) W'/\jw (Ws W1) W1 W'/\∀ k,Ws W' k->Ws W1 k\/W1.heap.size<=k)\/(e= .returned (.bool false)/\Jx (pre++ [x]) W'))->
  J [] W->
  CallsIn F n P g (#[.func (.yield l) #[] #[]]++lb) W fun e W'=>(∃ v,e= .returned v)/\((∃ xs,S xs/\J xs W')\/∃ xs,Jx xs W')
def aec {α:Type} (Ws:World->Nat->Prop) (I:List α->World->Prop) (Ix:Code->List α->World->Prop) (xs:List α) (W:World):Exit->Act->World->Prop
 | .normal,_,W'=>KeepsOthers W W'/\jw (Ws W) W W'/\(∀ k,Ws W' k->Ws W k\/W.heap.size<=k)/\I xs W'
 | .ret,_,W'=>KeepsOthers W W'/\Ix .ret xs W'
 | .exit id,_,W'=>KeepsOthers W W'/\Ix (.exit id) xs W'
 | .goto t,_,W'=>KeepsOthers W W'/\Ix (.goto t) xs W'
 | .panic _,_,_=>False
 | .outgrown,_,_=>False
section
variable {F:Fence} {n:Nat} {P:Program}
theorem zM {α:Type} {Ws:World->Nat->Prop} {g:Operand} {ps:Array Tmp} {assign body:Code} {Q:Exit->Act->World->Prop} {a:Act} {w:World}
  (hro:F.round=none) (h1:1<=n) {gf:Nat} {lb:Array Value} (hg:a.eval g= .func (.func gf) #[] lb) (hFg:F.fn gf) (eg:∀ args w,(callFunc gf args).run P w= .ok (.enter gf args) w)
  {encs:α->Array Value} {G:List α->World->Prop} {Nx:List α->α->World->Prop} {S:List α->Prop} (hseq:Xq Ws F (n-1) P gf lb encs G Nx S)
  (hps:∀ x,(encs x).size=ps.size)
  (I:List α->World->Prop) (Ix:Code->List α->World->Prop) (hI:OwnFrom w.heap.size I) (hIx:∀ c,OwnFrom w.heap.size (Ix c)) (hWs:∀ pre A B row,I pre A->A.grownBy B row->(∀ r,row=some r->w.heap.size<=r/\∃ o:Obj,A.heap[r]? =some o/\o.isCells=false)->∀ k,Ws B k->Ws A k) (hWl:∀ pre A k,I pre A->Ws A k->k<A.heap.size) (hG:∀ pre W1,I pre W1->G pre W1) (hN:∀ pre x,OwnFrom w.heap.size (fun(_:Unit) W=>Nx pre x W)) (h0:I [] w) (As:List α->α->Act->World->Prop) (hAs:∀ pre x a₁,OwnFrom w.heap.size (fun(_:Unit) W=>As pre x a₁ W))
  (hassign:∀ (l:Nat) (pre:List α) (x:α) (W:World) (K:Act->World->Prop),w.heap.size<=W.heap.size->I pre W->(∀ a₁ W1,As pre x a₁ W1->Below W.heap.size W W1->K a₁ W1)->
   assign.wpIn (F.inRound l) (n-1-1) P (Exit.then K (fun _ _ _=>False)) { tmps:=(ps.zip (encs x)).foldl (fun t (p,v)=>t.setIfInBounds p v) a.tmps,defers:= [] } W)
  (hbody:∀ (l:Nat) (pre:List α) (x:α) (a₁:Act) (W:World),w.heap.size<=W.heap.size->I pre W->Nx pre x W->As pre x a₁ W->body.wpIn (F.inRound l) (n-1-1) P (aec Ws I Ix (pre++ [x]) W) a₁ W)
  (hdone:∀ (D:Nat) (xs:List α) (W:World),w.heap.size<=D->S xs->I xs W->W.heap[D]? =some (.deferred (some []))->Q .normal { a with defers:= { target:= .collected D,args:= #[] }::a.defers } W)
  (hstop:∀ (D:Nat) (c:Code) (pre:List α) (W:World),w.heap.size<=D->Ix c pre W->W.heap[D]? =some (.deferred (some []))->c.wpIn F n P Q { a with defers:= { target:= .collected D,args:= #[] }::a.defers } W):
  (Code.rangeFunc g ps assign body).wpIn F n P Q a w:=by
 refine wpIn_rangeFunc ?_;intro fn hfn;rw[hro];obtain⟨rec,hrec⟩:∃ rec:LoopState->Option Code->Loop,rec=fun st pe=> { state:=st,pending:=pe,fn,tmps:=a.tmps,params:=ps,assign,body,defers:=w.heap.size }:=⟨_,rfl⟩
 obtain⟨W1,hW1⟩:∃ W1,(w.alloc (.deferred (some []))).alloc (.loop (rec .ready none))=W1:=⟨_,rfl⟩;have hL1:W1.heap[w.heap.size+1]? =some (.loop (rec .ready none)):=by
  rw[<-hW1];have:=World.alloc_heap_new (w.alloc (.deferred (some []))) (.loop (rec .ready none));rwa [oz] at this
 have hK1:W1.heap[w.heap.size]? =some (.deferred (some [])):=by
  rw[<-hW1];exact(Below.heap_alloc _ _ _ (by simp)).trans (World.alloc_heap_new w _)
 have hI1:I [] W1:=by rw[<-hW1];exact hI.alloc _ (hI.alloc _ h0)
 have bel:∀ {A B:World},Below A.heap.size A B->A.grownBy B none:=fun hB=>⟨hB.os,hB.tape,hB.output,hB.size,fun k hk _=>hB.block k hk⟩
 refine⟨w.heap.size+1,[{ target:= .collected w.heap.size,args:= #[] }],W1,{ target:= .fn (.func gf) lb,args:= #[.func (.yield (w.heap.size+1)) #[] #[]] },W1,gf,
  #[.func (.yield (w.heap.size+1)) #[] #[]]++lb,W1,?_,?_,?_,?_,fun _=>h1,?_⟩
 ·rw[<-hW1,hrec];exact run_enterLoop_outer _ _ _ _ _
 ·simp only[resolve,hg];simp[go_sem]
 ·intro f' hf';simp[Target.leads] at hf';subst hf';exact hFg
 ·simp[invoke,go_sem,eg]
 ·refine(hseq (w.heap.size+1)
   (fun pre W=>I pre W/\W.heap[w.heap.size+1]? =some (.loop (rec .ready none))/\W.heap[w.heap.size]? =some (.deferred (some [])))
   (fun pre W=>∃ c,Ix c pre W/\W.heap[w.heap.size+1]? =some (.loop (rec .done (some c)))/\W.heap[w.heap.size]? =some (.deferred (some [])))
   W1 (fun pre A B k hJ hB hk=>hWs pre A B none hJ.1 (bel hB) (fun _ e=>by cases e) k hk) (fun pre A k hJ hk=>hWl pre A k hJ.1 hk) (fun pre W hJ=>hG pre W hJ.1)
   (fun pre A B hJ hB=>⟨hI pre A B none hJ.1 (bel hB) (fun _ e=>by cases e),(hB.block _ (Array.getElem?_eq_some_iff.1 hJ.2.1).1).trans hJ.2.1,(hB.block _ (Array.getElem?_eq_some_iff.1 hJ.2.2).1).trans hJ.2.2⟩)
   (fun pre A B hJ hB=>by
    obtain⟨c,hc,hl,hk⟩:=hJ;exact⟨c,hIx c pre A B none hc (bel hB) (fun _ e=>by cases e),(hB.block _ (Array.getElem?_eq_some_iff.1 hl).1).trans hl,(hB.block _ (Array.getElem?_eq_some_iff.1 hk).1).trans hk⟩)
   ?_ ⟨hI1,hL1,hK1⟩).mono ?_
  ·
   rintro pre x W ⟨hi,hl,hk⟩ hnx;have hlt:w.heap.size+1<W.heap.size:=(Array.getElem?_eq_some_iff.1 hl).1;have hy:=run_yield (P:=P) (args:=encs x) hl (by rw[hrec];exact hps x);rw[hrec] at hy;refine⟨fn,_,assign,body,hy,roundIn_of_wpIn hfn (hassign _ pre x W _ (by omega) hi (fun a₁ Wa hAa hBa=>?_))⟩;have hla:=(hBa.block _ hlt).trans hl;have hka:=(hBa.block _ (Array.getElem?_eq_some_iff.1 hk).1).trans hk;have hia:=hI pre W Wa none hi (bel hBa) (fun _ e=>by cases e);have hna:=hN pre x () W Wa none hnx (bel hBa) (fun _ e=>by cases e);have ag1:w.heap.size+1<Wa.heap.size:=(Array.getElem?_eq_some_iff.1 hla).1;refine⟨_,run_beginRound hla (by rw[hrec]),?_⟩;have hl2:(Wa.putObj (w.heap.size+1) (.loop { rec .ready none with state:= .busy })).heap[w.heap.size+1]? =some (.loop { rec .ready none with state:= .busy }):=World.putObj_heap_same ag1;have hk2:(Wa.putObj (w.heap.size+1) (.loop { rec .ready none with state:= .busy })).heap[w.heap.size]? =some (.deferred (some [])):=(World.putObj_heap_other (by omega)).trans hka;have hk0:jw (Ws W) W (Wa.putObj (w.heap.size+1) (.loop { rec .ready none with state:= .busy })):=(jw.bD hBa).trans (jw.putObj hla rfl);have hsz:w.heap.size<=(Wa.putObj (w.heap.size+1) (.loop { rec .ready none with state:= .busy })).heap.size:=Nat.le_of_lt (Array.getElem?_eq_some_iff.1 hk2).1;refine wpIn_mono (hbody _ pre x a₁ _ hsz (hI.putObj _ hia (by omega) hla rfl) ((hN pre x).putObj (s:=()) _ hna (by omega) hla rfl) ((hAs pre x a₁).putObj (s:=()) _ hAa (by omega) hla rfl)) ?_;have fin:∀ (jump:Option Code) (W3:World),KeepsOthers (Wa.putObj (w.heap.size+1) (.loop { rec .ready none with state:= .busy })) W3->
     (Instr.endRound (w.heap.size+1) jump).run P W3= .ok (.bool jump.isNone) (W3.putObj (w.heap.size+1) (.loop (rec (if jump.isNone then .ready else .done) jump)))/\
     W3.heap[w.heap.size+1]? =some (.loop { rec .ready none with state:= .busy })/\
     (W3.putObj (w.heap.size+1) (.loop (rec (if jump.isNone then .ready else .done) jump))).heap[w.heap.size+1]? =some (.loop (rec (if jump.isNone then .ready else .done) jump))/\
     (W3.putObj (w.heap.size+1) (.loop (rec (if jump.isNone then .ready else .done) jump))).heap[w.heap.size]? =some (.deferred (some [])):=fun jump W3 hk3=>by
    have hl3:=hk3.same _ _ hl2 rfl;have:=run_endRound (P:=P) jump hl3;rw[hrec] at this ⊢;exact⟨this,by rw[hrec] at hl3;exact hl3,World.putObj_heap_same (Array.getElem?_eq_some_iff.1 hl3).1,(World.putObj_heap_other (by omega)).trans (hk3.same _ _ hk2 rfl)⟩
   rintro e a3 W3 hp;cases e with
   | normal=>
    obtain⟨hk3,hkc,hws,hi3⟩:=hp;obtain⟨hr,hl3,hl4,hk4⟩:=fin none W3 hk3;have hWb:∀ k,Ws (Wa.putObj (w.heap.size+1) (.loop { rec .ready none with state:= .busy })) k->Ws W k:=fun k hk=>hWs pre W Wa none hi (bel hBa) (fun _ e=>by cases e) k (hWs pre Wa _ _ hia (Cb _ _ _) (fun r e=>by cases e;exact⟨by omega,_,hla,rfl⟩) k hk)
    refine⟨_,_,hr,.inl ⟨rfl,⟨hI.putObj _ hi3 (by omega) hl3 rfl,hl4,hk4⟩,(hk0.trans (hkc.mono hWb)).trans (jw.putObj hl3 rfl),fun k hk=>?_⟩⟩;rcases hws k (hWs _ W3 _ _ hi3 (Cb _ _ _) (fun r e=>by cases e;exact⟨by omega,_,hl3,rfl⟩) k hk) with h1 | h1
    ·exact .inl (hWb k h1)
    ·exact .inr (fU hk0.1 h1)
   | ret=>
    obtain⟨hk3,hi3⟩:=hp;obtain⟨hr,hl3,hl4,hk4⟩:=fin (some .ret) W3 hk3;exact⟨_,_,hr,.inr ⟨rfl,.ret,(hIx _).putObj _ hi3 (by omega) hl3 rfl,hl4,hk4⟩⟩
   | exit id=>
    obtain⟨hk3,hi3⟩:=hp;obtain⟨hr,hl3,hl4,hk4⟩:=fin (some (.exit id)) W3 hk3;exact⟨_,_,hr,.inr ⟨rfl,.exit id,(hIx _).putObj _ hi3 (by omega) hl3 rfl,hl4,hk4⟩⟩
   | goto t=>
    obtain⟨hk3,hi3⟩:=hp;obtain⟨hr,hl3,hl4,hk4⟩:=fin (some (.goto t)) W3 hk3;exact⟨_,_,hr,.inr ⟨rfl,.goto t,(hIx _).putObj _ hi3 (by omega) hl3 rfl,hl4,hk4⟩⟩
   | panic ch=>exact hp.elim
   | outgrown=>exact hp.elim
  ·
   rintro e W2 ⟨⟨v,rfl⟩,(⟨xs,hS,hi,hl,hk⟩ | ⟨pre,c,hi,hl,hk⟩)⟩
   ·exact⟨none,_,by have:=run_endLoop (P:=P) hl (by rw[hrec];simp);rw[hrec] at this;exact this,hdone _ xs _ (aF _) hS (hI.putObj _ hi (by omega) hl rfl) ((World.putObj_heap_other (by omega)).trans hk)⟩
   ·exact⟨some c,_,by have:=run_endLoop (P:=P) hl (by rw[hrec];simp);rw[hrec] at this;exact this,hstop _ c pre _ (aF _) ((hIx c).putObj _ hi (by omega) hl rfl) ((World.putObj_heap_other (by omega)).trans hk)⟩
end
end Go.Proofs.YtpghocekofdpbaaGreatDoor
