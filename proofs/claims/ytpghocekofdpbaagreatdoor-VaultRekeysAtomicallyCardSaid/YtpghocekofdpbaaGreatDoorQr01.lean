import Derived.Test.YtpghocekofdpbaaGreatDoorProg
import Derived.Lib.AppendZerosOnto
import Derived.Lib.AppendStr
import Derived.OwnWalkIn
namespace Go.Proofs.YtpghocekofdpbaaGreatDoor.Sec
open Go.Lib
theorem zU (k:Nat):(Builtin.zeroCells (Value.int .u8 0).cells k).toList=List.replicate k (Value.int .u8 0):=by
 apply List.ext_getElem?;intro j;simp[Builtin.zeroCells,Value.cells,List.getElem?_replicate];split
 ·rename_i h;simp[List.getElem?_range h,Nat.mod_one]
 ·rename_i h;rw[List.getElem?_eq_none (by simp;omega)];rfl
theorem xM {P:Program} (w:World) (base:Nat) (t tn ty e:TypeId) (i:TypeInfo) (kq kn:IntKind) (ht:P.underlying t=some (.slice e)) (htn:P.underlying tn=some (.int kn)) (hi:P.info? e=some i) (hz:i.zero=some (.int .u8 0))
  (hsize:i.size=1) (hby:i.bytes=1) (v:Value) (n:Nat) (xs:List Value) (hown:w.ownsRow base e 1 v n xs) (hn:0<n) (k:Nat) (hlim:n+k<=1000) (hbase:base<=w.heap.size):
  ∃ v' w',(Builtin.append_ #[t,tn] ty #[v,.int kq k]).run P w= .ok v' w'/\w'.ownsRow base e 1 v' (n+k) (xs++List.replicate k (.int .u8 0))/\w.grownBy w' v.ownBlock:=by
 rcases hown.2 with⟨rfl,h0⟩ | ⟨g,cap,cur,rfl,hbg,hg,hnc,hcm,hcs,htake⟩
 ·omega
 have hl:=hown.1;by_cases hroom:n+k<=cap
 ·have hw:IntKind.i64.wrap (k:Int)=k:=by rw[IntKind.wrap_i64];omega
  have hneg:¬ ((k:Int)<0):=by omega
  have h48i:¬ (281474976710656<(k:Int)):=by omega
  have hst:=run_storeCells_at P g n e (List.replicate k (Value.int .u8 0)) 0 cur w hg (by simp at hcs ⊢;omega) (by intro u hu;have:=List.eq_of_mem_replicate hu;subst this;rfl);simp only[Nat.add_zero,List.length_replicate] at hst;refine⟨.slice (some ⟨g,0,none⟩) (n+k) cap,w.setRow g (cur.toList.take n++List.replicate k (Value.int .u8 0)++cur.toList.drop (n+k)).toArray,?_,⟨by simp[hl],.inr ⟨g,cap,_,rfl,hbg,setRow_heap w g cur _ e _ hg,hroom,hcm,?_,?_⟩⟩,⟨rfl,rfl,rfl,by simp,fun j _ hk=>setRow_other w g j _ (fun e=>hk (by simp[Value.ownBlock,e]))⟩⟩
  ·by_cases hk:k=0
   ·subst hk;simp at hst;have hw0:IntKind.i64.wrap 0=0:=by rw[IntKind.wrap_i64];rfl
    simp[Builtin.append_,run_underlying ht,run_underlying htn,sizeOf,typeInfo,hi,hby,asInt,asIntOf,hw0,hnc,Addr.add_lit,storeCells];rw[setRow_self w g cur e (0,0) hg]
   ·simp[Builtin.append_,run_underlying ht,run_underlying htn,sizeOf,typeInfo,zeroValue,hi,hz,hsize,hby,asInt,asIntOf,hw,hneg,h48i,hroom,Addr.add_lit,hk,zU,hst]
  ·simp at hcs;simp;omega
  ·simp at htake;simp;have hx:(cur.toList.take n).length=n:=by rw[List.length_take];simp at hcs ⊢;omega
   rw[htake];have:(xs++(List.replicate k (Value.int .u8 0)++cur.toList.drop (n+k))).take (n+k)=xs++List.replicate k (Value.int .u8 0):=by
    rw[<-List.append_assoc];exact List.take_left' (by simp at hl ⊢;omega)
   simpa using this
 ·have hk:0<k:=by omega
  have holds:∀ j u,xs[j]? =some u->w.cell? ((⟨g,0,none⟩:Addr).add j)=some u:=hown.cells (g:=g) rfl;have hxl:xs.length=n:=by simpa using hl
  have hfo:=run_firstCells_some (P:=P) w.drew i.size n ⟨g,0,none⟩ n cap xs (by rw[hsize];exact hl) (by simpa using holds);have hlen:(xs++List.replicate k (Value.int .u8 0)).length=(n+k)*1:=by simp[hxl]
  have hr:=run_append_grow_zeros (P:=P) w t tn ty e i (.int .u8 0) kq kn ht htn hi hz (some ⟨g,0,none⟩) n cap xs hfo k hk (by omega) (by omega) (by omega) (by rw[hby];omega) (by rw[hby];exact growslice_fits (by omega) (by omega));have hge:=grownCap_ge w (n+k) cap e;have hcm2:grownCap w (n+k) cap e<=maxLen:=grownCap_le_maxLen w (n+k) cap e (by unfold maxLen;omega);refine⟨_,_,hr,⟨hlen,.inr ⟨w.heap.size,_,_,rfl,hbase,heap_alloc_new w.drew _,hge,hcm2,?_,?_⟩⟩,⟨rfl,rfl,rfl,by simp,fun j hj _=>heap_alloc_old w.drew _ j hj⟩⟩
  ·have hz1:(Value.int IntKind.u8 0).cells.size=1:=rfl;simp only[Array.size_append,List.size_toArray,size_zeroCells,hz1,hxl];omega
  ·simp only[Array.toList_append,zU];rw[<-hlen];exact List.take_left
theorem jr {F:Fence} {n:Nat} {P:Program} (w:World) {ops:Array Oper} {rest:List Oper} {o:Oper} {a:Act} {Q:Exit->Act->World->Prop}
  (hg:o.guard=none) (s x:Operand) (t u:TypeId) (hop:o.op=Op.call { callee:=Callee.builtin Builtin.append,args:= #[s,x],argTypes:= #[t,u] })
  (vs vx:Value) (hs:a.eval s=vs) (hx:a.eval x=vx) (R:Value->World->Prop) (hr:∃ v' w',(Builtin.append_ #[t,u] o.type #[vs,vx]).run P w= .ok v' w'/\R v' w')
  (hK:∀ v' w',R v' w'->wpListIn F n P ops Q rest (a.put o.dst v') w'):
  wpListIn F n P ops Q (o::rest) a w:=by
 refine wpListIn_plain hg fun K hK'=>?_
 obtain⟨v',w',hrun,hR⟩:=hr;unfold Oper.wpIn;refine⟨?_,?_⟩
 ·simp[Oper.about,hop,resolve,Target.leads,Sem.run_pure]
 ·rw[Oper.semAt_plain F _ _ (by rw[hop];intro c hc';cases hc')];simp[execOp,hop,resolve,invoke,builtin,hs,hx,hrun,Result.andThen];exact hK' _ _ (hK v' w' hR)
end Go.Proofs.YtpghocekofdpbaaGreatDoor.Sec
