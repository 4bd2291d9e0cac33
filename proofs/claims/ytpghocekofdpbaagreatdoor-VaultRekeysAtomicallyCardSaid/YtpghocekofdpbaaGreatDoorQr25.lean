import Derived.Test.YtpghocekofdpbaaGreatDoorQr03
namespace Go.Proofs.YtpghocekofdpbaaGreatDoor
section
variable {P:Program} {ops:Array Oper} {Q:Exit->Act->World->Prop} {md:Region.Mode} {S:World->Prop} {k:Nat}
def kU (P:Program) (md:Region.Mode) (ops:Array Oper) (Q:Exit->Act->World->Prop) (S:World->Prop) (k:Nat):Nat->Array Bool->Act->World->Prop
 | 0,listed,a,w=>Region.ready md ops listed= []/\Q .normal a w
 | fuel+1,listed,a,w=>
  (Region.ready md ops listed= []->Q .normal a w)/\
  ∀ i ∈ Region.ready md ops listed,wpOp P ops Q i (fun a' w'=>(i≠k->S w')/\kU P md ops Q S k fuel (listed.setIfInBounds i true) a' w') a w
theorem AL:∀ (fuel:Nat) (listed:Array Bool) (a:Act) (w:World),kU P md ops Q S k fuel listed a w->wpAny P md ops Q fuel listed a w
 | 0,_,_,_,h=>h
 | fuel+1,_,_,_,h=>⟨h.1,fun i hi=>wpOp_mono (fun a' w' h'=>AL fuel _ a' w' h'.2) (h.2 i hi)⟩
def Ce (md:Region.Mode) (ops:Array Oper) (listed:Array Bool):Prop:=∀ (j:Nat) (o:Oper),ops[j]? =some o->listed.getD j false=true->∀ e ∈ o.after,Region.binds md e=true->listed.getD e.on false=true
def yC (md:Region.Mode) (ops:Array Oper) (listed:Array Bool):Bool:=(List.range ops.size).all fun j=>match ops[j]? with
 | none=>true
 | some o=> !listed.getD j false || o.after.all fun e=> !Region.binds md e || listed.getD e.on false
theorem UZ {listed:Array Bool} (h:yC md ops listed=true):Ce md ops listed:=by
 intro j o ho hj e he hb;unfold yC at h;rw[List.all_eq_true] at h;have h1:=h j (List.mem_range.2 (Array.getElem?_eq_some_iff.1 ho).1);rw[ho] at h1;simp only[hj,Bool.not_true,Bool.false_or] at h1;have h2:=Array.all_eq_true_iff_forall_mem.1 h1 e he
 simpa [hb] using h2
theorem IE {listed:Array Bool} {j:Nat} (h:listed.getD j true=false):listed.getD j false=false:=by
 rcases Nat.lt_or_ge j listed.size with h' | h'
 ·simp[h'] at h ⊢;exact h
 ·simp[Array.getElem?_eq_none h'] at h
theorem QS {listed:Array Bool} {i:Nat} (h:Ce md ops listed) (hi:i ∈ Region.ready md ops listed):Ce md ops (listed.setIfInBounds i true):=by
 intro j o ho hj e he hb;by_cases hji:i=j
 ·subst hji;obtain⟨_,o',ho',hall⟩:=mem_ready.1 hi;rw[ho] at ho';cases ho';exact getD_set_true (hall e he hb)
 ·rw[getD_set_ne false hji] at hj;exact getD_set_true (h j o ho hj e he hb)
def waits (md:Region.Mode) (ops:Array Oper) (i:Nat):Nat->Nat->Bool
 | 0,_=>false
 | f+1,j=>match ops[j]? with
  | none=>false
  | some o=>o.after.any fun e=>Region.binds md e && (e.on==i || waits md ops i f e.on)
theorem Ci {i:Nat} {listed:Array Bool} (h:Ce md ops listed):∀ (f j:Nat),waits md ops i f j=true->(∀ o,ops[j]? =some o->∀ e ∈ o.after,Region.binds md e=true->listed.getD e.on false=true)->listed.getD i false=true
 | 0,_,hw,_=>by cases hw
 | f+1,j,hw,hd=>by
  unfold waits at hw;split at hw
  ·cases hw
  ·rename_i o ho;obtain⟨e,he,hc⟩:∃ e ∈ o.after,(Region.binds md e && (e.on==i || waits md ops i f e.on))=true:=by
    rw[<-Array.any_toList,List.any_eq_true] at hw;obtain⟨e,he,hc⟩:=hw;exact⟨e,Array.mem_toList_iff.1 he,hc⟩
   simp only[Bool.and_eq_true,Bool.or_eq_true,beq_iff_eq] at hc;obtain⟨hb,h1 | h1⟩:=hc
   ·have:=hd o ho e he hb;rw[h1] at this;exact this
   ·have hl:=hd o ho e he hb;exact Ci h f e.on h1 fun o' ho' e' he' hb'=>h e.on o' ho' hl e' he' hb'
theorem N7 {i:Nat} {oi:Oper} {v:Value} (hi:ops[i]? =some oi) (hsel:∀ (j:Nat) (o:Oper) cs b,ops[j]? =some o->o.op≠ .select cs b)
  (hQ:∀ c a w,Q (.panic c) (a.put oi.dst v) w->Q (.panic c) a w) (f:Nat) (hk:waits md ops i f k=true):
  ∀ (fuel:Nat) (listed:Array Bool) (a:Act) (w:World),Ce md ops listed->
   (∀ j oj,ops[j]? =some oj->j≠i->listed.getD j true=false->(∀ e ∈ oj.after,Region.binds md e=true->e.on≠i)->oi.apart ops oj=true)->
   i ∈ Region.ready md ops listed->YieldsIf P ops S oi v a->S w->i≠k->
   kU P md ops Q S k fuel (listed.setIfInBounds i true) (a.put oi.dst v) w->kU P md ops Q S k (fuel+1) listed a w:=by
 intro fuel
 induction fuel with
 | zero=>
  intro listed a w _ _ hr hy hS hik H;refine⟨fun h=>(by rw[h] at hr;cases hr),fun j hj=>?_⟩;by_cases hji:j=i
  ·subst hji;exact hy.wpOp hi hS ⟨fun _=>hS,H⟩
  ·have:=ready_mono hj hji;rw[H.1] at this;cases this
 | succ fuel ih=>
  intro listed a w hord hfree hr hy hS hik H;refine⟨fun h=>(by rw[h] at hr;cases hr),fun j hj=>?_⟩;by_cases hji:j=i
  ·subst hji;exact hy.wpOp hi hS ⟨fun _=>hS,H⟩
  ·have hjk:j≠k:=by
    rintro rfl;have h1:=Ci hord f j hk fun o ho e he hb=>by
     obtain⟨_,o',ho',hall⟩:=mem_ready.1 hj;rw[ho] at ho';cases ho';exact hall e he hb
    rw[IE (mem_ready.1 hr).1] at h1;cases h1
   have h1:=H.2 j (ready_mono hj hji);obtain⟨hjun,oj,hoj,hall⟩:=mem_ready.1 hj;have hnot:∀ e ∈ oj.after,Region.binds md e=true->e.on≠i:=fun e he hb heq=>by
    have h1:=hall e he hb;rw[heq,IE (mem_ready.1 hr).1] at h1;cases h1
   have h2:=wpOp_putIf hoj (hfree j oj hoj hji hjun hnot) (fun cs b=>hsel i oi cs b hi) (fun cs b=>hsel j oj cs b hoj) hQ hy h1;have hfree':∀ k ok,ops[k]? =some ok->k≠i->(listed.setIfInBounds j true).getD k true=false->
     (∀ e ∈ ok.after,Region.binds md e=true->e.on≠i)->oi.apart ops ok=true:=fun k ok hk hki hun hno=>by
    refine hfree k ok hk hki ?_ hno;by_cases hjk:j=k
    ·subst hjk;exact hjun
    ·rw[getD_set_ne true hjk] at hun;exact hun
   refine wpOp_mono (fun a' w' h3=>⟨h3.2.1,ih (listed.setIfInBounds j true) a' w' (QS hord hj) hfree' (ready_mono hr (Ne.symm hji)) h3.1 (h3.2.1 hjk) hik ?_⟩) h2;rw[Array.setIfInBounds_comm _ _ hji];exact h3.2.2
theorem yu {i:Nat} {oi:Oper} {v:Value} {fuel:Nat} {listed:Array Bool} {a:Act} {w:World} (hi:ops[i]? =some oi)
  (hs:Region.noSelect ops=true) (hf:Region.free md ops listed i=true) (hr:(Region.ready md ops listed).contains i=true) (ho:yC md ops listed=true) (hk:(waits md ops i ops.size k && !(i==k))=true)
  (hQ:∀ c a w,Q (.panic c) (a.put oi.dst v) w->Q (.panic c) a w) (hy:YieldsIf P ops S oi v a) (hS:S w)
  (h:kU P md ops Q S k fuel (listed.setIfInBounds i true) (a.put oi.dst v) w):kU P md ops Q S k (fuel+1) listed a w:=by
 simp only[Bool.and_eq_true,Bool.not_eq_true',FI] at hk;exact N7 hi (Region.noSelect_spec hs) hQ ops.size hk.1 fuel listed a w (UZ ho) (Region.free_spec hi hf) (by simpa using hr) hy hS hk.2 h
theorem tl {a':Act} {oi:Oper} {v:Value} {fuel:Nat} {listed:Array Bool} {a:Act} {w:World} (i:Nat) (hi:ops[i]? =some oi) (hS:S w) (h:kU P md ops Q S k fuel (listed.setIfInBounds i true) a' w)
  (hs:Region.noSelect ops=true:=by kernel_rfl) (hf:Region.free md ops listed i=true:=by kernel_rfl) (hr:(Region.ready md ops listed).contains i=true:=by kernel_rfl) (ho:yC md ops listed=true:=by kernel_rfl) (hk:(waits md ops i ops.size k && !(i==k))=true:=by kernel_rfl)
  (hQ:∀ c a w,Q (.panic c) (a.put oi.dst v) w->Q (.panic c) a w:=by exact fun _ _ _ h=>h) (hg:Region.wanted oi (yielded ops a.tmps)=true:=by go_simp)
  (hy:∀ w,S w->(execOp a.eval oi).run P w= .ok (.value v) w:=by(intro w hSw;(try dsimp only at hSw);go_simp;all_goals with_reducible rfl)) (ha:a.put oi.dst v=a':=by((try simp only[sA,gA]);exact rfl)):kU P md ops Q S k (fuel+1) listed a w:=by
 subst ha;exact yu hi hs hf hr ho hk hQ (.inl ⟨hg,hy⟩) hS h
theorem wkt {i:Nat} {oi:Oper} {v:Value} {fuel:Nat} {listed:Array Bool} {a:Act} {w:World} (hi:ops[i]? =some oi)
  (hy:YieldsIf P ops S oi v a) (hS:S w)
  (h:kU P md ops Q S k fuel (listed.setIfInBounds i true) (a.put oi.dst v) w) (hs:Region.noSelect ops=true:=by kernel_rfl) (hf:Region.free md ops listed i=true:=by kernel_rfl) (hr:(Region.ready md ops listed).contains i=true:=by kernel_rfl) (ho:yC md ops listed=true:=by kernel_rfl) (hk:(waits md ops i ops.size k && !(i==k))=true:=by kernel_rfl) (hQ:∀ c a w,Q (.panic c) (a.put oi.dst v) w->Q (.panic c) a w:=by exact fun _ _ _ h=>h):kU P md ops Q S k (fuel+1) listed a w:=yu hi hs hf hr ho hk hQ hy hS h
def aI (P:Program) (md:Region.Mode) (ops:Array Oper) (Q:Exit->Act->World->Prop) (S:World->Prop) (k fuel:Nat) (listed:Array Bool) (a:Act) (w:World) (rs:List Nat):Prop:=
 ∀ i ∈ rs,wpOp P ops Q i (fun a' w'=>(i≠k->S w')/\kU P md ops Q S k fuel (listed.setIfInBounds i true) a' w') a w
theorem aI.nil {fuel:Nat} {listed:Array Bool} {a:Act} {w:World}:aI P md ops Q S k fuel listed a w []:=fun _ h=>by cases h
theorem aI.cons {fuel:Nat} {listed:Array Bool} {a:Act} {w:World} {i:Nat} {o:Oper} {rs:List Nat} (ho:ops[i]? =some o)
  (h:∀ K':Act->World->Prop,Shut (∀ a w,S w->(S w->kU P md ops Q S k fuel (listed.setIfInBounds i true) a w)->K' a w)->if Region.wanted o (yielded ops a.tmps)=true then Oper.wp P o a w K' Q else K' (a.put o.dst undef) w)
  (hs:aI P md ops Q S k fuel listed a w rs):aI P md ops Q S k fuel listed a w (i::rs):=fun j hj=>by
 rcases List.mem_cons.1 hj with rfl | hj
 ·exact wpOp_step ho (fun K' hK=>h K' (fun a w hS hW=>hK a w ⟨fun _=>hS,hW hS⟩))
 ·exact hs j hj
theorem aI.last {fuel:Nat} {listed:Array Bool} {a:Act} {w:World} {o:Oper} (ho:ops[k]? =some o)
  (h:∀ K':Act->World->Prop,Shut (∀ a w,kU P md ops Q S k fuel (listed.setIfInBounds k true) a w->K' a w)->if Region.wanted o (yielded ops a.tmps)=true then Oper.wp P o a w K' Q else K' (a.put o.dst undef) w):
  aI P md ops Q S k fuel listed a w [k]:=fun j hj=>by
 obtain rfl:j=k:=by simpa using hj
 exact wpOp_step ho (fun K' hK=>h K' (fun a w hW=>hK a w ⟨fun e=>absurd rfl e,hW⟩))
theorem aN {rs:List Nat} {fuel:Nat} {listed:Array Bool} {a:Act} {w:World} (hr:Region.ready md ops listed=rs) (hne:rs≠ [])
  (h:aI P md ops Q S k fuel listed a w rs):kU P md ops Q S k (fuel+1) listed a w:=⟨fun h0=>absurd (hr ▸ h0) hne,hr ▸ h⟩
theorem bZ {listed:Array Bool} {a:Act} {w:World} (hr:Region.ready md ops listed= []) (h:Q .normal a w):
  ∀ fuel,kU P md ops Q S k fuel listed a w
 | 0=>⟨hr,h⟩
 | _+1=>⟨fun _=>h,by rw[hr];simp⟩
theorem bJ {id:Nat} {a:Act} {w:World} (k:Nat) (hm:P.follows .mixedOrders=true) (hS:S w.drew)
  (h:S w.drew->kU P .any ops Q S k ops.size (Array.replicate ops.size false) a w.drew):(Code.region id ops true).wp P Q a w:=
 wp_region_any hm (AL _ _ _ _ (h hS))
end
end Go.Proofs.YtpghocekofdpbaaGreatDoor
