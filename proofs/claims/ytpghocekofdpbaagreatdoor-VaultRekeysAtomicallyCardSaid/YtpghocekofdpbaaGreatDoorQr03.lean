import Derived.Test.YtpghocekofdpbaaGreatDoorQr00
namespace Go.Proofs.YtpghocekofdpbaaGreatDoor
open Go.RowKit
theorem jh {a b:ByteArray} (h:¬ a=b):(a.toList==b.toList)=false:=by
 rw[FI];intro e;rw[ByteArray.toList_eq,ByteArray.toList_eq] at e;exact h (ByteArray.ext (Array.ext' e))
theorem Xk {a b:ByteArray} (h:¬ a=b):(a.data.toList==b.data.toList)=false:=by
 rw[FI];intro e;exact h (ByteArray.ext (Array.ext' e))
theorem sA:(∀ (a:Act) (d:Nat) (v:Value),a.put (some d) v= { a with tmps:=a.tmps.setIfInBounds d v })/\(∀ (a:Act) (v:Value),a.put none v=a)/\(∀ (l:List Value) (i:Nat) (v:Value),l.toArray.setIfInBounds i v=(l.set i v).toArray)/\(∀ (x y:Value) (l:List Value),(x::l).set 0 y=y::l)/\(∀ (x y:Value) (l:List Value) (n:Nat),(x::l).set (n+1) y=x::l.set n y):=
 ⟨fun _ _ _=>rfl,fun _ _=>rfl,fun _ _ _=>List.setIfInBounds_toArray ..,fun _ _ _=>rfl,fun _ _ _ _=>rfl⟩
theorem gA {α:Type}:(∀ (l:List α) (i:Nat) (h:i<l.toArray.size),l.toArray[i]=l[i]'(by simpa using h))/\(∀ (x:α) (l:List α) (h:0<(x::l).length),(x::l)[0]=x)/\(∀ (x:α) (l:List α) (n:Nat) (h:n+1<(x::l).length),(x::l)[n+1]=l[n]'(by simpa using h)):=
 ⟨fun _ _ _=>List.getElem_toArray ..,fun _ _ _=>rfl,fun _ _ _ _=>rfl⟩
section
variable {P:Program} {md:Region.Mode} {ops:Array Oper} {Q:Exit->Act->World->Prop} {S:World->Prop} {oi:Oper} {v:Value} {fuel:Nat} {listed:Array Bool} {a:Act} {w:World}
theorem tk {a':Act} (i:Nat) (hi:ops[i]? =some oi) (hS:S w) (h:wpAnyH P md ops Q S fuel (listed.setIfInBounds i true) a' w)
  (hs:Region.noSelect ops=true:=by kernel_rfl) (hf:Region.free md ops listed i=true:=by kernel_rfl) (hr:(Region.ready md ops listed).contains i=true:=by kernel_rfl)
  (hQ:∀ c a w,Q (.panic c) (a.put oi.dst v) w->Q (.panic c) a w:=by exact fun _ _ _ h=>h) (hg:Region.wanted oi (yielded ops a.tmps)=true:=by go_simp)
  (hy:∀ w,S w->(execOp a.eval oi).run P w= .ok (.value v) w:=by(intro w hSw;(try dsimp only at hSw);go_simp;all_goals with_reducible rfl)) (ha:a.put oi.dst v=a':=by((try simp only[sA,gA]);exact rfl)):wpAnyH P md ops Q S (fuel+1) listed a w:=by
 subst ha;exact wpAnyH_take hi hs hf hr hQ (.inl ⟨hg,hy⟩) hS h
theorem tu {a':Act} (i:Nat) (hi:ops[i]? =some oi) (hS:S w) (h:wpAnyH P md ops Q S fuel (listed.setIfInBounds i true) a' w)
  (hs:Region.noSelect ops=true:=by kernel_rfl) (hf:Region.free md ops listed i=true:=by kernel_rfl) (hr:(Region.ready md ops listed).contains i=true:=by kernel_rfl)
  (hQ:∀ c a w,Q (.panic c) (a.put oi.dst undef) w->Q (.panic c) a w:=by exact fun _ _ _ h=>h) (hg:Region.wanted oi (yielded ops a.tmps)=false:=by(go_simp;try (first | decide | simp))) (ha:a.put oi.dst undef=a':=by((try simp only[sA,gA]);exact rfl)):wpAnyH P md ops Q S (fuel+1) listed a w:=by
 subst ha;exact wpAnyH_take hi hs hf hr hQ (.inr ⟨hg,rfl⟩) hS h
theorem td (i:Nat) {o:Oper} (ho:ops[i]? =some o) (h:∀ K':Act->World->Prop,Shut (∀ a w,S w->(S w->wpAnyH P md ops Q S fuel (listed.setIfInBounds i true) a w)->K' a w)->if Region.wanted o (yielded ops a.tmps)=true then Oper.wp P o a w K' Q else K' (a.put o.dst undef) w) (hr:Region.ready md ops listed= [i]:=by kernel_rfl):wpAnyH P md ops Q S (fuel+1) listed a w:=
 wpAnyH_ready hr (by simp) (AllReadyH.cons ho h AllReadyH.nil)
end
end Go.Proofs.YtpghocekofdpbaaGreatDoor
