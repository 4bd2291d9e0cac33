import Derived.Deep.RegionHeld3
import Derived.Lib.Hide
import Derived.Test.YtpghocekofdpbaaGreatDoorProg
import Derived.WalkSmall
import Derived.Lib.SmallJoins
import Derived.Laws.CopyOwn
namespace Go.Proofs.YtpghocekofdpbaaGreatDoor
theorem zh {p:Prop} (h:p):RowKit.Hid p:=h
section
universe u
theorem zq:(∀ {α:Type u} (l:List α) (a:α) (i:Nat),l.toArray.setIfInBounds i a=(l.set i a).toArray) ∧
    (∀ {α:Type u} (l:List α) (a b:α),(a::l).set 0 b=b::l) ∧
    (∀ {α:Type u} (l:List α) (a b:α) (i:Nat),(a::l).set (i+1) b=a::l.set i b) ∧
    (∀ {α:Type u} (l:List α) (i:Nat) (h:i<l.toArray.size),l.toArray[i]=l[i]'(by simpa using h)) ∧
    (∀ {α:Type u} (l:List α) (a:α) (h:0<(a::l).length),(a::l)[0]=a) ∧
    (∀ {α:Type u} (l:List α) (a:α) (i:Nat) (h:i+1<(a::l).length),(a::l)[i+1]=l[i]'(by simpa using h)):=
  ⟨fun _ _ _=>List.setIfInBounds_toArray ..,fun _ _ _=>List.set_cons_zero ..,fun _ _ _ _=>List.set_cons_succ ..,fun _ _ _=>List.getElem_toArray ..,fun _ _ _=>List.getElem_cons_zero ..,fun _ _ _ _=>List.getElem_cons_succ ..⟩
end
abbrev iT:= @Nat.zero_le
abbrev Ti:= @List.getElem?_toArray
abbrev ZO:= @Array.getElem?_eq_getElem
abbrev AZ:= @Nat.zero_add
abbrev sD:= @List.getElem?_map
abbrev kM:= @List.length_append
abbrev Gh:= @List.map_append
abbrev aF:= @Nat.le_refl
abbrev oz:= @Go.World.size_alloc
abbrev fU:= @Nat.le_trans
abbrev bK:= @Go.RowKit.Below.refl
abbrev Ju:= @Go.World.ownsRow_nil
abbrev ZX:= @List.eq_nil_of_length_eq_zero
abbrev uo:= @List.take_of_length_le
abbrev jB:= @List.getElem?_eq_getElem
abbrev mG:= @List.size_toArray
abbrev lq:= @List.length_map
abbrev ou:= @List.length_take
abbrev FT:= @List.length_replicate
abbrev FD:= @List.take_add_one
abbrev Em:= @List.append_assoc
abbrev En:= @List.getD_eq_getElem?_getD
abbrev pW:= @decide_eq_true
abbrev yD:= @Go.wp_region_held_drew
abbrev wZ:= @Go.wpAnyH_done
abbrev dF:= @decide_eq_false
abbrev zap:= @Nat.le_antisymm
abbrev Ep:= @Nat.le_of_not_lt
abbrev wW:= @Nat.le_succ
abbrev bU:= @Go.bodyPost_ret
abbrev rX:= @List.length_drop
abbrev ZP:= @List.getElem?_append_right
abbrev Gm:= @Nat.min_eq_left
abbrev Nc:= @List.getElem?_drop
abbrev Di:= @Array.length_toList
abbrev FI:= @beq_eq_false_iff_ne
abbrev zI:= @List.mem_of_getElem?
abbrev rY:= @Nat.lt_of_lt_of_le
abbrev AY:= @List.length_cons
abbrev zag:= @List.length_nil
abbrev GI:= @List.nil_append
abbrev WJ:= @ByteArray.size_extract
abbrev kG:= @beq_self_eq_true
section
open Go.RowKit
def ak (w:World) (g:Nat) (t:TypeId) (cs:Array Value):Prop:=w.heap[g]? =some (.cells cs t (0,0))
section
variable {w w':World} {g:Nat} {t:TypeId} {cs:Array Value}
theorem ak.lt (h:ak w g t cs):g<w.heap.size:=(Array.getElem?_eq_some_iff.1 h).1
theorem ak.cell (h:ak w g t cs) (i:Nat):w.cell? ⟨g,i,none⟩=cs[i]? :=by
 unfold ak at h;simp[World.cell?,h]
theorem ak.frozen (h:ak w g t cs) (i:Nat):w.frozen? ⟨g,i,none⟩=false:=by
 unfold ak at h;simp[World.frozen?,h]
theorem ak.new (w:World) (t:TypeId) (cs:Array Value):ak (w.alloc (.cells cs t)) w.heap.size t cs:=by
 show(w.heap.push _)[w.heap.size]? =_
 simp
theorem ak.drew (h:ak w g t cs):ak w.drew g t cs:=h
theorem ak.drewN (h:ak w g t cs) (n:Nat):ak (w.drewN n) g t cs:=h
theorem ak.alloc (h:ak w g t cs) (o:Obj):ak (w.alloc o) g t cs:=(Below.heap_alloc w o g h.lt).trans h
theorem ak.aB (h:ak w g t cs) (i:Nat) (u:Value):ak (w.setCell ⟨g,i,none⟩ u) g t (cs.setIfInBounds i u):=by
 unfold ak at h ⊢;simp[World.setCell,Array.getElem?_modify,h]
theorem ak.other (h:ak w g t cs) {a:Addr} (ha:g≠a.block) (u:Value):ak (w.setCell a u) g t cs:=(Below.heap_setCell _ _ _ _ ha).trans h
theorem ak.below {B:Nat} (h:ak w g t cs) (hb:Below B w w') (hg:g<B):ak w' g t cs:=(hb.block g hg).trans h
theorem ak.grown {row:Option Nat} (h:ak w g t cs) (hg:w.grownBy w' row) (hne:some g≠row):ak w' g t cs:=(hg.block g h.lt hne).trans h
theorem ak.gY {g':Nat} {t':TypeId} {cs':Array Value} (h:ak w g t cs) (h':ak w g' t' cs') (hne:t≠t'):g≠g':=by
 rintro rfl;unfold ak at h h';rw[h] at h';injection h' with h'
 injection h' with _ ht
 exact hne ht
theorem aA {base:Nat} {e:TypeId} {size n:Nat} {v:Value} {xs:List Value} (h:w.ownsRow base e size v n xs) (hg:ak w g t cs) (hne:e≠t):v.ownBlock≠some g:=by
 rcases h.2 with⟨rfl,_⟩ | ⟨g',cap,cur,rfl,_,hh,_⟩
 ·simp[Value.ownBlock]
 ·intro he;have:g'=g:=by simpa [Value.ownBlock] using he
  subst this;exact ak.gY (t:=e) hh hg hne rfl
end
theorem gG {w:World} {g:Nat} {t:TypeId} {l:List Value} (h:ak w g t l.toArray):∀ j u,l[j]? =some u->w.cell? ((⟨g,0,none⟩:Addr).add j)=some u:=by
 intro j u hj;rw[Addr.add_lit,AZ,h.cell]
 simpa using hj
theorem ownsRow_below {w w':World} {base B:Nat} {e:TypeId} {size:Nat} {v:Value} {n:Nat} {xs:List Value} (h:w.ownsRow base e size v n xs) (hb:Below B w w') (hB:w.heap.size<=B):w'.ownsRow base e size v n xs:=by
 obtain⟨h1,h2⟩:=h;refine⟨h1,?_⟩;rcases h2 with h2 | ⟨g,cap,cur,hv,hg,hh,r⟩
 ·exact Or.inl h2
 ·have hl:g<w.heap.size:=(Array.getElem?_eq_some_iff.1 hh).1;exact Or.inr ⟨g,cap,cur,hv,hg,(hb.block g (by omega)).trans hh,r⟩
section
variable {P:Program}
theorem bF {fn:Func} {p:Tmp} {ty:TypeId} (h:fn.results= #[.cell p ty]) (tmps:Array Value) (w:World) (g:Nat) (t:TypeId) (cs:Array Value) (d:TypeDesc)
  (hp:tmps.getD p undef= .pointer (some ⟨g,0,none⟩)) (hg:ak w g t cs)
  (hu:P.underlying ty=some d) (hd:(match d with | .struct _ | .array _ _=>true | _=>false)=true) (hi:(P.info? ty).map (·.size)=some cs.size):
  (results fn tmps).run P w= .ok (.agg cs) w:=results_cell_row h tmps w g t cs (0,0) d hp hg hu hd hi
theorem dA {fn:Func} {p q:Tmp} {ty:TypeId} (h:fn.results= #[.cell p ty,.tmp q]) (tmps:Array Value) (w:World) (g:Nat) (t:TypeId) (cs:Array Value) (d:TypeDesc)
  (hp:tmps.getD p undef= .pointer (some ⟨g,0,none⟩)) (hg:ak w g t cs)
  (hu:P.underlying ty=some d) (hd:(match d with | .struct _ | .array _ _=>true | _=>false)=true) (hi:(P.info? ty).map (·.size)=some cs.size):
  (results fn tmps).run P w= .ok (.tuple #[.agg cs,tmps.getD q undef]) w:=by
 have hp':tmps[p]?.getD undef= .pointer (some ⟨g,0,none⟩):=by simpa using hp
 unfold ak at hg;simp[results,h,hp',asAddr,run_loadVar_row w g t ty cs (0,0) d hg hu hd hi]
end
end
open Go.RowKit
theorem JE {P:Program} (w:World) (dT sT ty elem:TypeId) (size g o dLen dCap:Nat) (a:Addr) (sLen sCap:Nat) (cur:Array Value) (t:TypeId) (cs:List Value)
  (hu:P.underlying dT=some (.slice elem)) (hs:(P.info? elem).map (·.size)=some size)
  (hg:w.heap[g]? =some (.cells cur t (0,0))) (hn:cs.length=Nat.min sLen dLen*size)
  (hsrc:∀ j v,cs[j]? =some v->w.cell? (a.add j)=some v) (hfit:o+cs.length<=cur.size) (h1:∀ v ∈ cs,v.oneCell'=true):
  (Builtin.copy_ #[dT,sT] ty #[.slice (some ⟨g,o,none⟩) dLen dCap,.slice (some a) sLen sCap]).run P w=
   .ok (goInt (Nat.min sLen dLen)) (w.setRow g (cur.toList.take o++cs++cur.toList.drop (o+cs.length)).toArray):=by
 have hl:=run_loadCells_list (P:=P) w a cs hsrc;have hst:=run_storeCells_at P g o t cs 0 cur w hg (by simpa using hfit) h1;cases hq:P.info? elem with
 | none=>simp[hq] at hs
 | some i=>
  have hi:i.size=size:=by simpa [hq] using hs
  simp[Builtin.copy_,run_underlying hu,Builtin.lenOf,Builtin.firstCells,sizeOf,typeInfo,hq,hi,<-hn,hl,hst]
end Go.Proofs.YtpghocekofdpbaaGreatDoor
