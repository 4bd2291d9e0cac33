import Derived.Test.YtpghocekofdpbaaGreatDoorQr39
import Derived.Test.YtpghocekofdpbaaGreatDoorQr40
namespace Go.Proofs.YtpghocekofdpbaaGreatDoor
open Go.RowKit Go.Shelf
attribute [local go_sem] Oper.semAt_some
def VL (vb bf:Nat) (W:World) (k:Nat):Prop:=k=vb\/k=bf\/∃ u,W.cell? ⟨vb,5,none⟩=some u/\u.ownBlock=some k
structure Rnd (vb bf:Nat) (W W':World):Prop where
 o:KeepsOthers W W'
 c:jw (VL vb bf W) W W'
 s:∀ k,VL vb bf W' k->VL vb bf W k\/W.heap.size<=k
section
variable {vb bf:Nat} {W W' A B C:World}
theorem VL.of_cell (h:W'.cell? ⟨vb,5,none⟩=W.cell? ⟨vb,5,none⟩) {k:Nat} (hk:VL vb bf W' k):VL vb bf W k:=by
 rcases hk with e | e | ⟨u,e1,e2⟩
 ·exact .inl e
 ·exact .inr (.inl e)
 ·exact .inr (.inr ⟨u,by rw[<-h];exact e1,e2⟩)
theorem Rnd.trans (h:Rnd vb bf A B) (k:Rnd vb bf B C):Rnd vb bf A C:=by
 refine⟨h.o.trans k.o,⟨fU h.c.1 k.c.1,fun j cs t z hj hw=>?_⟩,fun j hj=>?_⟩
 ·have e:=h.c.2 j cs t z hj hw;refine(k.c.2 j cs t z (e.trans hj) (fun hb=>?_)).trans e;rcases h.s j hb with q | q
  ·exact hw q
  ·have:=(Array.getElem?_eq_some_iff.1 hj).1;omega
 ·rcases k.s j hj with q | q
  ·exact h.s j q
  ·exact .inr (fU h.c.1 q)
theorem Rnd.below (hv:vb<A.heap.size) (h:Below A.heap.size A B):Rnd vb bf A B:=by
 have hg:A.grownBy B none:=⟨h.os,h.tape,h.output,h.size,fun k hk _=>h.block k hk⟩;exact⟨KeepsOthers.of_grownBy hg (fun j o e=>by cases e),jw.bD h,fun k hk=> .inl (VL.of_cell (h.cell (p:=⟨vb,5,none⟩) hv) hk)⟩
theorem Rnd.drew (W:World):Rnd vb bf W W.drew:=⟨KeepsOthers.drew W,⟨aF _,fun _ _ _ _ _ _=>rfl⟩,fun _ h=> .inl h⟩
theorem Rnd.set {t:TypeId} {cs:Array Value} (hb:ak W vb t cs) {i:Nat} (hi:i≠5) (v:Value):Rnd vb bf W (W.setCell ⟨vb,i,none⟩ v):=by
 refine⟨KeepsOthers.setCell _ _ _,jw.setCell v (.inl rfl),fun k hk=> .inl (VL.of_cell ?_ hk)⟩;rw[(hb.aB i v).cell 5,hb.cell 5,Array.getElem?_setIfInBounds_ne hi]
theorem Rnd.setB (hn:bf≠vb) (hv:vb<W.heap.size) (i:Nat) (v:Value):Rnd vb bf W (W.setCell ⟨bf,i,none⟩ v):=by
 refine⟨KeepsOthers.setCell _ _ _,jw.setCell v (.inr (.inl rfl)),fun k hk=> .inl (VL.of_cell ?_ hk)⟩;exact World.cell?_of_block ((au W bf i v).block vb hv (fun e=>hn (Option.some.inj e).symm))
theorem Rnd.grown {u:Value} {t:TypeId} {cs:Array Value} (hb:ak W vb t cs) (hu:cs[5]? =some u) (hg:W.grownBy W' u.ownBlock) (hne:u.ownBlock≠some vb) (hcl:∀ (j:Nat) (o:Obj),u.ownBlock=some j->W.heap[j]? =some o->o.isCells=true):Rnd vb bf W W':=by
 have hc:W.cell? ⟨vb,5,none⟩=some u:=(hb.cell 5).trans hu;refine⟨KeepsOthers.of_grownBy hg hcl,jw.grown hg (fun r e=> .inr (.inr ⟨u,hc,e⟩)),fun k hk=> .inl (VL.of_cell ?_ hk)⟩;exact(hb.grown hg (fun e=>hne e.symm)).cell 5 |>.trans (hb.cell 5).symm
theorem Rnd.aom {u v:Value} {t:TypeId} {cs:Array Value} (hb:ak W vb t cs) (hu:cs[5]? =some u) (hv:∀ k,v.ownBlock=some k->u.ownBlock=some k\/A.heap.size<=k) (h:Rnd vb bf A W) (hw:∀ k,VL vb bf W k->VL vb bf A k\/A.heap.size<=k):Rnd vb bf A (W.setCell ⟨vb,5,none⟩ v):=by
 have hc:W.cell? ⟨vb,5,none⟩=some u:=(hb.cell 5).trans hu;refine⟨h.o.trans (KeepsOthers.setCell _ _ _),⟨fU h.c.1 (by simp[World.setCell]),fun j cs t z hj hn=>?_⟩,fun k hk=>?_⟩
 ·refine Eq.trans (Below.heap_setCell W ⟨vb,5,none⟩ v j (fun e=>hn (.inl e))) (h.c.2 j cs t z hj hn)
 ·rcases hk with e | e | ⟨u',e1,e2⟩
  ·exact .inl (.inl e)
  ·exact .inl (.inr (.inl e))
  ·have hlt:5<cs.size:=(Array.getElem?_eq_some_iff.1 hu).1;rw[(hb.aB 5 v).cell 5,Array.getElem?_setIfInBounds_self_of_lt hlt] at e1;cases e1;rcases hv k e2 with q | q
   ·exact hw k (.inr (.inr ⟨u,hc,q⟩))
   ·exact .inr q
end
structure zO (wz:World) (dv jb vb tv bf jx rx:Nat) (root:ByteArray) (R:JA) (lo:Nat) (p u:Value) (W:World):Prop where
 b:Below wz.heap.size wz W
 z:wz.heap.size<=vb/\wz.heap.size<=bf
 Td:ak W tv 34 #[.pointer (some ⟨vb,0,none⟩)]
 jxB:ak W jx 76 #[.pointer (some ⟨jb,0,none⟩)]
 rxB:ak W rx 9 #[.string root]
 Tf:ak W bf 9 #[.string R.before]
 rZ:ak W vb 79 #[.pointer (some ⟨dv,0,none⟩),.pointer (some ⟨jb,0,none⟩),.string root,.string R.chain,p,u,.bool false]
 img:(R.image=none/\p= .pointer none)\/∃ g P,p= .pointer (some ⟨g,2,none⟩)/\R.image=some P.text/\ak W g 104 (pY P)/\g<lo/\wz.heap.size<=g
 row:W.ownsRow lo 9 1 u R.texts.length (strCells R.texts)
 nil_:R.texts= []->u= .slice none 0 0
 AX:bf<lo/\rx<lo/\wz.heap.size<=lo/\lo<=W.heap.size/\bf≠rx
section
variable {wz W W':World} {dv jb vb tv bf jx rx lo:Nat} {root:ByteArray} {R:JA} {p u:Value}
theorem zO.grown (k:zO wz dv jb vb tv bf jx rx root R lo p u W) {row:Option Nat} (hg:W.grownBy W' row) (hr:∀ r,row=some r->wz.heap.size<=r/\∃ o:Obj,W.heap[r]? =some o/\o.isCells=false):zO wz dv jb vb tv bf jx rx root R lo p u W':=by
 have hr2:=fun r e=>(hr r e).2
 have hsz:wz.heap.size<=W.heap.size:=k.b.size;refine⟨k.b.grown hg hsz (fun r e=>(hr r e).1),k.z,k.Td.grown hg (fJ k.Td hr2),k.jxB.grown hg (fJ k.jxB hr2),k.rxB.grown hg (fJ k.rxB hr2),k.Tf.grown hg (fJ k.Tf hr2),k.rZ.grown hg (fJ k.rZ hr2),?_,tJ k.row hg hr2,k.nil_,⟨k.AX.1,k.AX.2.1,k.AX.2.2.1,fU k.AX.2.2.2.1 hg.size,k.AX.2.2.2.2⟩⟩;rcases k.img with e | ⟨g,P,e1,e2,e3,e4⟩
 ·exact .inl e
 ·exact .inr ⟨g,P,e1,e2,e3.grown hg (fJ e3 hr2),e4⟩
theorem zO.below (k:zO wz dv jb vb tv bf jx rx root R lo p u W) (h:Below W.heap.size W W'):zO wz dv jb vb tv bf jx rx root R lo p u W':=
 k.grown (row:=none) ⟨h.os,h.tape,h.output,h.size,fun j hj _=>h.block j hj⟩ (fun r e=>by cases e)
theorem zO.drew (k:zO wz dv jb vb tv bf jx rx root R lo p u W):zO wz dv jb vb tv bf jx rx root R lo p u W.drew:=k.below (bK _ _).drew
theorem zO.ne (k:zO wz dv jb vb tv bf jx rx root R lo p u W):bf≠vb:=k.Tf.gY k.rZ (by decide)
theorem zO.setB (k:zO wz dv jb vb tv bf jx rx root R lo p u W) (c:ByteArray):zO wz dv jb vb tv bf jx rx root { R with before:=c } lo p u (W.setCell ⟨bf,0,none⟩ (.string c)):=by
 have hg:=au W bf 0 (.string c);have hl:=k.AX;refine⟨k.b.setCell (p:=⟨bf,0,none⟩) k.z.2 _,k.z,k.Td.grown hg (fun e=>k.Td.gY k.Tf (by decide) (Option.some.inj e)),k.jxB.grown hg (fun e=>k.jxB.gY k.Tf (by decide) (Option.some.inj e)),k.rxB.grown hg (fun e=>hl.2.2.2.2 (Option.some.inj e).symm),k.Tf.aB 0 _,k.rZ.grown hg (fun e=>k.rZ.gY k.Tf (by decide) (Option.some.inj e)),?_,k.row.kept hg (.inr (fun e=>by have:=(k.row.lt _ e).1;omega)),k.nil_,⟨hl.1,hl.2.1,hl.2.2.1,fU hl.2.2.2.1 hg.size,hl.2.2.2.2⟩⟩;rcases k.img with e | ⟨g,P,e1,e2,e3,e4⟩
 ·exact .inl e
 ·exact .inr ⟨g,P,e1,e2,e3.grown hg (fun e=>e3.gY k.Tf (by decide) (Option.some.inj e)),e4⟩
theorem zO.alk (k:zO wz dv jb vb tv bf jx rx root R lo p u W) (i:Nat) (v:Value) {R':JA} {p' u':Value} {lo':Nat}
  (hc:(#[Value.pointer (some ⟨dv,0,none⟩),.pointer (some ⟨jb,0,none⟩),.string root,.string R.chain,p,u,.bool false]:Array Value).setIfInBounds i v= #[.pointer (some ⟨dv,0,none⟩),.pointer (some ⟨jb,0,none⟩),.string root,.string R'.chain,p',u',.bool false])
  (hbf:R'.before=R.before) (aon:(R'.image=none/\p'= .pointer none)\/∃ g P,p'= .pointer (some ⟨g,2,none⟩)/\R'.image=some P.text/\ak W g 104 (pY P)/\g<lo'/\wz.heap.size<=g)
  (hrow:W.ownsRow lo' 9 1 u' R'.texts.length (strCells R'.texts)) (hnil:R'.texts= []->u'= .slice none 0 0) (hlo:lo<=lo'/\lo'<=W.heap.size):
  zO wz dv jb vb tv bf jx rx root R' lo' p' u' (W.setCell ⟨vb,i,none⟩ v):=by
 have hg:=au W vb i v;have hl:=k.AX;have hb:=k.rZ.aB i v;rw[hc] at hb;refine⟨k.b.setCell (p:=⟨vb,i,none⟩) k.z.1 _,k.z,k.Td.grown hg (fun e=>k.Td.gY k.rZ (by decide) (Option.some.inj e)),k.jxB.grown hg (fun e=>k.jxB.gY k.rZ (by decide) (Option.some.inj e)),k.rxB.grown hg (fun e=>k.rxB.gY k.rZ (by decide) (Option.some.inj e)),?_,hb,?_,hrow.kept hg (.inr (aA hrow k.rZ (by decide))),hnil,⟨by omega,by omega,by omega,fU hlo.2 hg.size,hl.2.2.2.2⟩⟩
 ·rw[hbf];exact k.Tf.grown hg (fun e=>k.ne (Option.some.inj e))
 ·rcases aon with e | ⟨g,P,e1,e2,e3,e4⟩
  ·exact .inl e
  ·exact .inr ⟨g,P,e1,e2,e3.grown hg (fun e=>e3.gY k.rZ (by decide) (Option.some.inj e)),e4⟩
theorem zO.ahE (k:zO wz dv jb vb tv bf jx rx root R lo p u W) (c:ByteArray):zO wz dv jb vb tv bf jx rx root { R with chain:=c } lo p u (W.setCell ⟨vb,3,none⟩ (.string c)):=
 k.alk 3 _ rfl rfl k.img k.row k.nil_ ⟨aF _,k.AX.2.2.2.1⟩
theorem zO.aoo (k:zO wz dv jb vb tv bf jx rx root R lo p u W) (ht:R.texts= []) {g:Nat} {P:Part} (hg:ak W g 104 (pY P)) (hz:wz.heap.size<=g):zO wz dv jb vb tv bf jx rx root { R with image:=some P.text } W.heap.size (.pointer (some ⟨g,2,none⟩)) u (W.setCell ⟨vb,4,none⟩ (.pointer (some ⟨g,2,none⟩))):=by
 refine k.alk 4 _ rfl rfl (.inr ⟨g,P,rfl,rfl,hg,hg.lt,hz⟩) ?_ k.nil_ ⟨k.AX.2.2.2.1,aF _⟩;show W.ownsRow W.heap.size 9 1 u R.texts.length (strCells R.texts)
 rw[k.nil_ ht,ht];exact Ju _ _ _ _
theorem zO.app (k:zO wz dv jb vb tv bf jx rx root R lo p u W) {W1 W2:World} {t:ByteArray} {g c:Nat} (hB:Below W.heap.size W W1) (hown:W2.ownsRow lo 9 1 (.slice (some ⟨g,0,none⟩) (R.texts.length+1) c) (R.texts.length+1) (strCells R.texts++ [.string t])) (hg:W1.grownBy W2 u.ownBlock):
  zO wz dv jb vb tv bf jx rx root R lo p u W1/\ak W2 vb 79 #[.pointer (some ⟨dv,0,none⟩),.pointer (some ⟨jb,0,none⟩),.string root,.string R.chain,p,u,.bool false]/\ak W2 tv 34 #[.pointer (some ⟨vb,0,none⟩)]/\
  zO wz dv jb vb tv bf jx rx root { R with texts:=R.texts++ [t] } lo p (.slice (some ⟨g,0,none⟩) (R.texts.length+1) c) (W2.setCell ⟨vb,5,none⟩ (.slice (some ⟨g,0,none⟩) (R.texts.length+1) c)):=by
 have k1:=k.below hB;have hl:=k.AX;have hl1:=k1.AX;have nv:=aA k1.row k1.rZ (by decide);have nt:=aA k1.row k1.Td (by decide);have nj:=aA k1.row k1.jxB (by decide);have hge:∀ j,u.ownBlock=some j->lo<=j:=fun j e=>(k1.row.lt j e).1
 have v2:=k1.rZ.grown hg (fun e=>nv e.symm);have t2:=k1.Td.grown hg (fun e=>nt e.symm);have j2:=k1.jxB.grown hg (fun e=>nj e.symm);have r2:=k1.rxB.grown hg (fun e=>by have:=hge _ e.symm;omega);have b2:=k1.Tf.grown hg (fun e=>by have:=hge _ e.symm;omega);have i2:(R.image=none/\p= .pointer none)\/∃ g P,p= .pointer (some ⟨g,2,none⟩)/\R.image=some P.text/\ak W2 g 104 (pY P)/\g<lo/\wz.heap.size<=g:=by
  rcases k1.img with e | ⟨q,P,e1,e2,e3,e4⟩
  ·exact .inl e
  ·exact .inr ⟨q,P,e1,e2,e3.grown hg (fun e=>aA k1.row e3 (by decide) e.symm),e4⟩
 refine⟨k1,v2,t2,?_⟩;have hs:=au W2 vb 5 (.slice (some ⟨g,0,none⟩) (R.texts.length+1) c);have hv:=v2.aB 5 (.slice (some ⟨g,0,none⟩) (R.texts.length+1) c);refine⟨(k1.b.grown hg k1.b.size (fun r e=>by have:=hge r e;omega)).setCell (p:=⟨vb,5,none⟩) k.z.1 _,k.z,t2.grown hs (fun e=>t2.gY v2 (by decide) (Option.some.inj e)),j2.grown hs (fun e=>j2.gY v2 (by decide) (Option.some.inj e)),r2.grown hs (fun e=>r2.gY v2 (by decide) (Option.some.inj e)),b2.grown hs (fun e=>k.ne (Option.some.inj e)),hv,?_,?_,fun e=>absurd e (by simp),⟨hl.1,hl.2.1,hl.2.2.1,fU hl1.2.2.2.1 (fU hg.size hs.size),hl.2.2.2.2⟩⟩
 ·rcases i2 with e | ⟨q,P,e1,e2,e3,e4⟩
  ·exact .inl e
  ·exact .inr ⟨q,P,e1,e2,e3.grown hs (fun e=>e3.gY v2 (by decide) (Option.some.inj e)),e4⟩
 ·show(W2.setCell ⟨vb,5,none⟩ _).ownsRow lo 9 1 _ (R.texts++ [t]).length (strCells (R.texts++ [t]))
  rw[kM,jE];exact hown.kept hs (.inr (aA hown v2 (by decide)))
theorem zO.ahF (k:zO wz dv jb vb tv bf jx rx root R lo p u W) {W1 W2:World} {n g c:Nat} (hB:Below W.heap.size W W1) (hg:W1.grownBy W2 u.ownBlock) (hgo:u.ownBlock=some g\/W.heap.size<=g):Rnd vb bf W (W2.setCell ⟨vb,5,none⟩ (.slice (some ⟨g,0,none⟩) n c)):=by
 have k1:=k.below hB;have nv:=aA k1.row k1.rZ (by decide);have v2:=k1.rZ.grown hg (fun e=>nv e.symm);have r1:Rnd vb bf W W1:=Rnd.below k.rZ.lt hB;have r2:Rnd vb bf W1 W2:=Rnd.grown k1.rZ rfl hg nv (fun j o e ho=>by
  obtain⟨-,⟨q,-⟩ | ⟨g',cap,cur,q,-,q2,-⟩⟩:=k1.row
  ·rw[q] at e;cases e
  ·rw[q] at e;cases e;rw[q2] at ho;cases ho;rfl)
 have r3:=r1.trans r2;refine Rnd.aom v2 rfl (fun j e=>?_) r3 r3.s;have:g=j:=by simpa [Value.ownBlock] using e
 rw[<-this];exact hgo
end
def Far (W:World) (row:Option Nat):Prop:=∀ (k:Nat) (t:TypeId) (cs:Array Value),ak W k t cs->(t=89\/t=139\/t=9\/t=4\/t=137\/t=126\/t=134\/t=79\/t=104)->some k≠row
theorem Far.acU {W:World} {j:Nat} {t:TypeId} {cs:Array Value} (h:ak W j t cs) (ht:t=34\/t=39):Far W (some j):=by
 intro k t' cs' hk hT e;have ne:t'≠t:=by
  rcases ht with rfl | rfl<;>rcases hT with rfl | rfl | rfl | rfl | rfl | rfl | rfl | rfl | rfl<;>decide
 exact hk.gY h ne (Option.some.inj e)
theorem Far.ahG {W:World} {row:Option Nat} (hr:∀ r,row=some r->∃ o:Obj,W.heap[r]? =some o/\o.isCells=false):Far W row:=fun _ _ _ hk _=>fJ hk hr
theorem Far.own {W:World} {row:Option Nat} (h:Far W row) {base sz n:Nat} {e:TypeId} {v:Value} {xs:List Value} (ho:W.ownsRow base e sz v n xs) (he:e=9\/e=4\/e=134):v.ownBlock=none\/v.ownBlock≠row:=by
 rcases ho.2 with⟨rfl,_⟩ | ⟨g,cap,cur,rfl,_,hg,_⟩
 ·exact .inl rfl
 ·exact .inr (h g e cur hg (by rcases he with rfl | rfl | rfl<;>simp))
section
variable {w w':World} {x:uX} {h:Nat} {V:mJ} {D:Dev} {p u:Value} {a:nP} {row:Option Nat}
theorem oP (k:aO w a D) (hg:w.grownBy w' row) (hf:Far w row):aO w' a D:=by
 obtain⟨cap,cur,m1,m2,_⟩:=k.mem.body;exact⟨k.blk.grown hg (hf _ _ _ k.blk (by simp)),k.mem.grown hg (hf _ _ _ m1 (by simp)) (hf _ _ _ m2 (by simp)),k.lC.kept hg (hf.own k.lC (by simp)),k.o7.kept hg (hf.own k.o7 (by simp))⟩
theorem kH.far (k:kH w x h V D p u) (hg:w.grownBy w' row) (hf:Far w row):kH w' x h V D p u:=by
 obtain⟨vj,hv⟩:=k.OZ;refine⟨oP k.dev hg hf,⟨vj,hv.blk.grown hg (hf _ _ _ hv.blk (by simp)),hv.row.kept hg (hf.own hv.row (by simp))⟩,k.blk.grown hg (hf _ _ _ k.blk (by simp)),?_,k.row.kept hg (hf.own k.row (by simp)),k.acV,k.Rw,fU k.Y8 hg.size⟩;refine yI.keep k.img (fun g T cs hb hT _ _ _=>hg.block g hb.lt (hf _ _ _ hb ?_));rcases hT with rfl | rfl<;>simp
end
section
variable {w w' w1:World} {x:uX} {h:Nat} {V:mJ} {D:Dev} {p u:Value} {a:nP}
theorem kH.box (k:kH w x h V D p u) (hF:bH w w' x u) {j:Nat} {t:TypeId} {cs:Array Value} (hb:ak w j t cs) (ht:t≠89/\t≠139/\t≠9/\t≠4/\t≠126/\t≠79):ak w' j t cs:=by
 obtain⟨_,q2⟩:=k.dev.JJ;obtain⟨_,q3⟩:=k.dev.Bl;obtain⟨_,q4⟩:=k.dev.JK;obtain⟨_,hv⟩:=k.OZ;exact(hF.rest j hb.lt (hb.gY k.dev.blk ht.1) (hb.gY q2 ht.2.1) (hb.gY q3 ht.2.2.1) (hb.gY q4 ht.2.2.2.1) (hb.gY hv.blk ht.2.2.2.2.1) (hb.gY k.blk ht.2.2.2.2.2) (aA k.row hb (Ne.symm ht.2.2.1))).trans hb
theorem lJ {W:World} {E j:Nat} {o:Obj} {t:TypeId} {cs:Array Value} (hE:W.heap[E]? =some o) (ho:o.isCells=false) (hb:ak W j t cs):E≠j:=by
 rintro rfl;unfold ak at hb;rw[hE] at hb;cases hb;cases ho
theorem kH.other (k:kH w x h V D p u) (hF:bH w w' x u) {E:Nat} {o:Obj} (hE:w.heap[E]? =some o) (ho:o.isCells=false):w'.heap[E]? =some o:=by
 obtain⟨_,q2⟩:=k.dev.JJ;obtain⟨_,q3⟩:=k.dev.Bl;obtain⟨_,q4⟩:=k.dev.JK;obtain⟨_,hv⟩:=k.OZ;refine(hF.rest E (Array.getElem?_eq_some_iff.1 hE).1 (lJ hE ho k.dev.blk) (lJ hE ho q2) (lJ hE ho q3) (lJ hE ho q4) (lJ hE ho hv.blk) (lJ hE ho k.blk) (fun e=>?_)).trans hE;rcases k.row.2 with⟨q,_⟩ | ⟨g,cap,cur,q,_,hg,_⟩
 ·rw[q] at e;cases e
 ·rw[q] at e;cases e;exact lJ hE ho hg rfl
theorem vw {r2 r3 E:Nat} {v2 v3:Value} (hL:dJ w w1 a) (hd:aO w1 a D) (h2:ak w1 r2 34 #[v2]) (h3:ak w1 r3 39 #[v3]) (hr2:w.heap.size<=r2) (hr3:w.heap.size<=r3) (hrE:w.heap.size<=E) (hK:w1.heap[E]? =some (.deferred (some []))) (n2 n3:Value):
  ((w1.setCell ⟨r2,0,none⟩ n2).setCell ⟨r3,0,none⟩ n3).heap[E]? =some (.deferred (some []))/\
  (((w1.setCell ⟨r2,0,none⟩ n2).setCell ⟨r3,0,none⟩ n3).putObj E (.deferred none)).cell? ⟨r2,0,none⟩=some n2/\(((w1.setCell ⟨r2,0,none⟩ n2).setCell ⟨r3,0,none⟩ n3).putObj E (.deferred none)).cell? ⟨r3,0,none⟩=some n3/\
  dJ w (((w1.setCell ⟨r2,0,none⟩ n2).setCell ⟨r3,0,none⟩ n3).putObj E (.deferred none)) a/\aO (((w1.setCell ⟨r2,0,none⟩ n2).setCell ⟨r3,0,none⟩ n3).putObj E (.deferred none)) a D/\
  (∀ {x:uX} {h:Nat} {V:mJ} {p u:Value},kH w1 x h V D p u->kH (((w1.setCell ⟨r2,0,none⟩ n2).setCell ⟨r3,0,none⟩ n3).putObj E (.deferred none)) x h V D p u):=by
 have g2:=au w1 r2 0 n2;have g3:=au (w1.setCell ⟨r2,0,none⟩ n2) r3 0 n3;have n23:r2≠r3:=h2.gY h3 (by decide);have b2:=h2.aB 0 n2;have b3:=(h3.grown g2 (fun e=>n23 (Option.some.inj e).symm));have c2:=b2.grown g3 (fun e=>n23 (Option.some.inj e));have c3:=b3.aB 0 n3;have k1:(w1.setCell ⟨r2,0,none⟩ n2).heap[E]? =some (.deferred (some [])):=(Below.heap_setCell w1 ⟨r2,0,none⟩ n2 E (lJ hK rfl h2)).trans hK;have k2:((w1.setCell ⟨r2,0,none⟩ n2).setCell ⟨r3,0,none⟩ n3).heap[E]? =some (.deferred (some [])):=(Below.heap_setCell _ ⟨r3,0,none⟩ n3 E (lJ k1 rfl b3)).trans k1;have gE:=grownBy_putObj' ((w1.setCell ⟨r2,0,none⟩ n2).setCell ⟨r3,0,none⟩ n3) E (.deferred none);have rE:∀ r,some E=some r->∃ o:Obj,((w1.setCell ⟨r2,0,none⟩ n2).setCell ⟨r3,0,none⟩ n3).heap[r]? =some o/\o.isCells=false:=fun r e=>by cases e;exact⟨_,k2,rfl⟩
 have f2:=Far.acU h2 (.inl rfl);have f3:=Far.acU b3 (.inr rfl);have fE:=Far.ahG rE;refine⟨k2,(c2.grown gE (fJ c2 rE)).cell 0,(c3.grown gE (fJ c3 rE)).cell 0,?_,oP (oP (oP hd g2 f2) g3 f3) gE fE,fun k=>((k.far g2 f2).far g3 f3).far gE fE⟩;refine⟨hL.os,hL.tape,hL.output,fU hL.size (fU g2.size (fU g3.size gE.size)),fun j hj e1 e2 e3 e4=>?_⟩;have hj1:=rY hj hL.size;have s2:=g2.block j hj1 (fun e=>by have:=Option.some.inj e;omega);have s3:=g3.block j (rY hj1 g2.size) (fun e=>by have:=Option.some.inj e;omega);have sE:=gE.block j (rY hj1 (fU g2.size g3.size)) (fun e=>by have:=Option.some.inj e;omega);exact sE.trans (s3.trans (s2.trans (hL.rest j hj e1 e2 e3 e4)))
end
end Go.Proofs.YtpghocekofdpbaaGreatDoor
