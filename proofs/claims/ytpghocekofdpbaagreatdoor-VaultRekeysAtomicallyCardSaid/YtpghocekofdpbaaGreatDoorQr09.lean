import Derived.Test.YtpghocekofdpbaaGreatDoorQr08
set_option maxRecDepth 100000
set_option maxHeartbeats 4000000
namespace Go.Proofs.YtpghocekofdpbaaGreatDoor
open Go.RowKit Go.Shelf
attribute [local go_sem] Oper.semAt_some
def yL (l:List Bool):List Value:=l.map Value.bool
structure aS (w:World) (d b g sb sc fb fc:Nat) (D:Dev):Prop where
 blk:ak w d 89 #[.slice (some ⟨sb,0,none⟩) D.slots.length sc,.slice (some ⟨fb,0,none⟩) D.qR.length fc,.int .i64 D.counter,.int .i64 D.clock,.pointer (some ⟨b,0,none⟩),.bool D.down,.int .i64 D.left]
 mem:jP w b g D.M
 lC:w.ownsRow 0 9 1 (.slice (some ⟨sb,0,none⟩) D.slots.length sc) D.slots.length (strCells D.slots)
 o7:w.ownsRow 0 4 1 (.slice (some ⟨fb,0,none⟩) D.qR.length fc) D.qR.length (yL D.qR)
section
variable {w:World} {d b g sb sc fb fc:Nat} {D:Dev}
theorem aS.cells (h:aS w d b g sb sc fb fc D):w.cell? ⟨d,0,none⟩=some (.slice (some ⟨sb,0,none⟩) D.slots.length sc)/\w.cell? ⟨d,1,none⟩=some (.slice (some ⟨fb,0,none⟩) D.qR.length fc)/\w.cell? ⟨d,2,none⟩=some (.int .i64 D.counter)/\w.cell? ⟨d,3,none⟩=some (.int .i64 D.clock)/\
  w.cell? ⟨d,4,none⟩=some (.pointer (some ⟨b,0,none⟩))/\w.cell? ⟨d,5,none⟩=some (.bool D.down)/\w.cell? ⟨d,6,none⟩=some (.int .i64 D.left):=
 ⟨h.blk.cell 0,h.blk.cell 1,h.blk.cell 2,h.blk.cell 3,h.blk.cell 4,h.blk.cell 5,h.blk.cell 6⟩
theorem Et (h:aS w d b g sb sc fb fc D):Calls Tryz.prog 103 #[.pointer (some ⟨d,0,none⟩)] w fun e w'=>e= .returned (.int .i64 D.M.length)/\w=w':=by
 obtain⟨c0,c1,c2,c3,c4,c5,c6⟩:=h.cells;have HL:=zh (len_any h.mem);go_enter Tryz.func103,Tryz.ntmps103;go_wp2_with (first | (go_at_call 145;refine HL.out.mono ?_;rintro e w1 ⟨rfl,rfl⟩));go_ret;exact⟨rfl,rfl⟩
theorem mX (w:World) (x:Bool):Calls Tryz.prog 117 #[.bool x] w fun e w'=>e= .returned (.int .i64 (if x=true then 0 else 1))/\w=w':=by
 cases x with
 | true=>
  go_enter Tryz.func117,Tryz.ntmps117;go_wp2_with fail;go_ret;exact⟨rfl,rfl⟩
 | false=>
  go_enter Tryz.func117,Tryz.ntmps117;go_wp2_with fail;go_ret;exact⟨rfl,rfl⟩
end
section
variable {w:World} {d b g sb sc fb fc:Nat} {D:Dev}
theorem KC (h:aS w d b g sb sc fb fc D) (hd:D.down=true) (check:Int) (v:Value):
  Calls Tryz.prog 116 #[.pointer (some ⟨d,0,none⟩),.int .i64 check,v] w fun e w'=>e= .returned (.int .i64 14)/\w=w':=by
 obtain⟨c0,c1,c2,c3,c4,c5,c6⟩:=h.cells;rw[hd] at c5;clear hd;go_enter Tryz.func116,Tryz.ntmps116;go_wp2_with fail;go_ret;exact⟨rfl,rfl⟩
theorem Pj (h:aS w d b g sb sc fb fc D) (hd:D.down=false) (check:Int) (hc:check≠0) (v:Value):
  Calls Tryz.prog 116 #[.pointer (some ⟨d,0,none⟩),.int .i64 check,v] w fun e w'=>e= .returned (.int .i64 check)/\w=w':=by
 obtain⟨c0,c1,c2,c3,c4,c5,c6⟩:=h.cells;rw[hd] at c5;have hb:(check==0)=false:=lM hc;clear hd hc;go_enter Tryz.func116,Tryz.ntmps116;go_wp2_with fail;go_ret;exact⟨rfl,rfl⟩
theorem aS.aas {w':World} {D':Dev} (h:aS w d b g sb sc fb fc D) (hg:w.grownBy w' (some d)) (e1:D'.slots=D.slots) (e2:D'.qR=D.qR) (e3:D'.M=D.M)
  (hb:ak w' d 89 #[.slice (some ⟨sb,0,none⟩) D.slots.length sc,.slice (some ⟨fb,0,none⟩) D.qR.length fc,.int .i64 D'.counter,.int .i64 D'.clock,.pointer (some ⟨b,0,none⟩),.bool D'.down,.int .i64 D'.left]):aS w' d b g sb sc fb fc D':=by
 obtain⟨cap,cur,hbb,hgb,_⟩:=h.mem.body;have n1:=hbb.gY h.blk (by decide);have n2:=hgb.gY h.blk (by decide);refine⟨by rw[e1,e2];exact hb,by rw[e3];exact h.mem.grown hg (fun e=>n1 (by cases e;rfl)) (fun e=>n2 (by cases e;rfl)),?_,?_⟩
 ·rw[e1];exact h.lC.kept hg (.inr (aA h.lC h.blk (by decide)))
 ·rw[e2];exact h.o7.kept hg (.inr (aA h.o7 h.blk (by decide)))
theorem KD (h:aS w d b g sb sc fb fc D) (hd:D.down=false) (hl:D.left=0) (v:Value):
  Calls Tryz.prog 116 #[.pointer (some ⟨d,0,none⟩),.int .i64 0,v] w fun e w'=>e= .returned (.int .i64 14)/\aS w' d b g sb sc fb fc { D with down:=true,left:= -1 }/\w.grownBy w' (some d):=by
 have hf:=h.blk.frozen;obtain⟨c0,c1,c2,c3,c4,c5,c6⟩:=h.cells;rw[hd] at c5;rw[hl] at c6;have H:=zh h;clear hd hl h;go_enter Tryz.func116,Tryz.ntmps116;go_wp2_with fail;go_ret;have hg:=bG (au w d 5 (.bool true)) (au (w.setCell ⟨d,5,none⟩ (.bool true)) d 6 (.int .i64 (-1)));exact⟨rfl,H.out.aas hg rfl rfl rfl ((H.out.blk.aB 5 (.bool true)).aB 6 (.int .i64 (-1))),hg⟩
def iE (l:Int):Int:=max (l-1) (-1)
theorem step_ok {Q:World->Prop} (h:aS w d b g sb sc fb fc D) (hd:D.down=false) (hl:D.left≠0) (hr: -1<=D.left/\D.left<=9223372036854775807) (fi:Nat) (caps:Array Value) (eg:∀ args w,(callFunc fi args).run Tryz.prog w= .ok (.enter fi args) w)
  (HC:∀ w2,aS w2 d b g sb sc fb fc { D with left:=iE D.left }->w.grownBy w2 (some d)->Calls Tryz.prog fi caps w2 fun e w'=>e= .returned (.tuple #[])/\Q w'):
  Calls Tryz.prog 116 #[.pointer (some ⟨d,0,none⟩),.int .i64 0,.func (.func fi) #[] caps] w fun e w'=>e= .returned (.int .i64 0)/\Q w':=by
 have hf:=h.blk.frozen;obtain⟨c0,c1,c2,c3,c4,c5,c6⟩:=h.cells;rw[hd] at c5;have hb:(D.left==0)=false:=lM hl;have hw64:wrap64 (D.left-1)=D.left-1:=by unfold wrap64;omega
 have H:=zh h;have Hc:=zh HC;clear hd hl h hr HC;go_enter Tryz.func116,Tryz.ntmps116;go_wp2_with fail;have hg:=au w d 6 (.int .i64 (iE D.left));have hD:aS (w.setCell ⟨d,6,none⟩ (.int .i64 (iE D.left))) d b g sb sc fb fc { D with left:=iE D.left }:=H.out.aas hg rfl rfl rfl (by
  have:=H.out.blk.aB 6 (.int .i64 (iE D.left));exact this)
 refine(Hc.out _ hD hg).mono ?_;rintro e w' ⟨rfl,hQ⟩;have HQ:=zh hQ;clear hQ;go_wp2_with fail;go_ret;exact⟨rfl,HQ.out⟩
end
structure iP (w w':World) (d g sb fb:Nat):Prop where
 os:w'.os=w.os
 tape:w'.tape=w.tape
 output:w'.output=w.output
 size:w.heap.size<=w'.heap.size
 rest:∀ k,k<w.heap.size->k≠d->k≠g->k≠sb->k≠fb->w'.heap[k]? =w.heap[k]?
section
variable {w w' w2:World} {d b g sb sc fb fc:Nat} {D:Dev}
theorem iP.refl (w:World):iP w w d g sb fb:=⟨rfl,rfl,rfl,aF _,fun _ _ _ _ _ _=>rfl⟩
theorem iP.trans (h:iP w w' d g sb fb) (k:iP w' w2 d g sb fb):iP w w2 d g sb fb:=
 ⟨k.os.trans h.os,k.tape.trans h.tape,k.output.trans h.output,fU h.size k.size,fun i hi h1 h2 h3 h4=>(k.rest i (rY hi h.size) h1 h2 h3 h4).trans (h.rest i hi h1 h2 h3 h4)⟩
theorem iP.lD {r:Nat} (hg:w.grownBy w' (some r)) (hr:r=d\/r=g\/r=sb\/r=fb):iP w w' d g sb fb:=
 ⟨hg.os,hg.tape,hg.output,hg.size,fun k hk h1 h2 h3 h4=>hg.block k hk (fun e=>by cases e;rcases hr with h | h | h | h<;>(subst h;first | exact h1 rfl | exact h2 rfl | exact h3 rfl | exact h4 rfl))⟩
theorem iP.bD (hB:Below w.heap.size w w'):iP w w' d g sb fb:=⟨hB.os,hB.tape,hB.output,hB.size,fun k hk _ _ _ _=>hB.block k hk⟩
theorem iP.below {B:Nat} {w0:World} (h:iP w w' d g sb fb) (hB:Below B w0 w) (hw:B<=w.heap.size) (h1:B<=d) (h2:B<=g) (h3:B<=sb) (h4:B<=fb):Below B w0 w':=
 ⟨h.os.trans hB.os,h.tape.trans hB.tape,h.output.trans hB.output,fU hB.size h.size,fun k hk=>(h.rest k (by omega) (by omega) (by omega) (by omega) (by omega)).trans (hB.block k hk)⟩
theorem aS.turn {M2:List Sec} (h:aS w d b g sb sc fb fc D) (hM:jP w' b g M2) (hg:w.grownBy w' (some g)):aS w' d b g sb sc fb fc { D with M:=M2 }:=by
 obtain⟨cap,cur,_,hgb,_⟩:=h.mem.body;exact⟨h.blk.grown hg (fun e=>h.blk.gY hgb (by decide) (by cases e;rfl)),hM,h.lC.kept hg (.inr (aA h.lC hgb (by decide))),h.o7.kept hg (.inr (aA h.o7 hgb (by decide)))⟩
theorem aS.below (h:aS w d b g sb sc fb fc D) (hB:Below w.heap.size w w'):aS w' d b g sb sc fb fc D:=
 ⟨h.blk.below hB h.blk.lt,h.mem.below hB h.mem.lt.1 h.mem.lt.2,ownsRow_below h.lC hB (aF _),ownsRow_below h.o7 hB (aF _)⟩
theorem Pg (h:aS w d b g sb sc fb fc D) (hr: -1<=D.left/\D.left<=9223372036854775807) (check:Int) (fi:Nat) (caps:Array Value) (eg:∀ args w,(callFunc fi args).run Tryz.prog w= .ok (.enter fi args) w) (f:Dev->Dev)
  (HC:check=0->∀ w2,aS w2 d b g sb sc fb fc { D with left:=iE D.left }->w.grownBy w2 (some d)->Calls Tryz.prog fi caps w2 fun e w'=>e= .returned (.tuple #[])/\aS w' d b g sb sc fb fc (f { D with left:=iE D.left })/\iP w2 w' d g sb fb):
  Calls Tryz.prog 116 #[.pointer (some ⟨d,0,none⟩),.int .i64 check,.func (.func fi) #[] caps] w fun e w'=>e= .returned (.int .i64 (D.jq check f).1)/\aS w' d b g sb sc fb fc (D.jq check f).2/\iP w w' d g sb fb:=by
 unfold Dev.jq;by_cases hd:D.down=true
 ·rw[if_pos hd];refine(KC h hd check _).mono ?_;rintro e w' ⟨rfl,rfl⟩;exact⟨rfl,h,iP.refl _⟩
 ·rw[if_neg hd];have hd':D.down=false:=by simpa using hd
  by_cases hc:check≠0
  ·rw[if_pos hc];refine(Pj h hd' check hc _).mono ?_;rintro e w' ⟨rfl,rfl⟩;exact⟨rfl,h,iP.refl _⟩
  ·rw[if_neg hc];have hc':check=0:=by simpa using hc
   subst hc';by_cases hl:D.left=0
   ·rw[if_pos hl];refine(KD h hd' hl _).mono ?_;rintro e w' ⟨rfl,h1,h2⟩;exact⟨rfl,h1,iP.lD h2 (.inl rfl)⟩
   ·rw[if_neg hl];refine(step_ok (Q:=fun w'=>aS w' d b g sb sc fb fc (f { D with left:=iE D.left })/\iP w w' d g sb fb) h hd' hl hr fi caps eg (fun w2 h1 h2=>(HC rfl w2 h1 h2).mono ?_)).mono ?_
    ·rintro e w' ⟨rfl,h3,h4⟩;exact⟨rfl,h3,(iP.lD h2 (.inl rfl)).trans h4⟩
    ·rintro e w' ⟨rfl,h3,h4⟩;exact⟨rfl,h3,h4⟩
theorem aaw (args:Array Value) (w:World):(callFunc 155 args).run Tryz.prog w= .ok (.enter 155 args) w:=by simp[go_sem]
theorem aaq (args:Array Value) (w:World):(callFunc 118 args).run Tryz.prog w= .ok (.enter 118 args) w:=by simp[go_sem]
end
section
variable {w:World} {d b g sb sc fb fc:Nat} {D:Dev}
theorem TN (h:aS w d b g sb sc fb fc D) (bd bi bt:Nat) (i:Int) (t:ByteArray) (k1:ak w bd 33 #[.pointer (some ⟨d,0,none⟩)]) (k2:ak w bi 3 #[.int .i64 i]) (k3:ak w bt 9 #[.string t]):
  Calls Tryz.prog 155 #[.pointer (some ⟨bd,0,none⟩),.pointer (some ⟨bi,0,none⟩),.pointer (some ⟨bt,0,none⟩)] w fun e w'=>e= .returned (.tuple #[])/\
   aS w' d b g sb sc fb fc { D with M:=if iV D.M i/\t.size=64 then upd (fun s=>s.write t) D.M i else D.M }/\w.grownBy w' (some g):=by
 have c4:=h.blk.cell 4;have h1:=k1.cell 0;have h2:=k2.cell 0;have h3:=k3.cell 0;obtain⟨cap,cur,_,hgb,_⟩:=h.mem.body;have hK:Hid (∀ w',w.drew.grownBy w' (some g)->ak w' bd 33 #[.pointer (some ⟨d,0,none⟩)]/\ak w' bi 3 #[.int .i64 i]/\ak w' bt 9 #[.string t]/\w'.cell? ⟨d,4,none⟩=some (.pointer (some ⟨b,0,none⟩))):=fun w' hg=>
  ⟨k1.drew.grown hg (fun e=>k1.gY hgb (by decide) (by cases e;rfl)),k2.drew.grown hg (fun e=>k2.gY hgb (by decide) (by cases e;rfl)),k3.drew.grown hg (fun e=>k3.gY hgb (by decide) (by cases e;rfl)),(h.blk.drew.grown hg (fun e=>h.blk.gY hgb (by decide) (by cases e;rfl))).cell 4⟩
 have H:=zh (h.below (bK _ w).drew);have HW:=zh (write_any H.out.mem i t);have HG:=zh (grown_drewN w 1 (some g));generalize (if iV D.M i/\t.size=64 then upd (fun s=>s.write t) D.M i else D.M)=M2 at HW ⊢;generalize errOf (iV D.M i/\t.size=64)=ev at HW;clear h k1 k2 k3 hgb;go_enter Tryz.func155,Tryz.ntmps155;go_wp2_with fail
 go_region_held3 (fun w'=>w'.cell? ⟨bd,0,none⟩=some (.pointer (some ⟨d,0,none⟩))/\w'.cell? ⟨bi,0,none⟩=some (.int .i64 i)/\w'.cell? ⟨bt,0,none⟩=some (.string t)/\w'.cell? ⟨d,4,none⟩=some (.pointer (some ⟨b,0,none⟩))) (go_keep)
  (first
  | (go_at_call 156;refine HW.out.mono ?_;rintro e w' ⟨rfl,hM,hg⟩;obtain⟨j1,j2,j3,j4⟩:=hK.out _ hg;have x1:=j1.cell 0;have x2:=j2.cell 0;have x3:=j3.cell 0))
 go_wp2_with fail;go_end0;exact⟨by simp,H.out.turn hM hg,bG HG.out hg⟩
end
section
variable {w:World} {d b g sb sc fb fc:Nat} {D:Dev}
theorem Wh {p:Prop} [Decidable p] (h:p):chk p=0:=by unfold chk;rw[if_pos h]
theorem vI {p:Prop} [Decidable p] (h:¬ p):chk p=1:=by unfold chk;rw[if_neg h]
theorem aar {p:Prop} [Decidable p] (h:chk p=0):p:=by
 unfold chk at h;split at h
 ·assumption
 ·omega
theorem qU (h:aS w d b g sb sc fb fc D) (hr: -1<=D.left/\D.left<=9223372036854775807) (bd bi bt:Nat) (i:Int) (t:ByteArray) (k1:ak w bd 33 #[.pointer (some ⟨d,0,none⟩)]) (k2:ak w bi 3 #[.int .i64 i]) (k3:ak w bt 9 #[.string t]):
  Calls Tryz.prog 116 #[.pointer (some ⟨d,0,none⟩),.int .i64 (chk (iV D.M i/\t.size=64)),.func (.func 155) #[] #[.pointer (some ⟨bd,0,none⟩),.pointer (some ⟨bi,0,none⟩),.pointer (some ⟨bt,0,none⟩)]] w fun e w'=>e= .returned (.int .i64 (D.jq (chk (iV D.M i/\t.size=64)) fun D=> { D with M:=upd (fun s=>s.write t) D.M i }).1)/\
   aS w' d b g sb sc fb fc (D.jq (chk (iV D.M i/\t.size=64)) fun D=> { D with M:=upd (fun s=>s.write t) D.M i }).2/\iP w w' d g sb fb:=by
 refine Pg h hr _ _ _ aaw _ (fun hc w2 h2 hg=>?_);have hp:=aar hc;have n1:=k1.gY h.blk (by decide);have n2:=k2.gY h.blk (by decide);have n3:=k3.gY h.blk (by decide);refine(TN h2 bd bi bt i t (k1.grown hg (fun e=>n1 (by cases e;rfl))) (k2.grown hg (fun e=>n2 (by cases e;rfl))) (k3.grown hg (fun e=>n3 (by cases e;rfl)))).mono ?_;rintro e w' ⟨rfl,h3,h4⟩;rw[if_pos hp] at h3;exact⟨rfl,h3,iP.lD h4 (.inr (.inl rfl))⟩
theorem X9 (h:aS w d b g sb sc fb fc D) (_hr: -1<=D.left/\D.left<=9223372036854775807) (i:Int) (t:ByteArray) (hi:iV D.M i) (ht:t.size=64) (R:Int) (E:Dev) (HE:∀ w2 bd bi bt,aS w2 d b g sb sc fb fc D->ak w2 bd 33 #[.pointer (some ⟨d,0,none⟩)]->ak w2 bi 3 #[.int .i64 i]->ak w2 bt 9 #[.string t]->
   Calls Tryz.prog 116 #[.pointer (some ⟨d,0,none⟩),.int .i64 0,.func (.func 155) #[] #[.pointer (some ⟨bd,0,none⟩),.pointer (some ⟨bi,0,none⟩),.pointer (some ⟨bt,0,none⟩)]] w2 fun e w'=>e= .returned (.int .i64 R)/\aS w' d b g sb sc fb fc E/\iP w2 w' d g sb fb):
  Calls Tryz.prog 125 #[.pointer (some ⟨d,0,none⟩),.int .i64 i,.string t] w fun e w'=>e= .returned (.int .i64 R)/\aS w' d b g sb sc fb fc E/\iP w w' d g sb fb:=by
 have hs1:((w.alloc (.cells #[.pointer (some ⟨d,0,none⟩)] 33)).alloc (.cells #[.int .i64 i] 3)).heap.size=w.heap.size+1+1:=by simp
 have hs0:(w.alloc (.cells #[.pointer (some ⟨d,0,none⟩)] 33)).heap.size=w.heap.size+1:=by simp
 have q1:ak (((w.alloc (.cells #[.pointer (some ⟨d,0,none⟩)] 33)).alloc (.cells #[.int .i64 i] 3)).alloc (.cells #[.string t] 9)) w.heap.size 33 #[.pointer (some ⟨d,0,none⟩)]:=((ak.new w _ _).alloc _).alloc _;have q2:ak (((w.alloc (.cells #[.pointer (some ⟨d,0,none⟩)] 33)).alloc (.cells #[.int .i64 i] 3)).alloc (.cells #[.string t] 9)) (w.heap.size+1) 3 #[.int .i64 i]:=by rw[<-hs0];exact(ak.new _ _ _).alloc _
 have q3:ak (((w.alloc (.cells #[.pointer (some ⟨d,0,none⟩)] 33)).alloc (.cells #[.int .i64 i] 3)).alloc (.cells #[.string t] 9)) (w.heap.size+1+1) 9 #[.string t]:=by rw[<-hs1];exact ak.new _ _ _
 have hB:Below w.heap.size w (((w.alloc (.cells #[.pointer (some ⟨d,0,none⟩)] 33)).alloc (.cells #[.int .i64 i] 3)).alloc (.cells #[.string t] 9)):=(((bK _ w).alloc (aF _) _).alloc (by omega) _).alloc (by omega) _;have ls:=(h.lC.lt sb rfl).2;have lf:=(h.o7.lt fb rfl).2;have ld:=h.blk.lt;have lg:=h.mem.lt.2;have HH:=zh HE;have H:=zh h;clear HE h hs1 hs0;go_enter Tryz.func125,Tryz.ntmps125;go_wp2_with fail;generalize (((w.alloc (.cells #[.pointer (some ⟨d,0,none⟩)] 33)).alloc (.cells #[.int .i64 i] 3)).alloc (.cells #[.string t] 9))=W at q1 q2 q3 hB ⊢;have hD:aS W.drew d b g sb sc fb fc D:=H.out.below (hB.drew);have yM:=zh hB.drew;have hst:=zh (HH.out W.drew _ _ _ hD q1.drew q2.drew q3.drew);have hK:Hid (∀ w',iP W.drew w' d g sb fb->ak w' w.heap.size 33 #[.pointer (some ⟨d,0,none⟩)]/\ak w' (w.heap.size+1) 3 #[.int .i64 i]/\ak w' (w.heap.size+1+1) 9 #[.string t]):=fun w' hF=>
  ⟨(hF.rest _ q1.lt (by omega) (by omega) (by omega) (by omega)).trans q1,(hF.rest _ q2.lt (by omega) (by omega) (by omega) (by omega)).trans q2,(hF.rest _ q3.lt (by omega) (by omega) (by omega) (by omega)).trans q3⟩
 have x1:=q1.cell 0;have x2:=q2.cell 0;have x3:=q3.cell 0;have x4:=hD.blk.cell 4;have HL:=zh (len_any hD.mem);clear q1 q2 q3 hB hD ls lf ld lg _hr;have d1:decide (0<=i)=true:=pW hi.1;have d2:decide (i<(D.M.length:Int))=true:=pW hi.2;have d3:((t.size:Int)==64)=true:=by rw[ht];rfl
 clear hi ht
 go_region_held3 (fun w'=>w'.cell? ⟨w.heap.size,0,none⟩=some (.pointer (some ⟨d,0,none⟩))/\w'.cell? ⟨w.heap.size+1,0,none⟩=some (.int .i64 i)/\w'.cell? ⟨w.heap.size+1+1,0,none⟩=some (.string t)/\w'.cell? ⟨d,4,none⟩=some (.pointer (some ⟨b,0,none⟩))) (go_keep)
  (first
  | (go_at_call 145;refine HL.out.mono ?_;rintro e w1 ⟨rfl,rfl⟩)
  | (go_at_call 117;refine(mX _ true).mono ?_;rintro e w1 ⟨rfl,rfl⟩)
  | (go_at_call 116;refine hst.out.mono ?_;rintro e w' ⟨rfl,hE,hF⟩;obtain⟨j1,j2,j3⟩:=hK.out _ hF;have y1:=j1.cell 0;have y2:=j2.cell 0;have y3:=j3.cell 0;have y4:=hE.blk.cell 4))
 all_goals go_wp2_with fail
 all_goals go_ret
 all_goals exact⟨rfl,hE,(iP.bD yM.out).trans hF⟩
theorem Po (h:aS w d b g sb sc fb fc D) (_hr: -1<=D.left/\D.left<=9223372036854775807) (i:Int) (t:ByteArray) (hi:iV D.M i) (ht:t.size≠64) (R:Int) (E:Dev) (HE:∀ w2 bd bi bt,aS w2 d b g sb sc fb fc D->ak w2 bd 33 #[.pointer (some ⟨d,0,none⟩)]->ak w2 bi 3 #[.int .i64 i]->ak w2 bt 9 #[.string t]->
   Calls Tryz.prog 116 #[.pointer (some ⟨d,0,none⟩),.int .i64 1,.func (.func 155) #[] #[.pointer (some ⟨bd,0,none⟩),.pointer (some ⟨bi,0,none⟩),.pointer (some ⟨bt,0,none⟩)]] w2 fun e w'=>e= .returned (.int .i64 R)/\aS w' d b g sb sc fb fc E/\iP w2 w' d g sb fb):
  Calls Tryz.prog 125 #[.pointer (some ⟨d,0,none⟩),.int .i64 i,.string t] w fun e w'=>e= .returned (.int .i64 R)/\aS w' d b g sb sc fb fc E/\iP w w' d g sb fb:=by
 have hs1:((w.alloc (.cells #[.pointer (some ⟨d,0,none⟩)] 33)).alloc (.cells #[.int .i64 i] 3)).heap.size=w.heap.size+1+1:=by simp
 have hs0:(w.alloc (.cells #[.pointer (some ⟨d,0,none⟩)] 33)).heap.size=w.heap.size+1:=by simp
 have q1:ak (((w.alloc (.cells #[.pointer (some ⟨d,0,none⟩)] 33)).alloc (.cells #[.int .i64 i] 3)).alloc (.cells #[.string t] 9)) w.heap.size 33 #[.pointer (some ⟨d,0,none⟩)]:=((ak.new w _ _).alloc _).alloc _;have q2:ak (((w.alloc (.cells #[.pointer (some ⟨d,0,none⟩)] 33)).alloc (.cells #[.int .i64 i] 3)).alloc (.cells #[.string t] 9)) (w.heap.size+1) 3 #[.int .i64 i]:=by rw[<-hs0];exact(ak.new _ _ _).alloc _
 have q3:ak (((w.alloc (.cells #[.pointer (some ⟨d,0,none⟩)] 33)).alloc (.cells #[.int .i64 i] 3)).alloc (.cells #[.string t] 9)) (w.heap.size+1+1) 9 #[.string t]:=by rw[<-hs1];exact ak.new _ _ _
 have hB:Below w.heap.size w (((w.alloc (.cells #[.pointer (some ⟨d,0,none⟩)] 33)).alloc (.cells #[.int .i64 i] 3)).alloc (.cells #[.string t] 9)):=(((bK _ w).alloc (aF _) _).alloc (by omega) _).alloc (by omega) _;have ls:=(h.lC.lt sb rfl).2;have lf:=(h.o7.lt fb rfl).2;have ld:=h.blk.lt;have lg:=h.mem.lt.2;have HH:=zh HE;have H:=zh h;clear HE h hs1 hs0;go_enter Tryz.func125,Tryz.ntmps125;go_wp2_with fail;generalize (((w.alloc (.cells #[.pointer (some ⟨d,0,none⟩)] 33)).alloc (.cells #[.int .i64 i] 3)).alloc (.cells #[.string t] 9))=W at q1 q2 q3 hB ⊢;have hD:aS W.drew d b g sb sc fb fc D:=H.out.below (hB.drew);have yM:=zh hB.drew;have hst:=zh (HH.out W.drew _ _ _ hD q1.drew q2.drew q3.drew);have hK:Hid (∀ w',iP W.drew w' d g sb fb->ak w' w.heap.size 33 #[.pointer (some ⟨d,0,none⟩)]/\ak w' (w.heap.size+1) 3 #[.int .i64 i]/\ak w' (w.heap.size+1+1) 9 #[.string t]):=fun w' hF=>
  ⟨(hF.rest _ q1.lt (by omega) (by omega) (by omega) (by omega)).trans q1,(hF.rest _ q2.lt (by omega) (by omega) (by omega) (by omega)).trans q2,(hF.rest _ q3.lt (by omega) (by omega) (by omega) (by omega)).trans q3⟩
 have x1:=q1.cell 0;have x2:=q2.cell 0;have x3:=q3.cell 0;have x4:=hD.blk.cell 4;have HL:=zh (len_any hD.mem);clear q1 q2 q3 hB hD ls lf ld lg _hr;have d1:decide (0<=i)=true:=pW hi.1;have d2:decide (i<(D.M.length:Int))=true:=pW hi.2;have d3:((t.size:Int)==64)=false:=lM (by omega);clear hi ht
 go_region_held3 (fun w'=>w'.cell? ⟨w.heap.size,0,none⟩=some (.pointer (some ⟨d,0,none⟩))/\w'.cell? ⟨w.heap.size+1,0,none⟩=some (.int .i64 i)/\w'.cell? ⟨w.heap.size+1+1,0,none⟩=some (.string t)/\w'.cell? ⟨d,4,none⟩=some (.pointer (some ⟨b,0,none⟩))) (go_keep)
  (first
  | (go_at_call 145;refine HL.out.mono ?_;rintro e w1 ⟨rfl,rfl⟩)
  | (go_at_call 117;refine(mX _ false).mono ?_;rintro e w1 ⟨rfl,rfl⟩)
  | (go_at_call 116;refine hst.out.mono ?_;rintro e w' ⟨rfl,hE,hF⟩;obtain⟨j1,j2,j3⟩:=hK.out _ hF;have y1:=j1.cell 0;have y2:=j2.cell 0;have y3:=j3.cell 0;have y4:=hE.blk.cell 4))
 all_goals go_wp2_with fail
 all_goals go_ret
 all_goals exact⟨rfl,hE,(iP.bD yM.out).trans hF⟩
end
end Go.Proofs.YtpghocekofdpbaaGreatDoor
