import Derived.Test.YtpghocekofdpbaaGreatDoorQr03
import Derived.Test.YtpghocekofdpbaaGreatDoorQr09
set_option maxRecDepth 100000
set_option maxHeartbeats 4000000
namespace Go.Proofs.YtpghocekofdpbaaGreatDoor
open Go.RowKit Go.Shelf
attribute [local go_sem] Oper.semAt_some
section
variable {w:World} {d b g sb sc fb fc:Nat} {D:Dev}
theorem Gu (h:aS w d b g sb sc fb fc D) (_hr: -1<=D.left/\D.left<=9223372036854775807) (i:Int) (t:ByteArray) (hi:i<0) (R:Int) (E:Dev) (HE:∀ w2 bd bi bt,aS w2 d b g sb sc fb fc D->ak w2 bd 33 #[.pointer (some ⟨d,0,none⟩)]->ak w2 bi 3 #[.int .i64 i]->ak w2 bt 9 #[.string t]->
   Calls Tryz.prog 116 #[.pointer (some ⟨d,0,none⟩),.int .i64 1,.func (.func 155) #[] #[.pointer (some ⟨bd,0,none⟩),.pointer (some ⟨bi,0,none⟩),.pointer (some ⟨bt,0,none⟩)]] w2 fun e w'=>e= .returned (.int .i64 R)/\aS w' d b g sb sc fb fc E/\iP w2 w' d g sb fb):
  Calls Tryz.prog 125 #[.pointer (some ⟨d,0,none⟩),.int .i64 i,.string t] w fun e w'=>e= .returned (.int .i64 R)/\aS w' d b g sb sc fb fc E/\iP w w' d g sb fb:=by
 have hs1:((w.alloc (.cells #[.pointer (some ⟨d,0,none⟩)] 33)).alloc (.cells #[.int .i64 i] 3)).heap.size=w.heap.size+1+1:=by simp
 have hs0:(w.alloc (.cells #[.pointer (some ⟨d,0,none⟩)] 33)).heap.size=w.heap.size+1:=by simp
 have q1:ak (((w.alloc (.cells #[.pointer (some ⟨d,0,none⟩)] 33)).alloc (.cells #[.int .i64 i] 3)).alloc (.cells #[.string t] 9)) w.heap.size 33 #[.pointer (some ⟨d,0,none⟩)]:=((ak.new w _ _).alloc _).alloc _;have q2:ak (((w.alloc (.cells #[.pointer (some ⟨d,0,none⟩)] 33)).alloc (.cells #[.int .i64 i] 3)).alloc (.cells #[.string t] 9)) (w.heap.size+1) 3 #[.int .i64 i]:=by rw[<-hs0];exact(ak.new _ _ _).alloc _
 have q3:ak (((w.alloc (.cells #[.pointer (some ⟨d,0,none⟩)] 33)).alloc (.cells #[.int .i64 i] 3)).alloc (.cells #[.string t] 9)) (w.heap.size+1+1) 9 #[.string t]:=by rw[<-hs1];exact ak.new _ _ _
 have hB:Below w.heap.size w (((w.alloc (.cells #[.pointer (some ⟨d,0,none⟩)] 33)).alloc (.cells #[.int .i64 i] 3)).alloc (.cells #[.string t] 9)):=(((bK _ w).alloc (aF _) _).alloc (by omega) _).alloc (by omega) _;have ls:=(h.lC.lt sb rfl).2;have lf:=(h.o7.lt fb rfl).2;have ld:=h.blk.lt;have lg:=h.mem.lt.2;have HH:=zh HE;have H:=zh h;clear HE h hs1 hs0;go_enter Tryz.func125,Tryz.ntmps125;go_wp2_with fail;generalize (((w.alloc (.cells #[.pointer (some ⟨d,0,none⟩)] 33)).alloc (.cells #[.int .i64 i] 3)).alloc (.cells #[.string t] 9))=W at q1 q2 q3 hB ⊢;have hD:aS W.drew d b g sb sc fb fc D:=H.out.below (hB.drew);have yM:=zh hB.drew;have hst:=zh (HH.out W.drew _ _ _ hD q1.drew q2.drew q3.drew);have hKK:Hid (∀ w',iP W.drew w' d g sb fb->ak w' w.heap.size 33 #[.pointer (some ⟨d,0,none⟩)]/\ak w' (w.heap.size+1) 3 #[.int .i64 i]/\ak w' (w.heap.size+1+1) 9 #[.string t]):=fun w' hF=>
  ⟨(hF.rest _ q1.lt (by omega) (by omega) (by omega) (by omega)).trans q1,(hF.rest _ q2.lt (by omega) (by omega) (by omega) (by omega)).trans q2,(hF.rest _ q3.lt (by omega) (by omega) (by omega) (by omega)).trans q3⟩
 have x1:=q1.cell 0;have x2:=q2.cell 0;have x3:=q3.cell 0;have x4:=hD.blk.cell 4;have HL:=zh (len_any hD.mem);clear q1 q2 q3 hB hD ls lf ld lg _hr;have d1:decide (0<=i)=false:=dF (by omega);clear hi;refine yD (S:=(fun w'=>w'.cell? ⟨w.heap.size,0,none⟩=some (.pointer (some ⟨d,0,none⟩))/\w'.cell? ⟨w.heap.size+1,0,none⟩=some (.int .i64 i)/\w'.cell? ⟨w.heap.size+1+1,0,none⟩=some (.string t)/\w'.cell? ⟨d,4,none⟩=some (.pointer (some ⟨b,0,none⟩)))) (by kernel_rfl) ⟨x1,x2,x3,x4⟩ (fun zs=>?_);refine' tk 0 rfl zs ?_;refine' tk 1 rfl zs ?_;refine' tk 2 rfl zs ?_;refine' tk 3 rfl zs ?_;refine tu 4 rfl zs ?_;refine tu 5 rfl zs ?_;refine tu 6 rfl zs ?_;refine tu 7 rfl zs ?_;refine tu 8 rfl zs ?_;refine tu 9 rfl zs ?_;refine tu 10 rfl zs ?_;refine' tk 11 rfl zs ?_;refine' tk 12 rfl zs ?_;refine tu 13 rfl zs ?_;refine tu 14 rfl zs ?_;refine tu 15 rfl zs ?_;refine' tk 16 rfl zs ?_;refine' tk 18 rfl zs ?_;refine td 17 rfl (fun K hK=>?_);go_simp;go_at_call 117;refine(mX _ false).mono ?_;rintro e w1 ⟨rfl,rfl⟩
 go_wp2_with fail;refine hK.out _ _ ?_ (fun zs=>?_)
 ·exact zs
 clear hK K;try simp only[Act.put,zq]
 refine td 19 rfl (fun K hK=>?_);go_simp;go_at_call 116;refine hst.out.mono ?_;rintro e w' ⟨rfl,hE,hF⟩;obtain⟨j1,j2,j3⟩:=hKK.out _ hF;have y1:=j1.cell 0;have y2:=j2.cell 0;have y3:=j3.cell 0;have y4:=hE.blk.cell 4
 go_wp2_with fail;refine hK.out _ _ ?_ (fun zs=>?_)
 ·exact⟨y1,y2,y3,y4⟩
 clear hK K;try simp only[Act.put,zq]
 refine td 20 rfl (fun K hK=>?_);go_simp;refine hK.out _ _ ?_ (fun zs=>?_)
 ·exact zs
 clear hK K;try simp only[Act.put,zq]
 refine wZ (by kernel_rfl) ?_ _;go_wp2_with fail;go_ret;exact⟨rfl,hE,(iP.bD yM.out).trans hF⟩
theorem JH (h:aS w d b g sb sc fb fc D) (_hr: -1<=D.left/\D.left<=9223372036854775807) (i:Int) (t:ByteArray) (hi:0<=i/\(D.M.length:Int)<=i) (R:Int) (E:Dev) (HE:∀ w2 bd bi bt,aS w2 d b g sb sc fb fc D->ak w2 bd 33 #[.pointer (some ⟨d,0,none⟩)]->ak w2 bi 3 #[.int .i64 i]->ak w2 bt 9 #[.string t]->
   Calls Tryz.prog 116 #[.pointer (some ⟨d,0,none⟩),.int .i64 1,.func (.func 155) #[] #[.pointer (some ⟨bd,0,none⟩),.pointer (some ⟨bi,0,none⟩),.pointer (some ⟨bt,0,none⟩)]] w2 fun e w'=>e= .returned (.int .i64 R)/\aS w' d b g sb sc fb fc E/\iP w2 w' d g sb fb):
  Calls Tryz.prog 125 #[.pointer (some ⟨d,0,none⟩),.int .i64 i,.string t] w fun e w'=>e= .returned (.int .i64 R)/\aS w' d b g sb sc fb fc E/\iP w w' d g sb fb:=by
 have hs1:((w.alloc (.cells #[.pointer (some ⟨d,0,none⟩)] 33)).alloc (.cells #[.int .i64 i] 3)).heap.size=w.heap.size+1+1:=by simp
 have hs0:(w.alloc (.cells #[.pointer (some ⟨d,0,none⟩)] 33)).heap.size=w.heap.size+1:=by simp
 have q1:ak (((w.alloc (.cells #[.pointer (some ⟨d,0,none⟩)] 33)).alloc (.cells #[.int .i64 i] 3)).alloc (.cells #[.string t] 9)) w.heap.size 33 #[.pointer (some ⟨d,0,none⟩)]:=((ak.new w _ _).alloc _).alloc _;have q2:ak (((w.alloc (.cells #[.pointer (some ⟨d,0,none⟩)] 33)).alloc (.cells #[.int .i64 i] 3)).alloc (.cells #[.string t] 9)) (w.heap.size+1) 3 #[.int .i64 i]:=by rw[<-hs0];exact(ak.new _ _ _).alloc _
 have q3:ak (((w.alloc (.cells #[.pointer (some ⟨d,0,none⟩)] 33)).alloc (.cells #[.int .i64 i] 3)).alloc (.cells #[.string t] 9)) (w.heap.size+1+1) 9 #[.string t]:=by rw[<-hs1];exact ak.new _ _ _
 have hB:Below w.heap.size w (((w.alloc (.cells #[.pointer (some ⟨d,0,none⟩)] 33)).alloc (.cells #[.int .i64 i] 3)).alloc (.cells #[.string t] 9)):=(((bK _ w).alloc (aF _) _).alloc (by omega) _).alloc (by omega) _;have ls:=(h.lC.lt sb rfl).2;have lf:=(h.o7.lt fb rfl).2;have ld:=h.blk.lt;have lg:=h.mem.lt.2;have HH:=zh HE;have H:=zh h;clear HE h hs1 hs0;go_enter Tryz.func125,Tryz.ntmps125;go_wp2_with fail;generalize (((w.alloc (.cells #[.pointer (some ⟨d,0,none⟩)] 33)).alloc (.cells #[.int .i64 i] 3)).alloc (.cells #[.string t] 9))=W at q1 q2 q3 hB ⊢;have hD:aS W.drew d b g sb sc fb fc D:=H.out.below (hB.drew);have yM:=zh hB.drew;have hst:=zh (HH.out W.drew _ _ _ hD q1.drew q2.drew q3.drew);have hKK:Hid (∀ w',iP W.drew w' d g sb fb->ak w' w.heap.size 33 #[.pointer (some ⟨d,0,none⟩)]/\ak w' (w.heap.size+1) 3 #[.int .i64 i]/\ak w' (w.heap.size+1+1) 9 #[.string t]):=fun w' hF=>
  ⟨(hF.rest _ q1.lt (by omega) (by omega) (by omega) (by omega)).trans q1,(hF.rest _ q2.lt (by omega) (by omega) (by omega) (by omega)).trans q2,(hF.rest _ q3.lt (by omega) (by omega) (by omega) (by omega)).trans q3⟩
 have x1:=q1.cell 0;have x2:=q2.cell 0;have x3:=q3.cell 0;have x4:=hD.blk.cell 4;have HL:=zh (len_any hD.mem);clear q1 q2 q3 hB hD ls lf ld lg _hr;have d1:decide (0<=i)=true:=pW hi.1;have d2:decide (i<(D.M.length:Int))=false:=dF (by omega);clear hi;refine yD (S:=(fun w'=>w'.cell? ⟨w.heap.size,0,none⟩=some (.pointer (some ⟨d,0,none⟩))/\w'.cell? ⟨w.heap.size+1,0,none⟩=some (.int .i64 i)/\w'.cell? ⟨w.heap.size+1+1,0,none⟩=some (.string t)/\w'.cell? ⟨d,4,none⟩=some (.pointer (some ⟨b,0,none⟩)))) (by kernel_rfl) ⟨x1,x2,x3,x4⟩ (fun zs=>?_);refine' tk 0 rfl zs ?_;refine' tk 1 rfl zs ?_;refine' tk 2 rfl zs ?_;refine' tk 3 rfl zs ?_;refine' tk 4 rfl zs ?_;refine' tk 5 rfl zs ?_;refine' tk 6 rfl zs ?_;refine' tk 7 rfl zs ?_;refine' tk 8 rfl zs ?_;refine' tk 18 rfl zs ?_;refine td 9 rfl (fun K hK=>?_);go_simp;go_at_call 145;refine HL.out.mono ?_;rintro e w1 ⟨rfl,rfl⟩
 go_wp2_with fail;refine hK.out _ _ ?_ (fun zs=>?_)
 ·exact zs
 clear hK K;try simp only[Act.put,zq]
 refine' tk 10 rfl zs ?_;refine' tk 11 rfl zs ?_;refine' tk 12 rfl zs ?_;refine tu 13 rfl zs ?_;refine tu 14 rfl zs ?_;refine tu 15 rfl zs ?_;refine' tk 16 rfl zs ?_;refine td 17 rfl (fun K hK=>?_);go_simp;go_at_call 117;refine(mX _ false).mono ?_;rintro e w1 ⟨rfl,rfl⟩
 go_wp2_with fail;refine hK.out _ _ ?_ (fun zs=>?_)
 ·exact zs
 clear hK K;try simp only[Act.put,zq]
 refine td 19 rfl (fun K hK=>?_);go_simp;go_at_call 116;refine hst.out.mono ?_;rintro e w' ⟨rfl,hE,hF⟩;obtain⟨j1,j2,j3⟩:=hKK.out _ hF;have y1:=j1.cell 0;have y2:=j2.cell 0;have y3:=j3.cell 0;have y4:=hE.blk.cell 4
 go_wp2_with fail;refine hK.out _ _ ?_ (fun zs=>?_)
 ·exact⟨y1,y2,y3,y4⟩
 clear hK K;try simp only[Act.put,zq]
 refine td 20 rfl (fun K hK=>?_);go_simp;refine hK.out _ _ ?_ (fun zs=>?_)
 ·exact zs
 clear hK K;try simp only[Act.put,zq]
 refine wZ (by kernel_rfl) ?_ _;go_wp2_with fail;go_ret;exact⟨rfl,hE,(iP.bD yM.out).trans hF⟩
theorem TP (h:aS w d b g sb sc fb fc D) (hr: -1<=D.left/\D.left<=9223372036854775807) (i:Int) (t:ByteArray):
  Calls Tryz.prog 125 #[.pointer (some ⟨d,0,none⟩),.int .i64 i,.string t] w fun e w'=>e= .returned (.int .i64 (D.jq (chk (iV D.M i/\t.size=64)) fun D=> { D with M:=upd (fun s=>s.write t) D.M i }).1)/\
   aS w' d b g sb sc fb fc (D.jq (chk (iV D.M i/\t.size=64)) fun D=> { D with M:=upd (fun s=>s.write t) D.M i }).2/\iP w w' d g sb fb:=by
 by_cases hi:iV D.M i
 ·by_cases ht:t.size=64
  ·refine X9 h hr i t hi ht _ _ fun w2 bd bi bt h2 k1 k2 k3=>?_
   have:=qU h2 hr bd bi bt i t k1 k2 k3;rw[Wh (⟨hi,ht⟩:iV D.M i/\t.size=64)] at this ⊢;exact this
  ·refine Po h hr i t hi ht _ _ fun w2 bd bi bt h2 k1 k2 k3=>?_
   have:=qU h2 hr bd bi bt i t k1 k2 k3;rw[vI (show ¬ (iV D.M i/\t.size=64) from fun h=>ht h.2)] at this ⊢;exact this
 ·rcases Bh hi with h0 | h0
  ·refine Gu h hr i t h0 _ _ fun w2 bd bi bt h2 k1 k2 k3=>?_
   have:=qU h2 hr bd bi bt i t k1 k2 k3;rw[vI (show ¬ (iV D.M i/\t.size=64) from fun h=>hi h.1)] at this ⊢;exact this
  ·by_cases h1:i<0
   ·refine Gu h hr i t h1 _ _ fun w2 bd bi bt h2 k1 k2 k3=>?_
    have:=qU h2 hr bd bi bt i t k1 k2 k3;rw[vI (show ¬ (iV D.M i/\t.size=64) from fun h=>hi h.1)] at this ⊢;exact this
   ·refine JH h hr i t ⟨by omega,h0⟩ _ _ fun w2 bd bi bt h2 k1 k2 k3=>?_
    have:=qU h2 hr bd bi bt i t k1 k2 k3;rw[vI (show ¬ (iV D.M i/\t.size=64) from fun h=>hi h.1)] at this ⊢;exact this
end
section
variable {w:World} {d b g sb sc fb fc:Nat} {D:Dev}
theorem adF {e:TypeId} {xs:List Value} {n c r:Nat} {base size:Nat} (h:w.ownsRow base e size (.slice (some ⟨r,0,none⟩) n c) n xs):∃ cur,ak w r e cur:=by
 rcases h.2 with⟨h0,_⟩ | ⟨g',cap,cur,h0,_,hg,_⟩
 ·cases h0
 ·cases h0;exact⟨cur,hg⟩
theorem Nq (l:List ByteArray) (i:Nat) (t:ByteArray):strCells (l.set i t)=(strCells l).set i (.string t):=by simp[strCells,List.map_set]
theorem aS.Wi (h:aS w d b g sb sc fb fc D) (i:Nat) (t:ByteArray):aS (w.setCell ⟨sb,i,none⟩ (.string t)) d b g sb sc fb fc { D with slots:=D.slots.set i t }/\w.grownBy (w.setCell ⟨sb,i,none⟩ (.string t)) (some sb):=by
 obtain⟨cap,cur,hbb,hgb,_⟩:=h.mem.body;obtain⟨aqs,hfb⟩:=adF h.o7;obtain⟨k1,k2⟩:=h.lC.stored i (.string t);refine⟨⟨?_,h.mem.grown k2 (fun e=>aA h.lC hbb (by decide) (by rw[e];rfl)) (fun e=>aA h.lC hgb (by decide) (by rw[e];rfl)),?_,?_⟩,k2⟩
 ·have:=h.blk.grown k2 (fun e=>aA h.lC h.blk (by decide) (by rw[e];rfl))
  simpa using this
 ·dsimp only;rw[List.length_set,Nq];exact k1
 ·exact h.o7.kept k2 (.inr (fun e=>aA h.lC hfb (by decide) (by have e':some fb=some sb:=e;rw[e'];rfl)))
theorem JI (w:World) (r:Option Nat):w.grownBy w.drew r:=grown_drewN w 1 r
theorem TG (h:aS w d b g sb sc fb fc D) (bd bi bt:Nat) (i:Nat) (hi:i<D.slots.length) (t:ByteArray) (k1:ak w bd 33 #[.pointer (some ⟨d,0,none⟩)]) (k2:ak w bi 3 #[.int .i64 i]) (k3:ak w bt 9 #[.string t]):
  Calls Tryz.prog 118 #[.pointer (some ⟨bt,0,none⟩),.pointer (some ⟨bd,0,none⟩),.pointer (some ⟨bi,0,none⟩)] w fun e w'=>e= .returned (.tuple #[])/\
   aS w' d b g sb sc fb fc { D with slots:=D.slots.set i t }/\w.grownBy w' (some sb):=by
 have hD:=h.below (bK _ w).drew;have hset:=hD.Wi i t;have c0:=hD.blk.cell 0;have h1:=k1.drew.cell 0;have h2:=k2.drew.cell 0;have h3:=k3.drew.cell 0;obtain⟨o,ho⟩:∃ o,D.slots[i]? =some o:=⟨_,jB hi⟩;have hc:w.drew.cell? ⟨sb,i,none⟩=some (.string o):=by
  rw[hD.lC.cellAt i (by omega)];unfold strCells;rw[sD,ho];rfl
 have hf:=hD.lC.frozenAt i;have hi0:(0:Int)<=(i:Int):=by omega
 have hi1:(i:Int)<D.slots.length:=by omega
 have HS:=zh hset;clear hset hD h k1 k2 k3 ho;go_enter Tryz.func118,Tryz.ntmps118;go_wp2_with fail;refine wp_region_still_tail 8 (by kernel_rfl) (by kernel_rfl) ?_;change wpStill _ _ w.drew (fun a'=>wpList _ _ _ _ a' w.drew) _ _;have HG:=zh (JI w (some sb));generalize w.drew=W2 at c0 h1 h2 h3 hc hf HS HG ⊢;simp only[List.take_succ_cons,List.take_zero,List.drop_succ_cons,List.drop_zero]
 repeat still_step
 refine wpStill_nil ?_;change wpList _ _ _ _ _ W2;go_wp2_with fail;go_end0;exact⟨by simp,HS.out.1,bG HG.out HS.out.2⟩
end
section
variable {w:World} {d b g sb sc fb fc:Nat} {D:Dev}
theorem X4 (h:aS w d b g sb sc fb fc D) (i:Int) (t:ByteArray) (hi:FK D.slots i) (ht:t.size=32) (R:Int) (E:Dev) (hlen:E.slots.length=D.slots.length) (HE:∀ w2 bd bi bt,aS w2 d b g sb sc fb fc D->ak w2 bd 33 #[.pointer (some ⟨d,0,none⟩)]->ak w2 bi 3 #[.int .i64 i]->ak w2 bt 9 #[.string t]->
   Calls Tryz.prog 116 #[.pointer (some ⟨d,0,none⟩),.int .i64 0,.func (.func 118) #[] #[.pointer (some ⟨bt,0,none⟩),.pointer (some ⟨bd,0,none⟩),.pointer (some ⟨bi,0,none⟩)]] w2 fun e w'=>e= .returned (.int .i64 R)/\aS w' d b g sb sc fb fc E/\iP w2 w' d g sb fb):
  Calls Tryz.prog 83 #[.pointer (some ⟨d,0,none⟩),.int .i64 i,.string t] w fun e w'=>e= .returned (.int .i64 R)/\aS w' d b g sb sc fb fc E/\iP w w' d g sb fb:=by
 have hs1:((w.alloc (.cells #[.pointer (some ⟨d,0,none⟩)] 33)).alloc (.cells #[.int .i64 i] 3)).heap.size=w.heap.size+1+1:=by simp
 have hs0:(w.alloc (.cells #[.pointer (some ⟨d,0,none⟩)] 33)).heap.size=w.heap.size+1:=by simp
 have q1:ak (((w.alloc (.cells #[.pointer (some ⟨d,0,none⟩)] 33)).alloc (.cells #[.int .i64 i] 3)).alloc (.cells #[.string t] 9)) w.heap.size 33 #[.pointer (some ⟨d,0,none⟩)]:=((ak.new w _ _).alloc _).alloc _;have q2:ak (((w.alloc (.cells #[.pointer (some ⟨d,0,none⟩)] 33)).alloc (.cells #[.int .i64 i] 3)).alloc (.cells #[.string t] 9)) (w.heap.size+1) 3 #[.int .i64 i]:=by rw[<-hs0];exact(ak.new _ _ _).alloc _
 have q3:ak (((w.alloc (.cells #[.pointer (some ⟨d,0,none⟩)] 33)).alloc (.cells #[.int .i64 i] 3)).alloc (.cells #[.string t] 9)) (w.heap.size+1+1) 9 #[.string t]:=by rw[<-hs1];exact ak.new _ _ _
 have hB:Below w.heap.size w (((w.alloc (.cells #[.pointer (some ⟨d,0,none⟩)] 33)).alloc (.cells #[.int .i64 i] 3)).alloc (.cells #[.string t] 9)):=(((bK _ w).alloc (aF _) _).alloc (by omega) _).alloc (by omega) _;have ls:=(h.lC.lt sb rfl).2;have lf:=(h.o7.lt fb rfl).2;have ld:=h.blk.lt;have lg:=h.mem.lt.2;have HH:=zh HE;have H:=zh h;clear HE h hs1 hs0;go_enter Tryz.func83,Tryz.ntmps83;go_wp2_with fail;generalize (((w.alloc (.cells #[.pointer (some ⟨d,0,none⟩)] 33)).alloc (.cells #[.int .i64 i] 3)).alloc (.cells #[.string t] 9))=W at q1 q2 q3 hB ⊢;have hD:aS W.drew d b g sb sc fb fc D:=H.out.below (hB.drew);have yM:=zh hB.drew;have hst:=zh (HH.out W.drew _ _ _ hD q1.drew q2.drew q3.drew);have hKK:Hid (∀ w',iP W.drew w' d g sb fb->ak w' w.heap.size 33 #[.pointer (some ⟨d,0,none⟩)]/\ak w' (w.heap.size+1) 3 #[.int .i64 i]/\ak w' (w.heap.size+1+1) 9 #[.string t]):=fun w' hF=>
  ⟨(hF.rest _ q1.lt (by omega) (by omega) (by omega) (by omega)).trans q1,(hF.rest _ q2.lt (by omega) (by omega) (by omega) (by omega)).trans q2,(hF.rest _ q3.lt (by omega) (by omega) (by omega) (by omega)).trans q3⟩
 have x1:=q1.cell 0;have x2:=q2.cell 0;have x3:=q3.cell 0;have x4:=hD.blk.cell 0;clear q1 q2 q3 hB hD ls lf ld lg;have d1:decide (0<=i)=true:=pW hi.1;have d2:decide (i<(D.slots.length:Int))=true:=pW hi.2;have d3:((t.size:Int)==32)=true:=by rw[ht];rfl
 clear hi ht;refine yD (S:=(fun w'=>w'.cell? ⟨w.heap.size,0,none⟩=some (.pointer (some ⟨d,0,none⟩))/\w'.cell? ⟨w.heap.size+1,0,none⟩=some (.int .i64 i)/\w'.cell? ⟨w.heap.size+1+1,0,none⟩=some (.string t)/\w'.cell? ⟨d,0,none⟩=some (.slice (some ⟨sb,0,none⟩) D.slots.length sc))) (by kernel_rfl) ⟨x1,x2,x3,x4⟩ (fun zs=>?_);refine' tk 0 rfl zs ?_;refine' tk 1 rfl zs ?_;refine' tk 2 rfl zs ?_;refine' tk 3 rfl zs ?_;refine' tk 4 rfl zs ?_;refine' tk 5 rfl zs ?_;refine' tk 6 rfl zs ?_;refine' tk 7 rfl zs ?_;refine' tk 8 rfl zs ?_;refine' tk 9 rfl zs ?_;refine' tk 10 rfl zs ?_;refine' tk 11 rfl zs ?_;refine' tk 12 rfl zs ?_;refine' tk 13 rfl zs ?_;refine' tk 14 rfl zs ?_;refine' tk 15 rfl zs ?_;refine' tk 16 rfl zs ?_;refine' tk 17 rfl zs ?_;refine' tk 19 rfl zs ?_;refine td 18 rfl (fun K hK=>?_);go_simp;go_at_call 117;refine(mX _ true).mono ?_;rintro e w1 ⟨rfl,rfl⟩
 go_wp2_with fail;refine hK.out _ _ ?_ (fun zs=>?_)
 ·exact zs
 clear hK K;try simp only[Act.put,zq]
 refine td 20 rfl (fun K hK=>?_);go_simp;go_at_call 116;refine hst.out.mono ?_;rintro e w' ⟨rfl,hE,hF⟩;obtain⟨j1,j2,j3⟩:=hKK.out _ hF;have y1:=j1.cell 0;have y2:=j2.cell 0;have y3:=j3.cell 0;have y4:=hE.blk.cell 0;rw[hlen] at y4
 go_wp2_with fail;refine hK.out _ _ ?_ (fun zs=>?_)
 ·exact⟨y1,y2,y3,y4⟩
 clear hK K;try simp only[Act.put,zq]
 refine td 21 rfl (fun K hK=>?_);go_simp;refine hK.out _ _ ?_ (fun zs=>?_)
 ·exact zs
 clear hK K;try simp only[Act.put,zq]
 refine wZ (by kernel_rfl) ?_ _;go_wp2_with fail;go_ret;exact⟨rfl,hE,(iP.bD yM.out).trans hF⟩
theorem Ph (h:aS w d b g sb sc fb fc D) (i:Int) (t:ByteArray) (hi:FK D.slots i) (ht:t.size≠32) (R:Int) (E:Dev) (hlen:E.slots.length=D.slots.length) (HE:∀ w2 bd bi bt,aS w2 d b g sb sc fb fc D->ak w2 bd 33 #[.pointer (some ⟨d,0,none⟩)]->ak w2 bi 3 #[.int .i64 i]->ak w2 bt 9 #[.string t]->
   Calls Tryz.prog 116 #[.pointer (some ⟨d,0,none⟩),.int .i64 1,.func (.func 118) #[] #[.pointer (some ⟨bt,0,none⟩),.pointer (some ⟨bd,0,none⟩),.pointer (some ⟨bi,0,none⟩)]] w2 fun e w'=>e= .returned (.int .i64 R)/\aS w' d b g sb sc fb fc E/\iP w2 w' d g sb fb):
  Calls Tryz.prog 83 #[.pointer (some ⟨d,0,none⟩),.int .i64 i,.string t] w fun e w'=>e= .returned (.int .i64 R)/\aS w' d b g sb sc fb fc E/\iP w w' d g sb fb:=by
 have hs1:((w.alloc (.cells #[.pointer (some ⟨d,0,none⟩)] 33)).alloc (.cells #[.int .i64 i] 3)).heap.size=w.heap.size+1+1:=by simp
 have hs0:(w.alloc (.cells #[.pointer (some ⟨d,0,none⟩)] 33)).heap.size=w.heap.size+1:=by simp
 have q1:ak (((w.alloc (.cells #[.pointer (some ⟨d,0,none⟩)] 33)).alloc (.cells #[.int .i64 i] 3)).alloc (.cells #[.string t] 9)) w.heap.size 33 #[.pointer (some ⟨d,0,none⟩)]:=((ak.new w _ _).alloc _).alloc _;have q2:ak (((w.alloc (.cells #[.pointer (some ⟨d,0,none⟩)] 33)).alloc (.cells #[.int .i64 i] 3)).alloc (.cells #[.string t] 9)) (w.heap.size+1) 3 #[.int .i64 i]:=by rw[<-hs0];exact(ak.new _ _ _).alloc _
 have q3:ak (((w.alloc (.cells #[.pointer (some ⟨d,0,none⟩)] 33)).alloc (.cells #[.int .i64 i] 3)).alloc (.cells #[.string t] 9)) (w.heap.size+1+1) 9 #[.string t]:=by rw[<-hs1];exact ak.new _ _ _
 have hB:Below w.heap.size w (((w.alloc (.cells #[.pointer (some ⟨d,0,none⟩)] 33)).alloc (.cells #[.int .i64 i] 3)).alloc (.cells #[.string t] 9)):=(((bK _ w).alloc (aF _) _).alloc (by omega) _).alloc (by omega) _;have ls:=(h.lC.lt sb rfl).2;have lf:=(h.o7.lt fb rfl).2;have ld:=h.blk.lt;have lg:=h.mem.lt.2;have HH:=zh HE;have H:=zh h;clear HE h hs1 hs0;go_enter Tryz.func83,Tryz.ntmps83;go_wp2_with fail;generalize (((w.alloc (.cells #[.pointer (some ⟨d,0,none⟩)] 33)).alloc (.cells #[.int .i64 i] 3)).alloc (.cells #[.string t] 9))=W at q1 q2 q3 hB ⊢;have hD:aS W.drew d b g sb sc fb fc D:=H.out.below (hB.drew);have yM:=zh hB.drew;have hst:=zh (HH.out W.drew _ _ _ hD q1.drew q2.drew q3.drew);have hKK:Hid (∀ w',iP W.drew w' d g sb fb->ak w' w.heap.size 33 #[.pointer (some ⟨d,0,none⟩)]/\ak w' (w.heap.size+1) 3 #[.int .i64 i]/\ak w' (w.heap.size+1+1) 9 #[.string t]):=fun w' hF=>
  ⟨(hF.rest _ q1.lt (by omega) (by omega) (by omega) (by omega)).trans q1,(hF.rest _ q2.lt (by omega) (by omega) (by omega) (by omega)).trans q2,(hF.rest _ q3.lt (by omega) (by omega) (by omega) (by omega)).trans q3⟩
 have x1:=q1.cell 0;have x2:=q2.cell 0;have x3:=q3.cell 0;have x4:=hD.blk.cell 0;clear q1 q2 q3 hB hD ls lf ld lg;have d1:decide (0<=i)=true:=pW hi.1;have d2:decide (i<(D.slots.length:Int))=true:=pW hi.2;have d3:((t.size:Int)==32)=false:=lM (by omega);clear hi ht;refine yD (S:=(fun w'=>w'.cell? ⟨w.heap.size,0,none⟩=some (.pointer (some ⟨d,0,none⟩))/\w'.cell? ⟨w.heap.size+1,0,none⟩=some (.int .i64 i)/\w'.cell? ⟨w.heap.size+1+1,0,none⟩=some (.string t)/\w'.cell? ⟨d,0,none⟩=some (.slice (some ⟨sb,0,none⟩) D.slots.length sc))) (by kernel_rfl) ⟨x1,x2,x3,x4⟩ (fun zs=>?_);refine' tk 0 rfl zs ?_;refine' tk 1 rfl zs ?_;refine' tk 2 rfl zs ?_;refine' tk 3 rfl zs ?_;refine' tk 4 rfl zs ?_;refine' tk 5 rfl zs ?_;refine' tk 6 rfl zs ?_;refine' tk 7 rfl zs ?_;refine' tk 8 rfl zs ?_;refine' tk 9 rfl zs ?_;refine' tk 10 rfl zs ?_;refine' tk 11 rfl zs ?_;refine' tk 12 rfl zs ?_;refine' tk 13 rfl zs ?_;refine' tk 14 rfl zs ?_;refine' tk 15 rfl zs ?_;refine' tk 16 rfl zs ?_;refine' tk 17 rfl zs ?_;refine' tk 19 rfl zs ?_;refine td 18 rfl (fun K hK=>?_);go_simp;go_at_call 117;refine(mX _ false).mono ?_;rintro e w1 ⟨rfl,rfl⟩
 go_wp2_with fail;refine hK.out _ _ ?_ (fun zs=>?_)
 ·exact zs
 clear hK K;try simp only[Act.put,zq]
 refine td 20 rfl (fun K hK=>?_);go_simp;go_at_call 116;refine hst.out.mono ?_;rintro e w' ⟨rfl,hE,hF⟩;obtain⟨j1,j2,j3⟩:=hKK.out _ hF;have y1:=j1.cell 0;have y2:=j2.cell 0;have y3:=j3.cell 0;have y4:=hE.blk.cell 0;rw[hlen] at y4
 go_wp2_with fail;refine hK.out _ _ ?_ (fun zs=>?_)
 ·exact⟨y1,y2,y3,y4⟩
 clear hK K;try simp only[Act.put,zq]
 refine td 21 rfl (fun K hK=>?_);go_simp;refine hK.out _ _ ?_ (fun zs=>?_)
 ·exact zs
 clear hK K;try simp only[Act.put,zq]
 refine wZ (by kernel_rfl) ?_ _;go_wp2_with fail;go_ret;exact⟨rfl,hE,(iP.bD yM.out).trans hF⟩
theorem TJ (h:aS w d b g sb sc fb fc D) (i:Int) (t:ByteArray) (hi:i<0) (R:Int) (E:Dev) (hlen:E.slots.length=D.slots.length) (HE:∀ w2 bd bi bt,aS w2 d b g sb sc fb fc D->ak w2 bd 33 #[.pointer (some ⟨d,0,none⟩)]->ak w2 bi 3 #[.int .i64 i]->ak w2 bt 9 #[.string t]->
   Calls Tryz.prog 116 #[.pointer (some ⟨d,0,none⟩),.int .i64 1,.func (.func 118) #[] #[.pointer (some ⟨bt,0,none⟩),.pointer (some ⟨bd,0,none⟩),.pointer (some ⟨bi,0,none⟩)]] w2 fun e w'=>e= .returned (.int .i64 R)/\aS w' d b g sb sc fb fc E/\iP w2 w' d g sb fb):
  Calls Tryz.prog 83 #[.pointer (some ⟨d,0,none⟩),.int .i64 i,.string t] w fun e w'=>e= .returned (.int .i64 R)/\aS w' d b g sb sc fb fc E/\iP w w' d g sb fb:=by
 have hs1:((w.alloc (.cells #[.pointer (some ⟨d,0,none⟩)] 33)).alloc (.cells #[.int .i64 i] 3)).heap.size=w.heap.size+1+1:=by simp
 have hs0:(w.alloc (.cells #[.pointer (some ⟨d,0,none⟩)] 33)).heap.size=w.heap.size+1:=by simp
 have q1:ak (((w.alloc (.cells #[.pointer (some ⟨d,0,none⟩)] 33)).alloc (.cells #[.int .i64 i] 3)).alloc (.cells #[.string t] 9)) w.heap.size 33 #[.pointer (some ⟨d,0,none⟩)]:=((ak.new w _ _).alloc _).alloc _;have q2:ak (((w.alloc (.cells #[.pointer (some ⟨d,0,none⟩)] 33)).alloc (.cells #[.int .i64 i] 3)).alloc (.cells #[.string t] 9)) (w.heap.size+1) 3 #[.int .i64 i]:=by rw[<-hs0];exact(ak.new _ _ _).alloc _
 have q3:ak (((w.alloc (.cells #[.pointer (some ⟨d,0,none⟩)] 33)).alloc (.cells #[.int .i64 i] 3)).alloc (.cells #[.string t] 9)) (w.heap.size+1+1) 9 #[.string t]:=by rw[<-hs1];exact ak.new _ _ _
 have hB:Below w.heap.size w (((w.alloc (.cells #[.pointer (some ⟨d,0,none⟩)] 33)).alloc (.cells #[.int .i64 i] 3)).alloc (.cells #[.string t] 9)):=(((bK _ w).alloc (aF _) _).alloc (by omega) _).alloc (by omega) _;have ls:=(h.lC.lt sb rfl).2;have lf:=(h.o7.lt fb rfl).2;have ld:=h.blk.lt;have lg:=h.mem.lt.2;have HH:=zh HE;have H:=zh h;clear HE h hs1 hs0;go_enter Tryz.func83,Tryz.ntmps83;go_wp2_with fail;generalize (((w.alloc (.cells #[.pointer (some ⟨d,0,none⟩)] 33)).alloc (.cells #[.int .i64 i] 3)).alloc (.cells #[.string t] 9))=W at q1 q2 q3 hB ⊢;have hD:aS W.drew d b g sb sc fb fc D:=H.out.below (hB.drew);have yM:=zh hB.drew;have hst:=zh (HH.out W.drew _ _ _ hD q1.drew q2.drew q3.drew);have hKK:Hid (∀ w',iP W.drew w' d g sb fb->ak w' w.heap.size 33 #[.pointer (some ⟨d,0,none⟩)]/\ak w' (w.heap.size+1) 3 #[.int .i64 i]/\ak w' (w.heap.size+1+1) 9 #[.string t]):=fun w' hF=>
  ⟨(hF.rest _ q1.lt (by omega) (by omega) (by omega) (by omega)).trans q1,(hF.rest _ q2.lt (by omega) (by omega) (by omega) (by omega)).trans q2,(hF.rest _ q3.lt (by omega) (by omega) (by omega) (by omega)).trans q3⟩
 have x1:=q1.cell 0;have x2:=q2.cell 0;have x3:=q3.cell 0;have x4:=hD.blk.cell 0;clear q1 q2 q3 hB hD ls lf ld lg;have d1:decide (0<=i)=false:=dF (by omega);clear hi;refine yD (S:=(fun w'=>w'.cell? ⟨w.heap.size,0,none⟩=some (.pointer (some ⟨d,0,none⟩))/\w'.cell? ⟨w.heap.size+1,0,none⟩=some (.int .i64 i)/\w'.cell? ⟨w.heap.size+1+1,0,none⟩=some (.string t)/\w'.cell? ⟨d,0,none⟩=some (.slice (some ⟨sb,0,none⟩) D.slots.length sc))) (by kernel_rfl) ⟨x1,x2,x3,x4⟩ (fun zs=>?_);refine' tk 0 rfl zs ?_;refine' tk 1 rfl zs ?_;refine' tk 2 rfl zs ?_;refine' tk 3 rfl zs ?_;refine tu 4 rfl zs ?_;refine tu 5 rfl zs ?_;refine tu 6 rfl zs ?_;refine tu 7 rfl zs ?_;refine tu 8 rfl zs ?_;refine tu 9 rfl zs ?_;refine tu 10 rfl zs ?_;refine tu 11 rfl zs ?_;refine' tk 12 rfl zs ?_;refine' tk 13 rfl zs ?_;refine tu 14 rfl zs ?_;refine tu 15 rfl zs ?_;refine tu 16 rfl zs ?_;refine' tk 17 rfl zs ?_;refine' tk 19 rfl zs ?_;refine td 18 rfl (fun K hK=>?_);go_simp;go_at_call 117;refine(mX _ false).mono ?_;rintro e w1 ⟨rfl,rfl⟩
 go_wp2_with fail;refine hK.out _ _ ?_ (fun zs=>?_)
 ·exact zs
 clear hK K;try simp only[Act.put,zq]
 refine td 20 rfl (fun K hK=>?_);go_simp;go_at_call 116;refine hst.out.mono ?_;rintro e w' ⟨rfl,hE,hF⟩;obtain⟨j1,j2,j3⟩:=hKK.out _ hF;have y1:=j1.cell 0;have y2:=j2.cell 0;have y3:=j3.cell 0;have y4:=hE.blk.cell 0;rw[hlen] at y4
 go_wp2_with fail;refine hK.out _ _ ?_ (fun zs=>?_)
 ·exact⟨y1,y2,y3,y4⟩
 clear hK K;try simp only[Act.put,zq]
 refine td 21 rfl (fun K hK=>?_);go_simp;refine hK.out _ _ ?_ (fun zs=>?_)
 ·exact zs
 clear hK K;try simp only[Act.put,zq]
 refine wZ (by kernel_rfl) ?_ _;go_wp2_with fail;go_ret;exact⟨rfl,hE,(iP.bD yM.out).trans hF⟩
theorem JG (h:aS w d b g sb sc fb fc D) (i:Int) (t:ByteArray) (hi:0<=i/\(D.slots.length:Int)<=i) (R:Int) (E:Dev) (hlen:E.slots.length=D.slots.length) (HE:∀ w2 bd bi bt,aS w2 d b g sb sc fb fc D->ak w2 bd 33 #[.pointer (some ⟨d,0,none⟩)]->ak w2 bi 3 #[.int .i64 i]->ak w2 bt 9 #[.string t]->
   Calls Tryz.prog 116 #[.pointer (some ⟨d,0,none⟩),.int .i64 1,.func (.func 118) #[] #[.pointer (some ⟨bt,0,none⟩),.pointer (some ⟨bd,0,none⟩),.pointer (some ⟨bi,0,none⟩)]] w2 fun e w'=>e= .returned (.int .i64 R)/\aS w' d b g sb sc fb fc E/\iP w2 w' d g sb fb):
  Calls Tryz.prog 83 #[.pointer (some ⟨d,0,none⟩),.int .i64 i,.string t] w fun e w'=>e= .returned (.int .i64 R)/\aS w' d b g sb sc fb fc E/\iP w w' d g sb fb:=by
 have hs1:((w.alloc (.cells #[.pointer (some ⟨d,0,none⟩)] 33)).alloc (.cells #[.int .i64 i] 3)).heap.size=w.heap.size+1+1:=by simp
 have hs0:(w.alloc (.cells #[.pointer (some ⟨d,0,none⟩)] 33)).heap.size=w.heap.size+1:=by simp
 have q1:ak (((w.alloc (.cells #[.pointer (some ⟨d,0,none⟩)] 33)).alloc (.cells #[.int .i64 i] 3)).alloc (.cells #[.string t] 9)) w.heap.size 33 #[.pointer (some ⟨d,0,none⟩)]:=((ak.new w _ _).alloc _).alloc _;have q2:ak (((w.alloc (.cells #[.pointer (some ⟨d,0,none⟩)] 33)).alloc (.cells #[.int .i64 i] 3)).alloc (.cells #[.string t] 9)) (w.heap.size+1) 3 #[.int .i64 i]:=by rw[<-hs0];exact(ak.new _ _ _).alloc _
 have q3:ak (((w.alloc (.cells #[.pointer (some ⟨d,0,none⟩)] 33)).alloc (.cells #[.int .i64 i] 3)).alloc (.cells #[.string t] 9)) (w.heap.size+1+1) 9 #[.string t]:=by rw[<-hs1];exact ak.new _ _ _
 have hB:Below w.heap.size w (((w.alloc (.cells #[.pointer (some ⟨d,0,none⟩)] 33)).alloc (.cells #[.int .i64 i] 3)).alloc (.cells #[.string t] 9)):=(((bK _ w).alloc (aF _) _).alloc (by omega) _).alloc (by omega) _;have ls:=(h.lC.lt sb rfl).2;have lf:=(h.o7.lt fb rfl).2;have ld:=h.blk.lt;have lg:=h.mem.lt.2;have HH:=zh HE;have H:=zh h;clear HE h hs1 hs0;go_enter Tryz.func83,Tryz.ntmps83;go_wp2_with fail;generalize (((w.alloc (.cells #[.pointer (some ⟨d,0,none⟩)] 33)).alloc (.cells #[.int .i64 i] 3)).alloc (.cells #[.string t] 9))=W at q1 q2 q3 hB ⊢;have hD:aS W.drew d b g sb sc fb fc D:=H.out.below (hB.drew);have yM:=zh hB.drew;have hst:=zh (HH.out W.drew _ _ _ hD q1.drew q2.drew q3.drew);have hKK:Hid (∀ w',iP W.drew w' d g sb fb->ak w' w.heap.size 33 #[.pointer (some ⟨d,0,none⟩)]/\ak w' (w.heap.size+1) 3 #[.int .i64 i]/\ak w' (w.heap.size+1+1) 9 #[.string t]):=fun w' hF=>
  ⟨(hF.rest _ q1.lt (by omega) (by omega) (by omega) (by omega)).trans q1,(hF.rest _ q2.lt (by omega) (by omega) (by omega) (by omega)).trans q2,(hF.rest _ q3.lt (by omega) (by omega) (by omega) (by omega)).trans q3⟩
 have x1:=q1.cell 0;have x2:=q2.cell 0;have x3:=q3.cell 0;have x4:=hD.blk.cell 0;clear q1 q2 q3 hB hD ls lf ld lg;have d1:decide (0<=i)=true:=pW hi.1;have d2:decide (i<(D.slots.length:Int))=false:=dF (by omega);clear hi;refine yD (S:=(fun w'=>w'.cell? ⟨w.heap.size,0,none⟩=some (.pointer (some ⟨d,0,none⟩))/\w'.cell? ⟨w.heap.size+1,0,none⟩=some (.int .i64 i)/\w'.cell? ⟨w.heap.size+1+1,0,none⟩=some (.string t)/\w'.cell? ⟨d,0,none⟩=some (.slice (some ⟨sb,0,none⟩) D.slots.length sc))) (by kernel_rfl) ⟨x1,x2,x3,x4⟩ (fun zs=>?_);refine' tk 0 rfl zs ?_;refine' tk 1 rfl zs ?_;refine' tk 2 rfl zs ?_;refine' tk 3 rfl zs ?_;refine' tk 4 rfl zs ?_;refine' tk 5 rfl zs ?_;refine' tk 6 rfl zs ?_;refine' tk 7 rfl zs ?_;refine' tk 8 rfl zs ?_;refine' tk 9 rfl zs ?_;refine' tk 10 rfl zs ?_;refine' tk 11 rfl zs ?_;refine' tk 12 rfl zs ?_;refine' tk 13 rfl zs ?_;refine tu 14 rfl zs ?_;refine tu 15 rfl zs ?_;refine tu 16 rfl zs ?_;refine' tk 17 rfl zs ?_;refine' tk 19 rfl zs ?_;refine td 18 rfl (fun K hK=>?_);go_simp;go_at_call 117;refine(mX _ false).mono ?_;rintro e w1 ⟨rfl,rfl⟩
 go_wp2_with fail;refine hK.out _ _ ?_ (fun zs=>?_)
 ·exact zs
 clear hK K;try simp only[Act.put,zq]
 refine td 20 rfl (fun K hK=>?_);go_simp;go_at_call 116;refine hst.out.mono ?_;rintro e w' ⟨rfl,hE,hF⟩;obtain⟨j1,j2,j3⟩:=hKK.out _ hF;have y1:=j1.cell 0;have y2:=j2.cell 0;have y3:=j3.cell 0;have y4:=hE.blk.cell 0;rw[hlen] at y4
 go_wp2_with fail;refine hK.out _ _ ?_ (fun zs=>?_)
 ·exact⟨y1,y2,y3,y4⟩
 clear hK K;try simp only[Act.put,zq]
 refine td 21 rfl (fun K hK=>?_);go_simp;refine hK.out _ _ ?_ (fun zs=>?_)
 ·exact zs
 clear hK K;try simp only[Act.put,zq]
 refine wZ (by kernel_rfl) ?_ _;go_wp2_with fail;go_ret;exact⟨rfl,hE,(iP.bD yM.out).trans hF⟩
end
section
variable {w:World} {d b g sb sc fb fc:Nat} {D:Dev}
end
section
variable {w:World} {d b g sb sc fb fc:Nat} {D:Dev}
theorem O9 (c:Int) (f:Dev->Dev) (hf:∀ D,(f D).slots.length=D.slots.length):(D.jq c f).2.slots.length=D.slots.length:=by
 unfold Dev.jq;split
 ·rfl
 ·split
  ·rfl
  ·split
   ·rfl
   ·exact hf _
theorem vH (h:aS w d b g sb sc fb fc D) (hr: -1<=D.left/\D.left<=9223372036854775807) (bd bi bt:Nat) (i:Int) (t:ByteArray) (k1:ak w bd 33 #[.pointer (some ⟨d,0,none⟩)]) (k2:ak w bi 3 #[.int .i64 i]) (k3:ak w bt 9 #[.string t]):
  Calls Tryz.prog 116 #[.pointer (some ⟨d,0,none⟩),.int .i64 (chk (FK D.slots i/\t.size=32)),.func (.func 118) #[] #[.pointer (some ⟨bt,0,none⟩),.pointer (some ⟨bd,0,none⟩),.pointer (some ⟨bi,0,none⟩)]] w fun e w'=>e= .returned (.int .i64 (D.jq (chk (FK D.slots i/\t.size=32)) fun D=> { D with slots:=D.slots.set i.toNat t }).1)/\
   aS w' d b g sb sc fb fc (D.jq (chk (FK D.slots i/\t.size=32)) fun D=> { D with slots:=D.slots.set i.toNat t }).2/\iP w w' d g sb fb:=by
 refine Pg h hr _ _ _ aaq _ (fun hc w2 h2 hg=>?_);have hp:=aar hc;obtain⟨n,rfl⟩:=Int.eq_ofNat_of_zero_le hp.1.1;have n1:=k1.gY h.blk (by decide);have n2:=k2.gY h.blk (by decide);have n3:=k3.gY h.blk (by decide);have hn:n<D.slots.length:=by have:=hp.1.2;omega
 refine(TG h2 bd bi bt n hn t (k1.grown hg (fun e=>n1 (by cases e;rfl))) (k2.grown hg (fun e=>n2 (by cases e;rfl))) (k3.grown hg (fun e=>n3 (by cases e;rfl)))).mono ?_;rintro e w' ⟨rfl,h3,h4⟩;exact⟨rfl,h3,iP.lD h4 (.inr (.inr (.inl rfl)))⟩
theorem V9 {α:Type} {l:List α} {i:Int} (h:¬ FK l i):i<0\/(0<=i/\(l.length:Int)<=i):=by
 unfold FK at h;omega
theorem TI (h:aS w d b g sb sc fb fc D) (hr: -1<=D.left/\D.left<=9223372036854775807) (i:Int) (t:ByteArray):
  Calls Tryz.prog 83 #[.pointer (some ⟨d,0,none⟩),.int .i64 i,.string t] w fun e w'=>e= .returned (.int .i64 (D.jq (chk (FK D.slots i/\t.size=32)) fun D=> { D with slots:=D.slots.set i.toNat t }).1)/\
   aS w' d b g sb sc fb fc (D.jq (chk (FK D.slots i/\t.size=32)) fun D=> { D with slots:=D.slots.set i.toNat t }).2/\iP w w' d g sb fb:=by
 have hlen:=O9 (D:=D) (chk (FK D.slots i/\t.size=32)) (fun D=> { D with slots:=D.slots.set i.toNat t }) (fun D=>by simp);by_cases hi:FK D.slots i
 ·by_cases ht:t.size=32
  ·refine X4 h i t hi ht _ _ hlen fun w2 bd bi bt h2 k1 k2 k3=>?_
   have:=vH h2 hr bd bi bt i t k1 k2 k3;rw[Wh (⟨hi,ht⟩:FK D.slots i/\t.size=32)] at this ⊢;exact this
  ·refine Ph h i t hi ht _ _ hlen fun w2 bd bi bt h2 k1 k2 k3=>?_
   have:=vH h2 hr bd bi bt i t k1 k2 k3;rw[vI (show ¬ (FK D.slots i/\t.size=32) from fun h=>ht h.2)] at this ⊢;exact this
 ·rcases V9 hi with h0 | h0
  ·refine TJ h i t h0 _ _ hlen fun w2 bd bi bt h2 k1 k2 k3=>?_
   have:=vH h2 hr bd bi bt i t k1 k2 k3;rw[vI (show ¬ (FK D.slots i/\t.size=32) from fun h=>hi h.1)] at this ⊢;exact this
  ·refine JG h i t h0 _ _ hlen fun w2 bd bi bt h2 k1 k2 k3=>?_
   have:=vH h2 hr bd bi bt i t k1 k2 k3;rw[vI (show ¬ (FK D.slots i/\t.size=32) from fun h=>hi h.1)] at this ⊢;exact this
end
section
variable {w:World} {d b g sb sc fb fc:Nat} {D:Dev}
theorem X5 (h:aS w d b g sb sc fb fc D) (i:Int):
  Calls Tryz.prog 104 #[.pointer (some ⟨d,0,none⟩),.int .i64 i] w fun e w'=>e= .returned (.tuple #[.string (if D.down then ⟨#[]⟩ else if iV D.M i then (D.M.getD i.toNat default).seen else ⟨#[]⟩),.int .i64 (if D.down then 14 else if iV D.M i then 0 else 1)])/\w=w':=by
 obtain⟨c0,c1,c2,c3,c4,c5,c6⟩:=h.cells;have HR:=zh (aan h.mem i);unfold errOf at HR;cases hd:D.down with
 | true=>
  rw[hd] at c5;clear HR h hd;go_enter Tryz.func104,Tryz.ntmps104;go_wp2_with fail;go_ret2;exact⟨rfl,rfl⟩
 | false=>
  rw[hd] at c5;simp only[Bool.false_eq_true,if_false];generalize (if iV D.M i then (D.M.getD i.toNat default).seen else ⟨#[]⟩:ByteArray)=T at HR ⊢;generalize (if iV D.M i then 0 else 1:Int)=E at HR ⊢;clear h hd;go_enter Tryz.func104,Tryz.ntmps104;go_wp2_with (first | (go_at_call 146;refine HR.out.mono ?_;rintro e w1 ⟨rfl,rfl⟩));go_ret2;exact⟨rfl,rfl⟩
theorem DF (h:aS w d b g sb sc fb fc D) (i:Int):
  Calls Tryz.prog 31 #[.pointer (some ⟨d,0,none⟩),.int .i64 i] w fun e w'=>e= .returned (.tuple #[.string (if D.down then ⟨#[]⟩ else if FK D.slots i then D.slots.getD i.toNat ⟨#[]⟩ else ⟨#[]⟩),.int .i64 (if D.down then 14 else if FK D.slots i then 0 else 1)])/\w=w':=by
 obtain⟨c0,c1,c2,c3,c4,c5,c6⟩:=h.cells;cases hd:D.down with
 | true=>
  rw[hd] at c5;clear h hd;go_enter Tryz.func31,Tryz.ntmps31;go_wp2_with fail;go_ret2;exact⟨rfl,rfl⟩
 | false=>
  rw[hd] at c5;simp only[Bool.false_eq_true,if_false];by_cases hi:FK D.slots i
  ·rw[if_pos hi,if_pos hi];obtain⟨n,rfl⟩:=Int.eq_ofNat_of_zero_le hi.1;have hn:n<D.slots.length:=by have:=hi.2;omega
   obtain⟨o,ho⟩:∃ o,D.slots[n]? =some o:=⟨_,jB hn⟩;have hc:w.cell? ⟨sb,n,none⟩=some (.string o):=by
    rw[h.lC.cellAt n (by omega)];unfold strCells;rw[sD,ho];rfl
   have e:D.slots.getD (n:Int).toNat ⟨#[]⟩=o:=by
    rw[Int.toNat_natCast,En,ho];rfl
   rw[e];have d1:decide ((n:Int)<0)=false:=dF (by omega);have d2:decide (D.slots.length<=n)=false:=dF (by omega);have hi0:(0:Int)<=(n:Int):=by omega
   have hi1:(n:Int)<D.slots.length:=by omega
   clear h hd hi ho e;go_enter Tryz.func31,Tryz.ntmps31;go_wp2_with fail;go_ret2;exact⟨rfl,rfl⟩
  ·rw[if_neg hi,if_neg hi];rcases V9 hi with h0 | h0
   ·have d1:decide (i<0)=true:=pW h0;clear h hd hi h0;go_enter Tryz.func31,Tryz.ntmps31;go_wp2_with fail;go_ret2;exact⟨rfl,rfl⟩
   ·have d1:decide (i<0)=false:=dF (by omega);have d2:decide ((D.slots.length:Int)<=i)=true:=pW h0.2;clear h hd hi h0;go_enter Tryz.func31,Tryz.ntmps31;go_wp2_with fail;go_ret2;exact⟨rfl,rfl⟩
theorem KA (h:aS w d b g sb sc fb fc D) (n:Int):
  Calls Tryz.prog 24 #[.pointer (some ⟨d,0,none⟩),.int .i64 n] w fun e w'=>e= .returned (.tuple #[])/\aS w' d b g sb sc fb fc { D with left:=max n (-1) }/\iP w w' d g sb fb:=by
 have hf:=h.blk.frozen 6;have c6:=h.blk.cell 6;have H:=zh h;clear h;go_enter Tryz.func24,Tryz.ntmps24;go_wp2_with fail;go_end0;have hg:=au w d 6 (.int .i64 (max n (-1)));exact⟨by simp,H.out.aas hg rfl rfl rfl (H.out.blk.aB 6 (.int .i64 (max n (-1)))),iP.lD hg (.inl rfl)⟩
end
section
variable {w:World} {d b g sb sc fb fc:Nat} {D:Dev}
theorem Gs (h:aS w d b g sb sc fb fc D) (hN:D.M.length<=1048576):
  Calls Tryz.prog 17 #[.pointer (some ⟨d,0,none⟩)] w fun e w'=>∃ v,e= .returned v/\o8 w w' v (D.M.map Sec.now):=by
 obtain⟨c0,c1,c2,c3,c4,c5,c6⟩:=h.cells;have HR:=zh (X6 h.mem hN);clear h;go_enter Tryz.func17,Tryz.ntmps17;go_wp2_with (first | (go_at_call 52;refine HR.out.mono ?_;rintro e w1 ⟨v,rfl,hT⟩;have HT:=zh hT;clear hT));go_ret;exact⟨_,rfl,HT.out⟩
theorem Np (h:aS w d b g sb sc fb fc D) (v:Value) (I:List ByteArray) (hv:Texts w v I) (hN:I.length<=1048576):
  Calls Tryz.prog 21 #[.pointer (some ⟨d,0,none⟩),v] w fun e w'=>e= .returned (.int .i64 (if dS I D.M then 1 else 0))/\aS w' d b g sb sc fb fc { D with M:=if dS I D.M then D.M else kP I D.M }/\iP w w' d g sb fb:=by
 obtain⟨c0,c1,c2,c3,c4,c5,c6⟩:=h.cells;have HR:=zh (aat h.mem v I hv hN);have H:=zh h;generalize (if dS I D.M then D.M else kP I D.M)=M2 at HR ⊢;generalize (if dS I D.M then 1 else 0:Int)=E at HR ⊢;clear h hv;go_enter Tryz.func21,Tryz.ntmps21;go_wp2_with (first | (go_at_call 56;refine HR.out.mono ?_;rintro e w1 ⟨rfl,hM,hg⟩));go_ret;exact⟨rfl,H.out.turn hM hg,iP.lD hg (.inr (.inl rfl))⟩
theorem TK (h:aS w d b g sb sc fb fc D) (hf:Fine D.M) (hN:D.M.length<=1048576) (v:Value) (P:List Int) (pb po:Nat) (hv:vJ v P.length 0 pb po) (hpg:pb≠g)
  (hc:∀ i x,P[i]? =some x->w.cell? ⟨pb,po+i,none⟩=some (.int .i64 x)):
  Calls Tryz.prog 27 #[.pointer (some ⟨d,0,none⟩),v] w fun e w'=>e= .returned (.tuple #[])/\aS w' d b g sb sc fb fc { D with M:=iI (pick P) D.M (idxs Sec.dirty D.M),down:=false,left:= -1 }/\iP w w' d g sb fb:=by
 obtain⟨c0,c1,c2,c3,c4,c5,c6⟩:=h.cells;have HR:=zh (adE h.mem hf hN v P pb po hv hpg hc);have H:=zh h;generalize iI (pick P) D.M (idxs Sec.dirty D.M)=M2 at HR ⊢;clear h hv hc hf;go_enter Tryz.func27,Tryz.ntmps27;go_wp2_with (first | (go_at_call 62;refine HR.out.mono ?_;rintro e w1 ⟨rfl,hM,hg⟩;have h1:=H.out.turn hM hg;have y5:=h1.blk.cell 5;have y6:=h1.blk.cell 6;have z5:=h1.blk.frozen 5;have z6:=h1.blk.frozen 6;have H1:=zh h1;clear h1));go_end0;have hg2:=bG (au w1 d 5 (.bool false)) (au (w1.setCell ⟨d,5,none⟩ (.bool false)) d 6 (.int .i64 (-1)));exact⟨by simp,H1.out.aas hg2 rfl rfl rfl ((H1.out.blk.aB 5 (.bool false)).aB 6 (.int .i64 (-1))),(iP.lD hg (.inr (.inl rfl))).trans (iP.lD hg2 (.inl rfl))⟩
end
section
variable {w w' w2:World} {d b g sb sc fb fc:Nat} {D:Dev}
theorem aau {Q:World->Prop} (h:aS w d b g sb sc fb fc D) (hd:D.down=false) (hl:D.left≠0) (hr: -1<=D.left/\D.left<=9223372036854775807) (fi:Nat) (x:Value) (eg:∀ args w,(callFunc fi args).run Tryz.prog w= .ok (.enter fi args) w)
  (HC:∀ w2,aS w2 d b g sb sc fb fc { D with left:=iE D.left }->w.grownBy w2 (some d)->Calls Tryz.prog fi #[x] w2 fun e w'=>e= .returned (.tuple #[])/\Q w'):
  Calls Tryz.prog 116 #[.pointer (some ⟨d,0,none⟩),.int .i64 0,.func (.func fi) #[x] #[]] w fun e w'=>e= .returned (.int .i64 0)/\Q w':=by
 have hf:=h.blk.frozen;obtain⟨c0,c1,c2,c3,c4,c5,c6⟩:=h.cells;rw[hd] at c5;have hb:(D.left==0)=false:=lM hl;have hw64:wrap64 (D.left-1)=D.left-1:=by unfold wrap64;omega
 have H:=zh h;have Hc:=zh HC;clear hd hl h hr HC;go_enter Tryz.func116,Tryz.ntmps116;go_wp2_with fail;have hg:=au w d 6 (.int .i64 (iE D.left));have hD:aS (w.setCell ⟨d,6,none⟩ (.int .i64 (iE D.left))) d b g sb sc fb fc { D with left:=iE D.left }:=H.out.aas hg rfl rfl rfl (by
  have:=H.out.blk.aB 6 (.int .i64 (iE D.left));exact this)
 refine(Hc.out _ hD hg).mono ?_;rintro e w' ⟨rfl,hQ⟩;have HQ:=zh hQ;clear hQ;go_wp2_with fail;go_ret;exact⟨rfl,HQ.out⟩
theorem X7 (h:aS w d b g sb sc fb fc D) (hr: -1<=D.left/\D.left<=9223372036854775807) (check:Int) (fi:Nat) (x:Value) (eg:∀ args w,(callFunc fi args).run Tryz.prog w= .ok (.enter fi args) w) (f:Dev->Dev)
  (HC:check=0->∀ w2,aS w2 d b g sb sc fb fc { D with left:=iE D.left }->w.grownBy w2 (some d)->Calls Tryz.prog fi #[x] w2 fun e w'=>e= .returned (.tuple #[])/\aS w' d b g sb sc fb fc (f { D with left:=iE D.left })/\iP w2 w' d g sb fb):
  Calls Tryz.prog 116 #[.pointer (some ⟨d,0,none⟩),.int .i64 check,.func (.func fi) #[x] #[]] w fun e w'=>e= .returned (.int .i64 (D.jq check f).1)/\aS w' d b g sb sc fb fc (D.jq check f).2/\iP w w' d g sb fb:=by
 unfold Dev.jq;by_cases hd:D.down=true
 ·rw[if_pos hd];refine(KC h hd check _).mono ?_;rintro e w' ⟨rfl,rfl⟩;exact⟨rfl,h,iP.refl _⟩
 ·rw[if_neg hd];have hd':D.down=false:=by simpa using hd
  by_cases hc:check≠0
  ·rw[if_pos hc];refine(Pj h hd' check hc _).mono ?_;rintro e w' ⟨rfl,rfl⟩;exact⟨rfl,h,iP.refl _⟩
  ·rw[if_neg hc];have hc':check=0:=by simpa using hc
   subst hc';by_cases hl:D.left=0
   ·rw[if_pos hl];refine(KD h hd' hl _).mono ?_;rintro e w' ⟨rfl,h1,h2⟩;exact⟨rfl,h1,iP.lD h2 (.inl rfl)⟩
   ·rw[if_neg hl];refine(aau (Q:=fun w'=>aS w' d b g sb sc fb fc (f { D with left:=iE D.left })/\iP w w' d g sb fb) h hd' hl hr fi x eg (fun w2 h1 h2=>(HC rfl w2 h1 h2).mono ?_)).mono ?_
    ·rintro e w' ⟨rfl,h3,h4⟩;exact⟨rfl,h3,(iP.lD h2 (.inl rfl)).trans h4⟩
    ·rintro e w' ⟨rfl,h3,h4⟩;exact⟨rfl,h3,h4⟩
theorem aav (args:Array Value) (w:World):(callFunc 157 args).run Tryz.prog w= .ok (.enter 157 args) w:=by simp[go_sem]
theorem TM (h:aS w d b g sb sc fb fc D) (hr: -1<=D.left/\D.left<=9223372036854775807) (hf:Fine D.M) (hN:D.M.length<=1048576):
  Calls Tryz.prog 116 #[.pointer (some ⟨d,0,none⟩),.int .i64 0,.func (.func 157) #[.pointer (some ⟨b,0,none⟩)] #[]] w fun e w'=>e= .returned (.int .i64 (D.jq 0 fun D=> { D with M:=iI (fun _=>64) D.M (idxs Sec.dirty D.M) }).1)/\
   aS w' d b g sb sc fb fc (D.jq 0 fun D=> { D with M:=iI (fun _=>64) D.M (idxs Sec.dirty D.M) }).2/\iP w w' d g sb fb:=by
 refine X7 h hr _ _ _ aav _ (fun hc w2 h2 hg=>?_);refine(X8 h2.mem hf hN).mono ?_;rintro e w' ⟨rfl,h3,h4⟩;exact⟨rfl,h2.turn h3 h4,iP.lD h4 (.inr (.inl rfl))⟩
theorem Gt (h:aS w d b g sb sc fb fc D) (hr: -1<=D.left/\D.left<=9223372036854775807) (hf:Fine D.M) (hN:D.M.length<=1048576):
  Calls Tryz.prog 126 #[.pointer (some ⟨d,0,none⟩)] w fun e w'=>e= .returned (.int .i64 (D.jq 0 fun D=> { D with M:=iI (fun _=>64) D.M (idxs Sec.dirty D.M) }).1)/\
   aS w' d b g sb sc fb fc (D.jq 0 fun D=> { D with M:=iI (fun _=>64) D.M (idxs Sec.dirty D.M) }).2/\iP w w' d g sb fb:=by
 obtain⟨c0,c1,c2,c3,c4,c5,c6⟩:=h.cells;have HS:=zh (TM h hr hf hN);generalize (D.jq 0 fun D=> { D with M:=iI (fun _=>64) D.M (idxs Sec.dirty D.M) })=R at HS ⊢;obtain⟨r,E⟩:=R;dsimp only at HS ⊢;clear h hr hf;go_enter Tryz.func126,Tryz.ntmps126;go_wp2_with (first | (go_at_call 116;refine HS.out.mono ?_;rintro e w' ⟨rfl,hE,hF⟩));go_ret;exact⟨rfl,hE,hF⟩
end
section
variable {w:World} {d b g sb sc fb fc:Nat} {D:Dev}
theorem below_drewN {B:Nat} {a w:World} (h:Below B a w) (q:Nat):Below B a (w.drewN q):=⟨h.os,h.tape,h.output,h.size,h.block⟩
end
theorem aff (w:World):Calls Tryz.prog 95 #[.string ⟨#[0]⟩,.int .i64 32] w fun e w'=>e= .returned (.string zero32)/\Below w.heap.size w w':=by
 refine(Tryz.strings_Repeat ⟨#[0]⟩ 32 w (by omega) (by show 1*32<=140737488355328;omega)).mono ?_;rintro e w' ⟨rfl,hB⟩;refine⟨?_,hB⟩;have h:(⟨(Lib.repeatL (⟨#[0]⟩:ByteArray).data.toList 32).toArray⟩:ByteArray)=zero32:=by kernel_rfl
 rw[h]
theorem empty_any (w:World):Calls Tryz.prog 91 #[] w fun e w'=>e= .returned (.string zero32)/\Below w.heap.size w w':=by
 go_enter Tryz.func91,Tryz.ntmps91;go_wp2_with (first | (go_at_call 95;refine(aff _).mono ?_;rintro e w1 ⟨rfl,hB1⟩));go_ret;exact⟨rfl,hB1⟩
def emptied (l:List ByteArray) (k:Nat):List ByteArray:=List.replicate k zero32++l.drop k
theorem Eu (l:List ByteArray) (k:Nat) (h:k<=l.length):(emptied l k).length=l.length:=by simp[emptied];omega
theorem Pm (l:List ByteArray) (k:Nat) (h:k<l.length):(emptied l k).set k zero32=emptied l (k+1):=by
 unfold emptied;rw[List.set_append_right _ _ (by simp),FT,Nat.sub_self,List.drop_eq_getElem_cons h,List.set_cons_zero,List.replicate_succ',Em];rfl
section
variable {w:World} {d b g sb sc fb fc:Nat} {D:Dev}
theorem Bj (h:aS w d b g sb sc fb fc D) (hN:D.slots.length<=1048576):
  Calls Tryz.prog 54 #[.pointer (some ⟨d,0,none⟩)] w fun e w'=>e= .returned (.tuple #[])/\aS w' d b g sb sc fb fc { D with slots:=List.replicate D.slots.length zero32 }/\iP w w' d g sb fb:=by
 obtain⟨c0,c1,c2,c3,c4,c5,c6⟩:=h.cells;have H:=zh h;obtain⟨N,hNN⟩:∃ N,D.slots.length=N:=⟨_,rfl⟩;rw[hNN] at c0 hN;have HN:=zh hNN;clear h hNN;go_enter Tryz.func54,Tryz.ntmps54;go_wp2_with fail;go_loopw [9] (fun i wr=>∃ k:Nat,k<=N/\i= .int .i64 k/\aS wr d b g sb sc fb fc { D with slots:=emptied D.slots k }/\iP w wr d g sb fb) (fun i _=>N-(intOf i).toNat)
 case atStart=>exact⟨0,iT _,rfl,H.out,iP.refl _⟩
 case round=>
  obtain⟨k,hk,rfl,hD,hF⟩:=hrel;by_cases hkN:k<N
  ·have hd:decide (k<N)=true:=pW hkN;have hkl:k<D.slots.length:=by have:=HN.out;omega
   have hel:(emptied D.slots k).length=N:=(Eu _ _ (by omega)).trans HN.out;have HD:=zh hD;have HF:=zh hF;have hk0:(0:Int)<=(k:Int):=by omega
   have hk1:(k:Int)<(N:Int):=by omega
   have hwk:wrap64 ((k:Int)+1)=(k:Int)+1:=by unfold wrap64;omega
   have y0:=hD.blk.cell 0;dsimp only at y0;rw[hel] at y0;have hstep:Hid (∀ w1,Below wr.heap.size wr.drew w1->w1.cell? ⟨d,0,none⟩=some (.slice (some ⟨sb,0,none⟩) N sc)/\(∃ o,w1.cell? ⟨sb,k,none⟩=some o)/\w1.frozen? ⟨sb,k,none⟩=false/\(w1.setCell ⟨sb,k,none⟩ (.string zero32)).cell? ⟨d,0,none⟩=some (.slice (some ⟨sb,0,none⟩) N sc)/\
     aS (w1.setCell ⟨sb,k,none⟩ (.string zero32)) d b g sb sc fb fc { D with slots:=emptied D.slots (k+1) }/\iP w (w1.setCell ⟨sb,k,none⟩ (.string zero32)) d g sb fb):=by
    intro w1 hB;have hb:Below wr.heap.size wr w1:=(bK _ wr).drew.trans hB;have h1:=HD.out.below hb;obtain⟨s1,s2⟩:=h1.Wi k zero32;dsimp only at s1;rw[Pm _ _ hkl] at s1;have z0:=h1.blk.cell 0;have z1:=s1.blk.cell 0;dsimp only at z0 z1;rw[hel] at z0;rw[Eu _ _ (by omega),HN.out] at z1;have zc:w1.cell? ⟨sb,k,none⟩=some (.string ((emptied D.slots k).getD k ⟨#[]⟩)):=by
     have e1:=h1.lC.cellAt k (by dsimp only;rw[hel];omega);have e2:(emptied D.slots k)[k]? =some ((emptied D.slots k).getD k ⟨#[]⟩):=by
      rw[En,jB (by omega)];rfl
     rw[e1];dsimp only;unfold strCells;rw[sD,e2];rfl
    exact⟨z0,⟨_,zc⟩,h1.lC.frozenAt k,z1,s1,iP.trans (w':=wr) HF.out (iP.trans (w':=w1) (iP.bD hb) (iP.lD s2 (.inr (.inr (.inl rfl)))))⟩
   have Hel:=zh hel;clear hD hF hel hkl;go_wp2_with fail
   go_region_held3 (fun w'=>w'.cell? ⟨d,0,none⟩=some (.slice (some ⟨sb,0,none⟩) N sc)) (go_keep)
    (first | (go_at_call 91;refine(empty_any _).mono ?_;rintro e w1 ⟨rfl,hB1⟩;obtain⟨a0,⟨o1,a1⟩,a2,a3,hI,hFr⟩:=hstep.out _ hB1))
   go_wp2_with fail;go_roundw
   case rel=>exact⟨k+1,by omega,by go_num,hI,hFr⟩
   case measure=>simp[intOf];omega
  ·have hd:decide (k<N)=false:=dF hkN;have amy:k=N:=by omega
   go_wp2_with fail;go_end0;refine⟨by simp,?_,hF⟩;have e:emptied D.slots k=List.replicate D.slots.length zero32:=by
    unfold emptied;rw[amy,<-HN.out,List.drop_length,List.append_nil]
   rw[e] at hD;exact hD
end
theorem Pn:(Tryz.prog.info? 4).map (fun i=>(i.zero,i.size,i.bytes))=some (some (.bool false),1,1):=by kernel_rfl
theorem infoByte:(Tryz.prog.info? 5).map (fun i=>(i.zero,i.size,i.bytes))=some (some (.int .u8 0),1,1):=by kernel_rfl
end Go.Proofs.YtpghocekofdpbaaGreatDoor
