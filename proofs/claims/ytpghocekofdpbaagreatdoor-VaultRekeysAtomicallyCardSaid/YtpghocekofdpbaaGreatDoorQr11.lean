import Derived.Test.YtpghocekofdpbaaGreatDoorQr10
import Derived.Deep.OwnRows
import Derived.Deep.AppendLies
set_option maxRecDepth 100000
set_option maxHeartbeats 4000000
namespace Go.Proofs.YtpghocekofdpbaaGreatDoor
section
open Go.RowKit Go.Shelf
theorem gI {w w':World} {base:Nat} {e:TypeId} {size:Nat} {v:Value} {n:Nat} {xs:List Value} (h:w.ownsRow base e size v n xs) (hk:∀ k cs,v.ownBlock=some k->ak w k e cs->w'.heap[k]? =w.heap[k]?):w'.ownsRow base e size v n xs:=by
 obtain⟨h1,h2⟩:=h;refine⟨h1,?_⟩;rcases h2 with h2 | ⟨g,cap,cur,hv,hg,hh,r⟩
 ·exact Or.inl h2
 ·exact Or.inr ⟨g,cap,cur,hv,hg,(hk g cur (by rw[hv];rfl) hh).trans hh,r⟩
theorem Ew {w:World} {base:Nat} {e:TypeId} {size k n c:Nat} {xs:List Value} (h:w.ownsRow base e size (.slice (some ⟨k,0,none⟩) n c) n xs):∃ cur,ak w k e cur:=by
 rcases h.2 with⟨h0,_⟩ | ⟨g,cap,cur,hv,_,hh,_⟩
 ·cases h0
 ·cases hv;exact⟨cur,hh⟩
structure nP where
 d:Nat
 b:Nat
 g:Nat
 sb:Nat
 sc:Nat
 fb:Nat
 fc:Nat
def aO (w:World) (a:nP) (D:Dev):Prop:=aS w a.d a.b a.g a.sb a.sc a.fb a.fc D
def dJ (w w':World) (a:nP):Prop:=iP w w' a.d a.g a.sb a.fb
section
variable {W w w' w2:World} {a c:nP} {D E:Dev}
theorem aO.JJ (h:aO w a D):∃ cs,ak w a.g 139 cs:=by
 obtain⟨_,cur,_,h2,_⟩:=h.mem.body;exact⟨cur,h2⟩
theorem aO.aiQ (h:aO w a D):∃ cs,ak w a.b 137 cs:=by
 obtain⟨_,cur,h2,_⟩:=h.mem.body;exact⟨_,h2⟩
theorem aO.Bl (h:aO w a D):∃ cs,ak w a.sb 9 cs:=Ew h.lC
theorem aO.JK (h:aO w a D):∃ cs,ak w a.fb 4 cs:=Ew h.o7
theorem dJ.blk (hF:dJ w w' a) (h:aO w a D) {k:Nat} {t:TypeId} {cs:Array Value} (hk:ak w k t cs) (h1:t=89->k≠a.d) (h2:t=139->k≠a.g) (h3:t=9->k≠a.sb) (h4:t=4->k≠a.fb):w'.heap[k]? =w.heap[k]? :=by
 obtain⟨_,q2⟩:=h.JJ;obtain⟨_,q3⟩:=h.Bl;obtain⟨_,q4⟩:=h.JK;refine hF.rest k hk.lt ?_ ?_ ?_ ?_
 ·by_cases e:t=89
  ·exact h1 e
  ·exact hk.gY h.blk e
 ·by_cases e:t=139
  ·exact h2 e
  ·exact hk.gY q2 e
 ·by_cases e:t=9
  ·exact h3 e
  ·exact hk.gY q3 e
 ·by_cases e:t=4
  ·exact h4 e
  ·exact hk.gY q4 e
structure OW (w:World) (v:Value) (I:List ByteArray) (a:nP):Prop where
 texts:Texts w v I
 own:∀ k,v.ownBlock=some k->k≠a.sb
theorem OW.slice {v:Value} {I:List ByteArray} (h:OW w v I a):∃ A n c,v= .slice A n c:=by
 obtain⟨A,c,e,_⟩:=h.texts.parts;exact⟨A,_,c,e⟩
theorem dJ.img {v:Value} {I:List ByteArray} (hF:dJ w w' a) (h:aO w a D) (k:OW w v I a):OW w' v I a:=
 ⟨gI k.texts (fun j cs e hj=>hF.blk h hj (fun e=>by cases e) (fun e=>by cases e) (fun _=>k.own j e) (fun e=>by cases e)),k.own⟩
theorem OW.below {v:Value} {I:List ByteArray} (h:OW w v I a) (hB:Below w.heap.size w w'):OW w' v I a:=⟨ownsRow_below h.texts hB (aF _),h.own⟩
theorem aO.below (h:aO w a D) (hB:Below w.heap.size w w'):aO w' a D:=aS.below h hB
theorem dJ.refl (w:World):dJ w w a:=iP.refl w
theorem dJ.trans (h:dJ w w' a) (k:dJ w' w2 a):dJ w w2 a:=iP.trans (w':=w') h k
theorem dJ.bD (hB:Below w.heap.size w w'):dJ w w' a:=iP.bD hB
end
end
section
open Go.ChangeShapes Go.WideShapes Go.ChangeAt Go.RowKit Go.Deep
theorem Tryz.own:ownKnob Tryz.prog.godebug=none:=by kernel_rfl
theorem Tryz.laidOut:laidOutB Tryz.prog=true:=by kernel_rfl
theorem O7:Tryz.prog.cellsOf 3=1:=by kernel_rfl
theorem XV:Tryz.prog.cellsOf 30=1:=by kernel_rfl
theorem V6:Tryz.prog.cellsOf 5=1:=by kernel_rfl
theorem cell_spot {w:World} {a:Addr} {v:Value} (h:w.cell? a=some v):a=⟨a.block,a.off,none⟩/\a.block<w.heap.size:=by
 obtain⟨b,o,sp⟩:=a;unfold World.cell? at h;split at h
 ·rename_i c e f hh;split at h
  ·cases h
  ·rename_i hsp;have hs:sp=none:=by
    cases sp with
    | none=>rfl
    | some x=>simp at hsp
   exact⟨by rw[hs],(Array.getElem?_eq_some_iff.1 hh).1⟩
 ·cases h
section
variable {H:Type} {enc:TypeId×Value->H} {w:World} {base:Nat} {spare:Nat->Bool} {held:Bool}
theorem aai {a:Int} (h:(Lit.int .u8 a).wf=true):∃ n:Nat,a=n/\n<256:=by
 simp[Lit.wf,IntKind.min,IntKind.max,IntKind.signed,IntKind.bits] at h;exact⟨a.toNat,by omega,by omega⟩
theorem i64_in {a:Int} (h:(Lit.int .i64 a).wf=true): -9223372036854775808<=a/\a<=9223372036854775807:=by
 simp[Lit.wf,IntKind.min,IntKind.max,IntKind.signed,IntKind.bits] at h;omega
theorem open_ints {m:Nat} {cs:List Value} {x:DataW H×List MemPlace} (h:DataW.trod enc Tryz.prog w base spare held m 30 cs=some x):
  ∃ (pv:Value) (P:List Int),cs= [pv]/\mO w pv P:=by
 rcases open_slice1 Tryz.underlying30 O7 h with⟨rfl,_⟩ | ⟨a,len,cap,m',n,V,D,Pl,rfl,_,hl,hm,hmm,_,hx⟩
 ·exact⟨_,[],rfl,none,0,rfl,aF _,iT _,fun h=>absurd h (by simp)⟩
 ·have hml:len<=m':=by
   cases hsp:spare a.block with
   | true=>rw[hmm,hsp];simpa using hl
   | false=>rw[hmm,hsp];simp
  obtain⟨T,hT⟩:=choose_lt (α:=Int) (n:=len) (p:=fun i T=>w.cell? (a.add i)=some (.int .i64 T)) (fun i hi=>by
   obtain⟨h1,h2⟩:=hx i (by omega);obtain⟨k,hk,_,_⟩:=DataW.trod_int Tryz.underlying3 h2;simp at hk;exact⟨k,by rw[h1,hk]⟩)
  have hlen:((List.range len).map T).length=len:=by rw[lq,List.length_range]
  refine⟨_,(List.range len).map T,rfl,some a,cap,by rw[hlen],by rw[hlen];exact hl,hm,fun h0=>?_⟩;rw[hlen] at h0;have h00:=hT 0 h0;have ha0:a.add 0=a:=by simp[Addr.add]
  rw[ha0] at h00;obtain⟨ha,hbl⟩:=cell_spot h00;refine⟨a.block,a.off,by rw[<-ha],hbl,fun i y hy=>?_⟩;rw[sD] at hy;obtain⟨i',hi',rfl⟩:=Option.map_eq_some_iff.1 hy;have hil:i<len:=by have:=(List.getElem?_eq_some_iff.1 hi').1;simpa using this
  have:i'=i:=by rw[List.getElem?_range hil] at hi';cases hi';rfl
  subst this;have:=hT i' hil;rw[ha,Addr.add_lit] at this;exact this
end
theorem TD {H:Type} {enc:TypeId×Value->H} {W:World} {v:Value} {d:DataW H} {ps:List MemPlace} {base:Nat} (hv:Value.okWide Tryz.prog W .any base 30 v)
  (h:DataW.Trod enc Tryz.prog W 0 (fun _=>true) true 30 v d ps):∃ P:List Int,mO W v P:=by
 obtain⟨a0,len,cap,rfl⟩:=okWide_slice Tryz.underlying30 hv;obtain⟨fuel,hf⟩:=h;obtain⟨pv,P,hcs,hP⟩:=open_ints hf;simp[Value.cells] at hcs;rw[hcs];exact⟨P,hP⟩
end
section
open Go.RowKit Go.Shelf
attribute [local go_sem] Oper.semAt_some
section
variable {w:World} {a:nP} {D:Dev}
theorem aO.sizes (h:aO w a D):a.d<w.heap.size/\a.g<w.heap.size/\a.sb<w.heap.size/\a.fb<w.heap.size:=by
 obtain⟨_,q2⟩:=h.JJ;obtain⟨_,q3⟩:=h.Bl;obtain⟨_,q4⟩:=h.JK;exact⟨h.blk.lt,q2.lt,q3.lt,q4.lt⟩
theorem jT {w:World} {base:Nat} {e:TypeId} {size:Nat} {v:Value} {n:Nat} {xs:List Value} (h:w.ownsRow base e size v n xs):w.ownsRow 0 e size v n xs:=by
 refine⟨h.1,?_⟩;rcases h.2 with h2 | ⟨g,cap,cur,hv,hg,r⟩
 ·exact .inl h2
 ·exact .inr ⟨g,cap,cur,hv,iT _,r⟩
end
end
section
open Go.RowKit Go.Shelf
attribute [local go_sem] Oper.semAt_some
theorem aay (w:World) (x y z:Int) (h:¬ (1<=x/\x<=4096/\1<=y/\y<=16/\1<=z/\z<=16)):
  Calls Tryz.prog 45 #[.int .i64 x,.int .i64 y,.int .i64 z] w fun e w'=>e= .returned (.tuple #[.pointer none,.int .i64 1])/\Below w.heap.size w w':=by
 by_cases hx:x<1\/4096<x
 ·have HM:=zh (adA w x hx);clear h hx;go_enter Tryz.func45,Tryz.ntmps45;go_wp2_with (go_at_call 82;refine HM.out.mono ?_;rintro e w1 ⟨rfl,rfl⟩);go_ret2;exact⟨rfl,bK _ _⟩
 ·obtain⟨n,rfl⟩:=Int.eq_ofNat_of_zero_le (show 0<=x by omega);have HM:=zh (aah w n (by omega) (by omega));by_cases h1:min y z<1
  ·have d1:decide (min y z<1)=true:=pW h1;clear h hx h1;go_enter Tryz.func45,Tryz.ntmps45;go_wp2_with (go_at_call 82;refine HM.out.mono ?_;rintro e w1 ⟨b,g,rfl,l1,l2,hM,hB⟩);go_ret2;exact⟨rfl,hB⟩
  ·have d1:decide (min y z<1)=false:=dF h1;have d2:decide (16<max y z)=true:=pW (by omega);clear h hx h1;go_enter Tryz.func45,Tryz.ntmps45;go_wp2_with (go_at_call 82;refine HM.out.mono ?_;rintro e w1 ⟨b,g,rfl,l1,l2,hM,hB⟩);go_ret2;exact⟨rfl,hB⟩
theorem Ya (z:Value) (n:Nat):(madeCells #[z] n).toList=List.replicate n z:=by
 unfold madeCells;rw[Array.toList_map,Array.toList_range,List.eq_replicate_iff];refine⟨by simp,fun b hb=>?_⟩;obtain⟨i,_,rfl⟩:=List.mem_map.1 hb;simp[Nat.mod_one]
theorem Gv {w:World} {g n:Nat} {e:TypeId} (z:Value) (h:ak w g e (madeCells #[z] n)) (hn:n<=16):w.ownsRow 0 e 1 (.slice (some ⟨g,0,none⟩) n n) n (List.replicate n z):=by
 refine⟨by simp,.inr ⟨g,n,_,rfl,iT _,h,aF _,by unfold maxLen;omega,?_,?_⟩⟩
 ·rw[size_madeCells,Nat.mul_one]
 ·rw[Ya,Nat.mul_one,uo (by simp)]
def qV (n s f:Nat):Dev:=⟨List.replicate s ⟨#[]⟩,List.replicate f false,0,0,List.replicate n Sec.blank,false,-1⟩
theorem KE (n s f:Nat): { qV n s f with slots:=List.replicate (qV n s f).slots.length zero32 }=dN n s f:=by
 unfold qV dN;simp
theorem Wj {w:World} {a:nP} {n s f:Nat} (hs:s<=16) (hf:f<=16) (hM:jP w a.b a.g (List.replicate n Sec.blank)) (e1:a.sc=s) (e2:a.fc=f)
  (hb:ak w a.d 89 #[.slice (some ⟨a.sb,0,none⟩) s s,.slice (some ⟨a.fb,0,none⟩) f f,.int .i64 0,.int .i64 0,.pointer (some ⟨a.b,0,none⟩),.bool false,.int .i64 (-1)])
  (h1:ak w a.sb 9 (madeCells #[.string ⟨#[]⟩] s)) (h2:ak w a.fb 4 (madeCells #[.bool false] f)):aO w a (qV n s f):=by
 obtain⟨d,b,g,sb,sc,fb,fc⟩:=a;dsimp only at *;subst e1;subst e2;have r1:=Gv _ h1 hs;have r2:=Gv _ h2 hf;refine⟨?_,hM,?_,?_⟩
 ·simpa [qV] using hb
 ·simpa [qV,strCells] using r1
 ·simpa [qV,yL] using r2
theorem Wn (w:World) (n s f:Nat) (hn:1<=n/\n<=4096) (hs:1<=s/\s<=16) (hf:1<=f/\f<=16):
  Calls Tryz.prog 45 #[.int .i64 n,.int .i64 s,.int .i64 f] w fun e w'=>∃ a:nP,e= .returned (.tuple #[.pointer (some ⟨a.d,0,none⟩),.int .i64 0])/\aO w' a (dN n s f)/\(w.heap.size<=a.d/\w.heap.size<=a.g/\w.heap.size<=a.sb/\w.heap.size<=a.fb)/\Below w.heap.size w w':=by
 have HM:=zh (aah w n hn.1 hn.2);have d1:decide (min (s:Int) f<1)=false:=dF (by omega);have d2:decide (16<max (s:Int) f)=false:=dF (by omega);have k1:∀ wx,(Instr.makeSlice 35 (.int .i64 s) (.int .i64 s)).run Tryz.prog wx= .ok (.slice (some ⟨wx.heap.size,0,none⟩) s s) (wx.alloc (.cells (madeCells #[.string ⟨#[]⟩] s) 9)):=fun wx=>run_make_row' 35 9 _ 16 Tryz.underlying35 iw rfl .i64 .i64 s (by omega) (by omega) wx
 have k2:∀ wx,(Instr.makeSlice 84 (.int .i64 f) (.int .i64 f)).run Tryz.prog wx= .ok (.slice (some ⟨wx.heap.size,0,none⟩) f f) (wx.alloc (.cells (madeCells #[.bool false] f) 4)):=fun wx=>run_make_row' 84 4 _ 1 Tryz.underlying84 Pn rfl .i64 .i64 f (by omega) (by omega) wx
 have Hn:=zh (And.intro hn (And.intro hs hf));clear hn hs hf;go_enter Tryz.func45,Tryz.ntmps45;go_wp2_with (go_at_call 82;refine HM.out.mono ?_;rintro e w1 ⟨b,g,rfl,l1,l2,hM,hB⟩)
 go_region
 ·have hk0:=ak.new w1 89 #[.slice (some ⟨w1.heap.size+1,0,none⟩) s s,.slice (some ⟨w1.heap.size+1+1,0,none⟩) f f,.int .i64 0,.int .i64 0,.pointer (some ⟨b,0,none⟩),.bool false,.int .i64 (-1)];have hs0:(w1.alloc (.cells #[.slice (some ⟨w1.heap.size+1,0,none⟩) s s,.slice (some ⟨w1.heap.size+1+1,0,none⟩) f f,.int .i64 0,.int .i64 0,.pointer (some ⟨b,0,none⟩),.bool false,.int .i64 (-1)] 89)).heap.size=w1.heap.size+1:=by simp
  have hB0:Below w1.heap.size w1 (w1.alloc (.cells #[.slice (some ⟨w1.heap.size+1,0,none⟩) s s,.slice (some ⟨w1.heap.size+1+1,0,none⟩) f f,.int .i64 0,.int .i64 0,.pointer (some ⟨b,0,none⟩),.bool false,.int .i64 (-1)] 89)):=(bK _ _).alloc (aF _) _;generalize w1.alloc (.cells #[.slice (some ⟨w1.heap.size+1,0,none⟩) s s,.slice (some ⟨w1.heap.size+1+1,0,none⟩) f f,.int .i64 0,.int .i64 0,.pointer (some ⟨b,0,none⟩),.bool false,.int .i64 (-1)] 89)=w2 at hk0 hs0 hB0 ⊢;have hk1:=ak.new w2 9 (madeCells #[.string ⟨#[]⟩] s);have hs1:(w2.alloc (.cells (madeCells #[.string ⟨#[]⟩] s) 9)).heap.size=w1.heap.size+1+1:=by simp[hs0]
  have hB1:=hB0.alloc (by omega) (.cells (madeCells #[.string ⟨#[]⟩] s) 9);have hk0:=hk0.alloc (.cells (madeCells #[.string ⟨#[]⟩] s) 9);generalize w2.alloc (.cells (madeCells #[.string ⟨#[]⟩] s) 9)=w3 at hk0 hk1 hs1 hB1 ⊢;have hk2:=ak.new w3 4 (madeCells #[.bool false] f);have hB2:=(hB1.alloc (by omega) (.cells (madeCells #[.bool false] f) 4)).drew;have hk0:=(hk0.alloc (.cells (madeCells #[.bool false] f) 4)).drew;have hk1:=(hk1.alloc (.cells (madeCells #[.bool false] f) 4)).drew;have hk2:=hk2.drew;generalize (w3.alloc (.cells (madeCells #[.bool false] f) 4)).drew=w4 at hk0 hk1 hk2 hB2 ⊢;rw[hs0] at hk1;rw[hs1] at hk2;have hsz:=hB.size;have hD:aO w4 ⟨w1.heap.size,b,g,w1.heap.size+1,s,w1.heap.size+1+1,f⟩ (qV n s f):=Wj Hn.out.2.1.2 Hn.out.2.2.2 (hM.below hB2 hM.lt.1 hM.lt.2) rfl rfl hk0 hk1 hk2;have ZQ:=zh (hB.trans (hB2.mono hsz));have HBt:=zh (Bj hD (by unfold qV;dsimp only;rw[FT];have:=Hn.out.2.1.2;omega));have Hsz:=zh hsz;clear hk0 hk1 hk2 hs0 hs1 hB0 hB1 hB2 hM hB k1 k2;go_wp2_with (first | (go_at_call 54;refine HBt.out.mono ?_;rintro e w5 ⟨rfl,hE,hF⟩));go_ret2;rw[KE] at hE;have:=Hsz.out;exact⟨⟨w1.heap.size,b,g,w1.heap.size+1,s,w1.heap.size+1+1,f⟩,rfl,hE,⟨this,l2,by dsimp only;omega,by dsimp only;omega⟩,iP.below hF ZQ.out ZQ.out.size this l2 (by omega) (by omega)⟩
 ·have hk0:=ak.new w1 89 #[.slice (some ⟨w1.heap.size+1+1,0,none⟩) s s,.slice (some ⟨w1.heap.size+1,0,none⟩) f f,.int .i64 0,.int .i64 0,.pointer (some ⟨b,0,none⟩),.bool false,.int .i64 (-1)];have hs0:(w1.alloc (.cells #[.slice (some ⟨w1.heap.size+1+1,0,none⟩) s s,.slice (some ⟨w1.heap.size+1,0,none⟩) f f,.int .i64 0,.int .i64 0,.pointer (some ⟨b,0,none⟩),.bool false,.int .i64 (-1)] 89)).heap.size=w1.heap.size+1:=by simp
  have hB0:Below w1.heap.size w1 (w1.alloc (.cells #[.slice (some ⟨w1.heap.size+1+1,0,none⟩) s s,.slice (some ⟨w1.heap.size+1,0,none⟩) f f,.int .i64 0,.int .i64 0,.pointer (some ⟨b,0,none⟩),.bool false,.int .i64 (-1)] 89)):=(bK _ _).alloc (aF _) _;generalize w1.alloc (.cells #[.slice (some ⟨w1.heap.size+1+1,0,none⟩) s s,.slice (some ⟨w1.heap.size+1,0,none⟩) f f,.int .i64 0,.int .i64 0,.pointer (some ⟨b,0,none⟩),.bool false,.int .i64 (-1)] 89)=w2 at hk0 hs0 hB0 ⊢;have hk1:=ak.new w2 4 (madeCells #[.bool false] f);have hs1:(w2.alloc (.cells (madeCells #[.bool false] f) 4)).heap.size=w1.heap.size+1+1:=by simp[hs0]
  have hB1:=hB0.alloc (by omega) (.cells (madeCells #[.bool false] f) 4);have hk0:=hk0.alloc (.cells (madeCells #[.bool false] f) 4);generalize w2.alloc (.cells (madeCells #[.bool false] f) 4)=w3 at hk0 hk1 hs1 hB1 ⊢;have hk2:=ak.new w3 9 (madeCells #[.string ⟨#[]⟩] s);have hB2:=(hB1.alloc (by omega) (.cells (madeCells #[.string ⟨#[]⟩] s) 9)).drew;have hk0:=(hk0.alloc (.cells (madeCells #[.string ⟨#[]⟩] s) 9)).drew;have hk1:=(hk1.alloc (.cells (madeCells #[.string ⟨#[]⟩] s) 9)).drew;have hk2:=hk2.drew;generalize (w3.alloc (.cells (madeCells #[.string ⟨#[]⟩] s) 9)).drew=w4 at hk0 hk1 hk2 hB2 ⊢;rw[hs0] at hk1;rw[hs1] at hk2;have hsz:=hB.size;have hD:aO w4 ⟨w1.heap.size,b,g,w1.heap.size+1+1,s,w1.heap.size+1,f⟩ (qV n s f):=Wj Hn.out.2.1.2 Hn.out.2.2.2 (hM.below hB2 hM.lt.1 hM.lt.2) rfl rfl hk0 hk2 hk1;have ZQ:=zh (hB.trans (hB2.mono hsz));have HBt:=zh (Bj hD (by unfold qV;dsimp only;rw[FT];have:=Hn.out.2.1.2;omega));have Hsz:=zh hsz;clear hk0 hk1 hk2 hs0 hs1 hB0 hB1 hB2 hM hB k1 k2;go_wp2_with (first | (go_at_call 54;refine HBt.out.mono ?_;rintro e w5 ⟨rfl,hE,hF⟩));go_ret2;rw[KE] at hE;have:=Hsz.out;exact⟨⟨w1.heap.size,b,g,w1.heap.size+1+1,s,w1.heap.size+1,f⟩,rfl,hE,⟨this,l2,by dsimp only;omega,by dsimp only;omega⟩,iP.below hF ZQ.out ZQ.out.size this l2 (by omega) (by omega)⟩
end
open Go.RowKit Go.Shelf
attribute [local go_sem] Oper.semAt_some
structure wG (w:World) (a:nP) (L:Int) (D:Dev):Prop where
 blk:ak w a.d 198 #[.pointer (some ⟨a.b,0,none⟩),.slice (some ⟨a.sb,0,none⟩) D.slots.length a.sc,.slice (some ⟨a.fb,0,none⟩) D.qR.length a.fc,.int .i64 D.counter,.int .i64 D.clock,.bool (!D.down),.bool (decide (0<=D.left)),.int .i64 L]
 mem:DV w a.b a.g D.M
 lC:w.ownsRow 0 9 1 (.slice (some ⟨a.sb,0,none⟩) D.slots.length a.sc) D.slots.length (strCells D.slots)
 o7:w.ownsRow 0 4 1 (.slice (some ⟨a.fb,0,none⟩) D.qR.length a.fc) D.qR.length (yL D.qR)
 lf:0<=D.left->L=D.left
def pV (w:World) (a:nP) (D:Dev):Prop:=∃ L,wG w a L D
section
variable {w w':World} {a:nP} {L:Int} {D:Dev}
theorem wG.cells (h:wG w a L D):w.cell? ⟨a.d,0,none⟩=some (.pointer (some ⟨a.b,0,none⟩))/\w.cell? ⟨a.d,1,none⟩=some (.slice (some ⟨a.sb,0,none⟩) D.slots.length a.sc)/\w.cell? ⟨a.d,2,none⟩=some (.slice (some ⟨a.fb,0,none⟩) D.qR.length a.fc)/\w.cell? ⟨a.d,3,none⟩=some (.int .i64 D.counter)/\w.cell? ⟨a.d,4,none⟩=some (.int .i64 D.clock)/\
  w.cell? ⟨a.d,5,none⟩=some (.bool (!D.down))/\w.cell? ⟨a.d,6,none⟩=some (.bool (decide (0<=D.left)))/\w.cell? ⟨a.d,7,none⟩=some (.int .i64 L):=
 ⟨h.blk.cell 0,h.blk.cell 1,h.blk.cell 2,h.blk.cell 3,h.blk.cell 4,h.blk.cell 5,h.blk.cell 6,h.blk.cell 7⟩
theorem wG.below (h:wG w a L D) (hB:Below w.heap.size w w'):wG w' a L D:=
 ⟨h.blk.below hB h.blk.lt,h.mem.below hB h.mem.lt.1 h.mem.lt.2,ownsRow_below h.lC hB (aF _),ownsRow_below h.o7 hB (aF _),h.lf⟩
theorem pV.below (h:pV w a D) (hB:Below w.heap.size w w'):pV w' a D:=by obtain⟨L,h⟩:=h;exact⟨L,h.below hB⟩
theorem wG.turn {M2:List Sec} (h:wG w a L D) (hM:DV w' a.b a.g M2) (hg:w.grownBy w' (some a.g)):wG w' a L { D with M:=M2 }:=by
 obtain⟨cap,cur,_,hgb,_⟩:=h.mem.body;exact⟨h.blk.grown hg (fun e=>h.blk.gY hgb (by decide) (Option.some.inj e)),hM,h.lC.kept hg (.inr (aA h.lC hgb (by decide))),h.o7.kept hg (.inr (aA h.o7 hgb (by decide))),h.lf⟩
theorem JW (h:pV w a D):Calls Tryz.prog 139 #[.pointer (some ⟨a.d,0,none⟩)] w fun e w'=>e= .returned (.int .i64 D.M.length)/\w=w':=by
 obtain⟨L,h⟩:=h;obtain⟨c0,c1,c2,c3,c4,c5,c6,c7⟩:=h.cells;obtain⟨cap,hc,_,_⟩:=h.mem.head;go_enter Tryz.func139,Tryz.ntmps139;go_wp2_with fail;go_ret;exact⟨rfl,rfl⟩
end
section
variable {w:World} {a:nP} {D:Dev}
theorem UO (h:pV w a D) (i:Int):
  Calls Tryz.prog 140 #[.pointer (some ⟨a.d,0,none⟩),.int .i64 i] w fun e w'=>e= .returned (.tuple #[.string (if D.down then ⟨#[]⟩ else if iV D.M i then (D.M.getD i.toNat default).seen else ⟨#[]⟩),.int .i64 (if D.down then 14 else if iV D.M i then 0 else 1)])/\w=w':=by
 obtain⟨L,h⟩:=h;obtain⟨c0,c1,c2,c3,c4,c5,c6,c7⟩:=h.cells;have HR:=zh (YT h.mem i);unfold errOf at HR;cases hd:D.down with
 | true=>
  rw[hd] at c5;clear HR h hd;go_enter Tryz.func140,Tryz.ntmps140;go_wp2_with fail;go_ret2;exact⟨rfl,rfl⟩
 | false=>
  rw[hd] at c5;simp only[Bool.false_eq_true,if_false];generalize (if iV D.M i then (D.M.getD i.toNat default).seen else ⟨#[]⟩:ByteArray)=T at HR ⊢;generalize (if iV D.M i then 0 else 1:Int)=E at HR ⊢;clear h hd;go_enter Tryz.func140,Tryz.ntmps140;go_wp2_with (first | (go_at_call 163;refine HR.out.mono ?_;rintro e w1 ⟨rfl,rfl⟩));go_ret2;exact⟨rfl,rfl⟩
theorem JY (h:pV w a D) (v:Value) (I:List ByteArray) (hv:Texts w v I) (hN:I.length<=1048576):
  Calls Tryz.prog 100 #[.pointer (some ⟨a.d,0,none⟩),v] w fun e w'=>e= .returned (.int .i64 (if dS I D.M then 1 else 0))/\pV w' a { D with M:=if dS I D.M then D.M else kP I D.M }/\dJ w w' a:=by
 obtain⟨L,h⟩:=h;obtain⟨c0,c1,c2,c3,c4,c5,c6,c7⟩:=h.cells;have HR:=zh (YU h.mem v I hv hN);have H:=zh h;generalize (if dS I D.M then D.M else kP I D.M)=M2 at HR ⊢;generalize (if dS I D.M then 1 else 0:Int)=E at HR ⊢;clear h hv;go_enter Tryz.func100,Tryz.ntmps100;go_wp2_with (first | (go_at_call 138;refine HR.out.mono ?_;rintro e w1 ⟨rfl,hM,hg⟩));go_ret;exact⟨rfl,⟨L,H.out.turn hM hg⟩,iP.lD hg (.inr (.inl rfl))⟩
def rJ:Array Value:=Array.replicate 32 (.int .u8 0)
theorem Xn (w:World):(Instr.makeSlice 66 (.int .i64 32) (.int .i64 32)).run Tryz.prog w= .ok (.slice (some ⟨w.heap.size,0,none⟩) 32 32) (w.alloc (.cells rJ 5)):=by kernel_rfl
theorem Xo (w:World):(convert 66 9 (.slice (some ⟨w.heap.size,0,none⟩) 32 32)).run Tryz.prog (w.alloc (.cells rJ 5))= .ok (.string zero32) (w.alloc (.cells rJ 5)):=by
 have h:=run_convert_bytes_back (P:=Tryz.prog) (w.alloc (.cells rJ 5)) 66 9 5 ⟨w.heap.size,0,none⟩ 32 (List.replicate 32 (0:UInt8)) Tryz.underlying66 Tryz.underlying5 Tryz.underlying9 (fun j hj=>by
  have hb:=(ak.new w 5 rJ).cell j;have e:(⟨w.heap.size,0,none⟩:Addr).add j=⟨w.heap.size,j,none⟩:=by
   simp[Addr.add];intro e;exact e.symm
  rw[e,hb];have hj':j<32:=by simpa using hj
  rw[List.getElem_replicate];have hz:rJ[j]? =some (.int .u8 0):=by
   unfold rJ;rw[Array.getElem?_replicate,if_pos hj']
  rw[hz];rfl)
 exact h
theorem UY (w:World):Calls Tryz.prog 137 #[] w fun e w'=>e= .returned (.string zero32)/\Below w.heap.size w w':=by
 have k2:=Xn;have k3:=Xo;go_enter Tryz.func137,Tryz.ntmps137;go_wp2_with fail;go_ret;exact⟨rfl,(bK _ _).alloc (aF _) _⟩
end
theorem frozen_kept {w w':World} {k i:Nat} {t:TypeId} {cs:Array Value} {row:Option Nat} (h:ak w k t cs) (hg:w.grownBy w' row) (hne:some k≠row):w'.frozen? ⟨k,i,none⟩=false:=(h.grown hg hne).frozen i
structure QO (w wr:World) (d b g fb n f k:Nat) (A:Option Addr) (c:Nat):Prop where
 blk:ak wr d 198 #[.pointer (some ⟨b,0,none⟩),.slice A k c,.slice (some ⟨fb,0,none⟩) f f,.int .i64 0,.int .i64 0,.bool true,.bool false,.int .i64 0]
 mem:DV wr b g (List.replicate n Sec.blank)
 fr:ak wr fb 4 (madeCells #[.bool false] f)
 row:wr.ownsRow (d+1) 9 1 (.slice A k c) k (strCells (List.replicate k zero32))
 bel:Below w.heap.size w wr
 hd:w.heap.size<=d
 hg:w.heap.size<=g
 hf:w.heap.size<=fb
 lt:d<wr.heap.size
theorem QO.on {w wr w':World} {d b g fb n f k:Nat} {A:Option Addr} {c:Nat} (h:QO w wr d b g fb n f k A c) (hB:Below wr.heap.size wr w'):QO w w' d b g fb n f k A c:=
 ⟨h.blk.below hB h.blk.lt,h.mem.below hB h.mem.lt.1 h.mem.lt.2,h.fr.below hB h.fr.lt,ownsRow_below h.row hB (aF _),h.bel.trans (hB.mono h.bel.size),h.hd,h.hg,h.hf,rY h.lt hB.size⟩
theorem QO.next {w wr w3:World} {d b g fb n f k:Nat} {A:Option Addr} {c g' c':Nat} (h:QO w wr d b g fb n f k A c)
  (hown:w3.ownsRow (d+1) 9 1 (.slice (some ⟨g',0,none⟩) (k+1) c') (k+1) (strCells (List.replicate k zero32)++ [.string zero32])) (hg:wr.grownBy w3 (Value.slice A k c).ownBlock):
  QO w (w3.setCell ⟨d,1,none⟩ (.slice (some ⟨g',0,none⟩) (k+1) c')) d b g fb n f (k+1) (some ⟨g',0,none⟩) c':=by
 have hne:∀ j,j<=d->some j≠(Value.slice A k c).ownBlock:=fun j hj e=>by
  have:=(h.row.lt j e.symm).1;omega
 have hty:∀ j t cs,ak wr j t cs->t≠9->some j≠(Value.slice A k c).ownBlock:=fun j t cs hj ht e=>aA h.row hj (fun e=>ht e.symm) e.symm
 obtain⟨cap,cur,m1,m2,_⟩:=h.mem.body;have b3:=h.blk.grown hg (hty _ _ _ h.blk (by decide));have hg2:=au w3 d 1 (.slice (some ⟨g',0,none⟩) (k+1) c');have mm:=h.mem.grown hg (hty _ _ _ m1 (by decide)) (hty _ _ _ m2 (by decide));obtain⟨cap3,aq7,m31,m32,_⟩:=mm.body;have ff:=h.fr.grown hg (hty _ _ _ h.fr (by decide));have bb:Below w.heap.size w w3:=h.bel.grown hg h.bel.size (fun j e=>by have:=(h.row.lt j e).1;have:=h.hd;omega);refine⟨b3.aB 1 _,mm.grown hg2 (fun e=>m31.gY b3 (by decide) (Option.some.inj e)) (fun e=>m32.gY b3 (by decide) (Option.some.inj e)),ff.grown hg2 (fun e=>ff.gY b3 (by decide) (Option.some.inj e)),?_,bb.setCell (p:=⟨d,1,none⟩) h.hd _,h.hd,h.hg,h.hf,by have h1:=hg.size;have:=h.lt;have h2:=hg2.size;omega⟩;have e:strCells (List.replicate (k+1) zero32)=strCells (List.replicate k zero32)++ [.string zero32]:=by rw[List.replicate_succ',jE]
 rw[e];exact hown.kept hg2 (.inr (aA hown b3 (by decide)))
theorem abG (w:World) (n s f:Nat) (hn:1<=n/\n<=4096) (hs:1<=s/\s<=16) (hf:1<=f/\f<=16):
  Calls Tryz.prog 99 #[.int .i64 n,.int .i64 s,.int .i64 f] w fun e w'=>∃ a:nP,e= .returned (.tuple #[.pointer (some ⟨a.d,0,none⟩),.int .i64 0])/\pV w' a (dN n s f)/\(w.heap.size<=a.d/\w.heap.size<=a.g/\w.heap.size<=a.sb/\w.heap.size<=a.fb)/\Below w.heap.size w w':=by
 obtain⟨i0,hi,hz0,hz1,hz2⟩:=info_parts iw;have HM:=zh (aee w n hn.1 hn.2);have d1:decide ((n:Int)<1)=false:=dF (by omega);have d2:decide (4096<(n:Int))=false:=dF (by omega);have d3:decide ((s:Int)<1)=false:=dF (by omega);have d4:decide (16<(s:Int))=false:=dF (by omega);have d5:decide ((f:Int)<1)=false:=dF (by omega);have d6:decide (16<(f:Int))=false:=dF (by omega);have k2:∀ wx,(Instr.makeSlice 84 (.int .i64 f) (.int .i64 f)).run Tryz.prog wx= .ok (.slice (some ⟨wx.heap.size,0,none⟩) f f) (wx.alloc (.cells (madeCells #[.bool false] f) 4)):=fun wx=>run_make_row' 84 4 _ 1 Tryz.underlying84 Pn rfl .i64 .i64 f (by omega) (by omega) wx
 have Hn:=zh (And.intro hn (And.intro hs hf));clear hn hs hf;go_enter Tryz.func99,Tryz.ntmps99;go_wp2_with (go_at_call 136;refine HM.out.mono ?_;rintro e w1 ⟨b,g,rfl,l1,l2,hM,hB⟩);have hsz:=hB.size;have hs1:(w1.alloc (.cells (madeCells #[.bool false] f) 4)).heap.size=w1.heap.size+1:=by simp
 have hk1:=ak.new w1 4 (madeCells #[.bool false] f);have hB1:Below w1.heap.size w1 (w1.alloc (.cells (madeCells #[.bool false] f) 4)):=(bK _ _).alloc (aF _) _;generalize w1.alloc (.cells (madeCells #[.bool false] f) 4)=w2 at hs1 hk1 hB1 ⊢;have hk2:=ak.new w2 198 #[.pointer (some ⟨b,0,none⟩),.slice none 0 0,.slice (some ⟨w1.heap.size,0,none⟩) f f,.int .i64 0,.int .i64 0,.bool true,.bool false,.int .i64 0];have hB2:=hB1.alloc (by omega) (.cells #[.pointer (some ⟨b,0,none⟩),.slice none 0 0,.slice (some ⟨w1.heap.size,0,none⟩) f f,.int .i64 0,.int .i64 0,.bool true,.bool false,.int .i64 0] 198);have ag3:=hk1.alloc (.cells #[.pointer (some ⟨b,0,none⟩),.slice none 0 0,.slice (some ⟨w1.heap.size,0,none⟩) f f,.int .i64 0,.int .i64 0,.bool true,.bool false,.int .i64 0] 198);rw[hs1] at hk2;generalize w2.alloc (.cells #[.pointer (some ⟨b,0,none⟩),.slice none 0 0,.slice (some ⟨w1.heap.size,0,none⟩) f f,.int .i64 0,.int .i64 0,.bool true,.bool false,.int .i64 0] 198)=w3 at ag3 hk2 hB2 ⊢;have H0:Hid (QO w w3 (w1.heap.size+1) b g w1.heap.size n f 0 none 0):=⟨hk2,hM.below hB2 hM.lt.1 hM.lt.2,ag3,Ju _ _ _ _,hB.trans (hB2.mono hsz),by omega,l2,hsz,hk2.lt⟩;obtain⟨d,hd⟩:∃ d,w1.heap.size+1=d:=⟨_,rfl⟩;rw[hd] at H0;have Hd:=zh hd
 (try rw[hd])
 generalize w1.heap.size=fb at H0 Hd ⊢;clear hs1 hk1 ag3 hB1 hk2 hB2 hM hB l1 l2 hsz hd k2;go_wp2_with fail;go_loopw [11] (fun i wr=>∃ (k:Nat) (A:Option Addr) (c:Nat),k<=s/\i= .int .i64 k/\Hid (QO w wr d b g fb n f k A c)) (fun i _=>s-(intOf i).toNat)
 case atStart=>exact⟨0,none,0,iT _,rfl,H0⟩
 case round=>
  obtain⟨k,A,c,hk,rfl,hR⟩:=hrel;clear H0;by_cases hks:k<s
  ·have hd0:decide (k<s)=true:=pW hks;have y1:wr.cell? ⟨d,1,none⟩=some (.slice A k c):=hR.out.blk.cell 1;have Hks:=zh (And.intro hks Hn.out.2.1.2);have hle:Hid (k+1<=maxLen):=by have:=Hks.out;unfold Hid maxLen;omega
   have hb16:(k+1)*16<=140737488355328:=by have:=Hks.out;omega
   have agu:(k:Int)<16:=by have:=Hks.out;omega
   clear hks;go_wp2_with fail
   go_region_law (first | (go_simp;go_at_call 137;refine(UY _).mono ?_;rintro e w9 ⟨rfl,oC⟩;have h9:=hR.out.on ((bK _ wr).drew.trans oC);have y9:w9.cell? ⟨d,1,none⟩=some (.slice A k c):=h9.blk.cell 1;have Hra:=zh (h9.row.alloc (.cells #[.string zero32] 9));have Hnw:=zh (gG (ak.new w9 9 #[.string zero32]));have Hba:=zh (h9.blk.alloc (.cells #[.string zero32] 9));have hya:(w9.alloc (.cells #[.string zero32] 9)).cell? ⟨d,1,none⟩=some (.slice A k c):=Hba.out.cell 1;have hba:d+1<=(w9.alloc (.cells #[.string zero32] 9)).heap.size:=(by have:=h9.lt;simp;omega);have hno:some d≠(Value.slice A k c).ownBlock:=(fun e=>aA h9.row h9.blk (by decide) e.symm);have H9:=zh (h9.on ((bK _ w9).alloc (aF _) (.cells #[.string zero32] 9)));clear h9 oC) | (refine step_append_lies _ (by rfl) _ _ _ (by rfl) (d+1) 9 i0 _ 1 16 Tryz.underlying35 hi hz0 hz1 hz2 rfl (by omega) (.slice A k c) k (strCells (List.replicate k zero32)) (by rfl) Hra.out ⟨w9.heap.size,0,none⟩ 1 1 [.string zero32] (by rfl) (by rfl) Hnw.out (by simp[Value.oneCell']) (by decide) hle.out hb16 hba (w9.heap.size+1) (by simp) ?_;intro g2 cap2 w10 hown1 hgrow hat hlt3;have hc3:=hgrow.cell hya hno;have hf3:=frozen_kept (i:=1) Hba.out hgrow hno))
   all_goals
    have hN:=zh (H9.out.next hown1 hgrow);clear hown1 hgrow hat hlt3 hc3 hf3 Hra Hnw Hba hya hba hno H9 hR y1 y9 hle hb16;generalize w10.setCell ⟨d,1,none⟩ (.slice (some ⟨g2,0,none⟩) (k+1) cap2)=ZU at hN ⊢;go_wp2_with fail;go_roundw
    case rel=>exact⟨k+1,_,_,Hks.out.1,by go_num,hN⟩
    case measure=>have:=Hks.out.1;simp[intOf];omega
  ·obtain rfl:s=k:=by omega
   have hd0:decide (s<s)=false:=dF (by omega);clear hks hk;go_wp2_with fail;go_ret2;obtain⟨hb,hm,hfr,hrow,hbel,h1,h2,h3,h4⟩:=hR.out;have hs0:1<=s:=Hn.out.2.1.1;obtain⟨sb,rfl⟩:∃ sb,A=some ⟨sb,0,none⟩:=by
    rcases hrow.2 with⟨_,h0⟩ | ⟨gb,cap,_,e,_⟩
    ·omega
    ·cases e;exact⟨gb,rfl⟩
   have e1:=(hrow.lt sb rfl).1;have r2:=Gv _ hfr Hn.out.2.2.2;refine⟨⟨d,b,g,sb,c,fb,f⟩,rfl,⟨0,?_,hm,?_,?_,fun e=>absurd e (by show ¬ (0:Int)<= -1;decide)⟩,⟨h1,h2,by dsimp only;omega,h3⟩,hbel⟩
   ·simpa [dN] using hb
   ·simpa [dN] using jT hrow
   ·simpa [dN,yL] using r2
end Go.Proofs.YtpghocekofdpbaaGreatDoor
