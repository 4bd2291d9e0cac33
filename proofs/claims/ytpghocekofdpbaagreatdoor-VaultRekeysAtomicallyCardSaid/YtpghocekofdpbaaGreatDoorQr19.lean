import Derived.Test.YtpghocekofdpbaaGreatDoorQr14
import Derived.Test.YtpghocekofdpbaaGreatDoorQr07
namespace Go.Proofs.YtpghocekofdpbaaGreatDoor.Sec
open Go.Shelf Go.RowKit
theorem sizeBuilder:(Tryz.prog.info? 188).map (·.size)=some 2:=by kernel_rfl
theorem liesBuilder:liesAt Tryz.prog Tryz.prog.depth 188 (2/Tryz.prog.cellsOf 188) 0 188 1=true:=by kernel_rfl
set_option maxHeartbeats 1000000 in
set_option maxRecDepth 100000 in
theorem qW (b:Nat) (w:World) (h0:w.cell? ⟨b,0,none⟩=some (.pointer (some ⟨b,0,none⟩))):
  Calls Tryz.prog 161 #[.pointer (some ⟨b,0,none⟩)] w fun e w'=>e= .returned (.tuple #[])/\w'=w:=by
 obtain⟨j,hj,_⟩:=Option.map_eq_some_iff.1 sizeBuilder;go_enter Tryz.func161,Tryz.ntmps161
 go_wp2
 rw[Lib.run_neq_ptr_same w _ Tryz.underlying186 hj]
 go_wp2
 go_end0;exact⟨rfl,rfl⟩
set_option maxHeartbeats 1000000 in
set_option maxRecDepth 100000 in
theorem pO (b:Nat) (w:World) (h0:w.cell? ⟨b,0,none⟩=some (.pointer none)) (hsh:w.shape? b=some (188,2)) (hfz:w.frozen? ⟨b,0,none⟩=false):
  Calls Tryz.prog 161 #[.pointer (some ⟨b,0,none⟩)] w fun e w'=>e= .returned (.tuple #[])/\w'=w.setCell ⟨b,0,none⟩ (.pointer (some ⟨b,0,none⟩)):=by
 obtain⟨j,hj,hjs⟩:=Option.map_eq_some_iff.1 sizeBuilder;go_enter Tryz.func161,Tryz.ntmps161
 go_wp2
 rw[Lib.run_to_unsafe w ⟨b,0,none⟩ Tryz.underlying186 Tryz.underlying244 hj (by rw[hjs];decide) hsh (Nat.zero_lt_succ 1)];simp only[Result.andThen];rw[Oper.upon_value]
 go_wp2
 rw[run_callFunc_extern Tryz.func178 (by kernel_rfl) (by kernel_rfl) (by kernel_rfl) (e:=Extern.AbiNoEscape.same) (by kernel_rfl)];rw[Lib.run_noEscape];simp only[Result.andThen];rw[Oper.upon_value]
 go_wp2
 rw[Lib.run_from_unsafe w ⟨b,0,none⟩ Tryz.underlying244 Tryz.underlying186 hj hsh liesBuilder];simp only[Result.andThen];rw[Oper.upon_value]
 go_wp2
 go_end0;exact⟨rfl,rfl⟩
theorem tq (B b:Nat) (bs:List Value) (w:World) (h:Lib.IsBuilder 188 5 B b bs w):
  Calls Tryz.prog 161 #[.pointer (some ⟨b,0,none⟩)] w fun e w'=>e= .returned (.tuple #[])/\(Lib.BuilderAt 188 5 B b (.pointer (some ⟨b,0,none⟩)) bs w'/\Below B w w'):=by
 rcases h with h | h
 ·refine(pO b w h.cell0 h.shape h.frozen0).mono ?_;rintro e w' ⟨rfl,rfl⟩;exact⟨rfl,h.used _,(bK B w).setCell (p:=⟨b,0,none⟩) h.1 _⟩
 ·refine(qW b w h.cell0).mono ?_;rintro e w' ⟨rfl,rfl⟩;exact⟨rfl,h,bK B _⟩
set_option maxHeartbeats 1000000 in
set_option maxRecDepth 100000 in
theorem qX (B b:Nat) (bs:List Value) (s:ByteArray) (w:World) (h:Lib.IsBuilder 188 5 B b bs w) (hlen:bs.length+s.size<=140737488355328) (hBw:B<=w.heap.size):
  Calls Tryz.prog 132 #[.pointer (some ⟨b,0,none⟩),.string s] w fun e w'=>e= .returned (.tuple #[.int .i64 s.size,.nilIface])/\(Lib.BuilderAt 188 5 B b (.pointer (some ⟨b,0,none⟩)) (bs++Lib.strCells s) w'/\Below B w w'):=by
 obtain⟨i0,hi,hz0,hz1,hz2⟩:=info_parts tK;go_enter Tryz.func132,Tryz.ntmps132;go_wp2_with (first | (go_at_call 161;refine(tq B b bs _ h).mono ?_;rintro e w1 ⟨rfl,h1,hb1⟩;obtain⟨hB,v,hbk,hown,hne⟩:=h1;have c0:w1.cell? ⟨b,0,none⟩=some (.pointer (some ⟨b,0,none⟩)):=(by rw[Lib.cell_of_heap hbk];rfl);have c1:w1.cell? ⟨b,1,none⟩=some v:=(by rw[Lib.cell_of_heap hbk];rfl)) | (at_builtin;refine Lib.wpList_append_own_string _ rfl _ _ 66 9 rfl B 5 i0 Tryz.underlying66 Tryz.underlying9 hi hz0 hz1 hz2 _ _ _ rfl hown s rfl ?c3 ?c4 ?c5 ?_))
 case c3=>unfold maxLen;omega
 case c4=>omega
 case c5=>have:=hb1.size;omega
 intro v' w2 hown' hgrow _;have hlt:b<w1.heap.size:=by
  rcases Nat.lt_or_ge b w1.heap.size with h' | h'
  ·exact h'
  ·simp[Array.getElem?_eq_none h'] at hbk
 have hb2:w2.heap[b]? =some (.cells #[.pointer (some ⟨b,0,none⟩),v] 188 (0,0)):=by
  rw[hgrow.block b hlt (fun e=>hne e.symm)];exact hbk
 have d0:w2.cell? ⟨b,0,none⟩=some (.pointer (some ⟨b,0,none⟩)):=by rw[Lib.cell_of_heap hb2];rfl
 have d1:w2.cell? ⟨b,1,none⟩=some v:=by rw[Lib.cell_of_heap hb2];rfl
 have f1:w2.frozen? ⟨b,1,none⟩=false:=Lib.frozen_of_heap hb2 1;obtain⟨ao,n',cap,rfl⟩:∃ ao n' cap,v'= .slice ao n' cap:=by
  rcases hown'.2 with⟨hv,_⟩ | ⟨g,cap,cur,hv,_⟩
  ·exact⟨_,_,_,hv⟩
  ·exact⟨_,_,_,hv⟩
 go_wp2
 go_ret2;refine⟨rfl,?_,?_⟩
 ·exact Lib.BuilderAt.put (T:=188) (e:=5) hB hb2 (bs':=bs++Lib.strCells s) (by simpa [Lib.strCells_length] using hown') (by decide)
 ·exact(hb1.grown hgrow (by have:=hb1.size;omega) (fun k hk=>(hown.lt k hk).1)).setCell (p:=⟨b,1,none⟩) hB _
end Go.Proofs.YtpghocekofdpbaaGreatDoor.Sec
namespace Go.Proofs.YtpghocekofdpbaaGreatDoor.Sec
open Go.RowKit Go.Shelf
attribute [local go_sem] Oper.semAt_some
def strCells (l:List ByteArray):List Value:=l.map Value.string
theorem jE (l:List ByteArray) (x:ByteArray):strCells (l++ [x])=strCells l++ [.string x]:=by simp[strCells]
theorem vT (l:List ByteArray):(strCells l).length=l.length:=by simp[strCells]
theorem iw:(Tryz.prog.info? 9).map (fun i=>(i.zero,i.size,i.bytes))=some (some (.string ⟨#[]⟩),1,16):=by kernel_rfl
def o8 (w w':World) (v:Value) (l:List ByteArray):Prop:=w'.ownsRow w.heap.size 9 1 v l.length (strCells l)/\(v= .slice none 0 0 ↔ l= [])/\Below w.heap.size w w'
theorem Qc (w:World) (number:Int) (rec:ByteArray):Calls Tryz.prog 154 #[.int .i64 number,.string rec] w fun e w'=>
  e= .returned (.func (.func 175) #[] #[.pointer (some ⟨w.heap.size+1,0,none⟩),.pointer (some ⟨w.heap.size,0,none⟩)])/\w'=(w.alloc (.cells #[.int .i64 number] 3)).alloc (.cells #[.string rec] 9):=by
 go_enter Tryz.func154,Tryz.ntmps154;go_wp2_with fail;go_ret;exact⟨rfl,rfl⟩
theorem vU {w:World} {base base':Nat} {e:TypeId} {size:Nat} {v:Value} {n:Nat} {xs:List Value} (h:w.ownsRow base e size v n xs) (hb:base'<=base):w.ownsRow base' e size v n xs:=by
 refine⟨h.1,?_⟩;rcases h.2 with h2 | ⟨g,cap,cur,hv,hg,r⟩
 ·exact .inl h2
 ·exact .inr ⟨g,cap,cur,hv,fU hb hg,r⟩
theorem Aq {W w1:World} {B B':Nat} {t:TypeId} {u v:Value} {tmp:Obj} (h:Boxed W B' t u) (hnv:some B'≠v.ownBlock)
  (hgrow:(W.alloc tmp).grownBy w1 v.ownBlock) (hne:B'≠B) (v':Value):Boxed (w1.setCell ⟨B,0,none⟩ v') B' t u:=
 ((h.alloc tmp).kept hgrow hnv).kept (grownBy_setCell' w1 B v') (fun e=>hne (by cases e;rfl))
def Packing (w:World) (number:Nat) (rec:ByteArray) (pre:List Nat) (W:World):Prop:=
 (∃ v,Boxed W w.heap.size 35 v/\W.ownsRow (w.heap.size+3) 9 1 v pre.length (strCells (pre.map (gJ number rec)))/\(v= .slice none 0 0 ↔ pre= []))/\
  Boxed W (w.heap.size+1) 3 (.int .i64 number)/\Boxed W (w.heap.size+1+1) 9 (.string rec)/\Below w.heap.size w W
theorem Qd (w:World) (number:Nat) (rec:ByteArray):OwnFrom (w.heap.size+3) (Packing w number rec):=by
 rintro pre W W' row ⟨⟨v,h1,h2,h3⟩,h4,h5,h7⟩ hgr hr;refine⟨⟨v,h1.kept hgr ?_,h2.kept hgr ?_,h3⟩,h4.kept hgr ?_,h5.kept hgr ?_,h7.grown hgr h7.size ?_⟩
 ·intro e;have:=(hr _ e.symm).1;omega
 ·rcases h2.2 with⟨rfl,_⟩ | ⟨g,cap,cur,rfl,_,hgb,_⟩
  ·exact .inl rfl
  ·refine .inr fun e'=>?_
   obtain⟨o,ho,hc⟩:=(hr g (by simpa [Value.ownBlock] using e'.symm)).2;rw[hgb] at ho;cases ho;cases hc
 ·intro e;have:=(hr _ e.symm).1;omega
 ·intro e;have:=(hr _ e.symm).1;omega
 ·intro j e;have:=(hr j e).1;omega
theorem NG (w:World) (number:Nat) (rec:ByteArray) (pre:List Nat) (W:World) (h:Packing w number rec pre W):WQ (w.heap.size+1+1) (w.heap.size+1) number rec W:=⟨h.2.2.1.cell,h.2.1.cell⟩
theorem qp {fn:Func} {p q:Tmp} (h:fn.results= #[.cell p 35,.tmp q]) (tmps:Array Value) (w:World) (g:Nat) (v:Value) (hp:tmps.getD p undef= .pointer (some ⟨g,0,none⟩)) (hc:w.cell? ⟨g,0,none⟩=some v):
  (results fn tmps).run Tryz.prog w= .ok (.tuple #[v,tmps.getD q undef]) w:=by
 rw[results_cell_tmp h,hp];simp[loadVar,asAddr,go_sem,hc]
set_option maxRecDepth 100000 in
set_option maxHeartbeats 4000000 in
theorem adU (w:World) (number:Nat) (rec:ByteArray) (h1:1<=number) (h2:number<=bn) (hr:rec.size<=8000):
  Calls Tryz.prog 123 #[.int .i64 number,.string rec] w fun e w'=>∃ v,e= .returned (.tuple #[v,.int .i64 0])/\o8 w w' v ((List.range (aj rec.size)).map (gJ number rec)):=by
 obtain⟨i0,hi,hz0,hz1,hz2⟩:=info_parts iw;have d1:decide ((number:Int)<1)=false:=dF (by omega);have d2:decide (4611686018427387904<(number:Int))=false:=dF (by unfold bn at h2;omega);have d3:decide (8000<(rec.size:Int))=false:=dF (by omega);refine(callsIn_wide (n:=4)).1 ?_;refine callsIn_of_wp_marks Tryz.func123 rfl trivial ?_ rfl;simp only[Tryz.ntmps123,mG,AY,zag,Nat.reduceAdd,Nat.reduceSub,Array.replicate_succ,Array.replicate_zero,List.push_toArray,List.append_toArray,GI,List.cons_append];gi_wp2_with (refine⟨trivial,?_⟩;gi_at_call 154;refine(callsIn_wide.2 (Qc _ _ _)).mono ?_;rintro e w' ⟨rfl,rfl⟩);have bO:=Boxed.new w 35 (.slice none 0 0);have bM:=Boxed.new (w.alloc (.cells #[.slice none 0 0] 35)) 3 (.int .i64 number);have bI:=Boxed.new ((w.alloc (.cells #[.slice none 0 0] 35)).alloc (.cells #[.int .i64 number] 3)) 9 (.string rec);rw[oz] at bM;rw[oz,oz] at bI;have bO3:=(bO.alloc (.cells #[.int .i64 number] 3)).alloc (.cells #[.string rec] 9);have bM3:=bM.alloc (.cells #[.string rec] 9);obtain⟨w0,hw0⟩:∃ w0,((w.alloc (.cells #[.slice none 0 0] 35)).alloc (.cells #[.int .i64 number] 3)).alloc (.cells #[.string rec] 9)=w0:=⟨_,rfl⟩;have hs0:w0.heap.size=w.heap.size+3:=by rw[<-hw0];simp
 have hB0:Below w.heap.size w w0:=by rw[<-hw0];exact(((bK _ w).alloc (aF _) _).alloc (by simp) _).alloc (by simp;omega) _
 rw[hw0] at bO3 bM3 bI;rw[hw0];have ao0:aj rec.size<=182:=by unfold aj;omega
 refine xO rfl (by decide) (gf:=175) (lb:= #[.pointer (some ⟨w.heap.size+1+1,0,none⟩),.pointer (some ⟨w.heap.size+1,0,none⟩)]) rfl trivial (enters_of Tryz.func175 (by kernel_rfl) rfl)
  (Qb 3 (by decide) (w.heap.size+1+1) (w.heap.size+1) number rec h1 h2 hr) (fun _=>rfl)
  (Packing w number rec) (hs0 ▸ Qd w number rec) (NG w number rec)
  ⟨⟨_,bO3,Ju _ _ _ _,by simp⟩,bM3,bI,hB0⟩
  (fun i=> { tmps:= #[.int .i64 number,.string rec,undef,undef,.pointer (some ⟨w.heap.size,0,none⟩),.int .i64 0,.string (gJ number rec i),.bool false,.int .i64 number,.bool false,.bool false,.int .i64 number,.bool false,.bool false,.bool false,.string rec,.int .i64 rec.size,.bool false,.int .i64 number,.string rec,
   .func (.func 175) #[] #[.pointer (some ⟨w.heap.size+1+1,0,none⟩),.pointer (some ⟨w.heap.size+1,0,none⟩)],.string (gJ number rec i),undef,undef,undef,undef,undef],defers:= [] }) ?assign ?body ?done
 case assign=>
  intro l x W K hK
  gi_wp2
  exact hK
 case body=>
  rintro l pre x W ⟨⟨v,hv,hrow,hnil⟩,hm,hi',hB⟩ ⟨hx,hpre⟩;have hpl:pre.length=x:=by rw[hpre,List.length_range]
  have hc:=hv.cell;clear hpre;obtain⟨tx,htx⟩:∃ tx,gJ number rec x=tx:=⟨_,rfl⟩;have HTX:=zh htx;rw[htx];clear htx;have hWs:=hi'.lt;have hn2:some (w.heap.size+1+1)≠v.ownBlock:=fun e=>by have:=(hrow.lt _ e.symm).1;omega
  have hn1:some (w.heap.size+1)≠v.ownBlock:=fun e=>by have:=(hrow.lt _ e.symm).1;omega
  have hlen:pre.length+1<=1000:=by omega
  have HPL:=zh hpl;clear hpl;gi_wp2_with (gi_at_builtin;refine wpListIn_append_own _ rfl _ _ 35 rfl (w.heap.size+3) 9 i0 (.string ⟨#[]⟩) 1 16 Tryz.underlying35 hi hz0 hz1 hz2 rfl (by decide) _ _ _ rfl (hrow.alloc _) ⟨W.heap.size,0,none⟩ 1 1 [.string tx] rfl rfl (cell_one_new _ _ _) (by simp[Value.oneCell']) (by unfold maxLen;omega) (by omega) (by simp;omega) ?_;intro v' w1 hown' hgrow _;obtain⟨g',cap',rfl⟩:=ownsRow_succ hown';obtain⟨hv1,hv2,_,hk2,hb2⟩:=hv.appended (by decide) (vU hrow (Nat.le_add_right _ 3)) hB.size (aF _) (vU hown' (Nat.le_add_right _ 3)) hgrow;have hr2:=hown'.kept (grownBy_setCell' w1 w.heap.size (.slice (some ⟨g',0,none⟩) (pre.length+1) cap')) (.inr (hv1.not_row (by decide) hown').symm);have hm1:=Aq hm hn1 hgrow (by omega:w.heap.size+1≠w.heap.size) (.slice (some ⟨g',0,none⟩) (pre.length+1) cap');have hi1:=Aq hi' hn2 hgrow (by omega:w.heap.size+1+1≠w.heap.size) (.slice (some ⟨g',0,none⟩) (pre.length+1) cap');have hc1:=hv1.cell;have hf1:=hv1.frozen);refine⟨hk2,⟨_,hv2,?_,by simp⟩,hm1,hi1,hB.trans hb2⟩;rw[kM,Gh,List.map_cons,List.map_nil,HTX.out,jE];exact hr2
 case done=>
  rintro D xs W hD rfl ⟨⟨v,hv,hrow,hnil⟩,hm,hi',hB⟩ hK;obtain⟨A,c,rfl⟩:=aJ hrow;have hc:=hv.cell;have hf:=hv.frozen
  gi_wp2
  have hlen:(List.range (aj rec.size)).length=aj rec.size:=List.length_range;have hK2:(W.setCell ⟨w.heap.size,0,none⟩ (.slice A (List.range (aj rec.size)).length c)).heap[D]? =some (.deferred (some [])):=(KeepsOthers.setCell _ _ _).same D _ hK rfl;have hB2:=hB.setCell (p:=⟨w.heap.size,0,none⟩) (aF _) (.slice A (List.range (aj rec.size)).length c);have hr2:=hrow.kept (grownBy_setCell' W w.heap.size (.slice A (List.range (aj rec.size)).length c)) (.inr (hv.not_row (by decide) hrow).symm);have hv2:=hv.set (.slice A (List.range (aj rec.size)).length c);rw[hlen] at hK2 hB2 hr2 hv2 hnil;refine⟨by simp,.inl ⟨_,_,rfl,run_takeDeferred hK2,?_⟩⟩;refine⟨_,qp (p:=4) (q:=5) rfl _ _ w.heap.size _ rfl (cell_kept hv2.cell (grownBy_putObj' _ D (.deferred none)) (fun r e=>by cases e;exact⟨_,hK2,rfl⟩)),_,rfl,?_,?_,?_⟩
  ·rw[lq,hlen];exact ownsRow_putObj (vU hr2 (Nat.le_add_right _ 3)) _ hK2 rfl
  ·rw[hnil];simp
  ·exact hB2.trans (belowK_b (w:=w) (aF _) _ D _ _ (by omega) hK2 rfl rfl)
end Go.Proofs.YtpghocekofdpbaaGreatDoor.Sec
namespace Go.Proofs.YtpghocekofdpbaaGreatDoor.Sec
open Go.RowKit Go.Shelf
attribute [local go_sem] Oper.semAt_some
def bW (a b c:Int) (t:ByteArray):Value:= .agg #[.int .i64 a,.int .i64 b,.int .i64 c,.string t]
theorem aaZ (l:List UInt8) (h:l.all (· ==0)=true):Lib.trimB l 0= []:=by
 unfold Lib.trimB Lib.trimRightB Lib.trimLeftB;have h2:∀ m:List UInt8,m.all (· ==0)=true->m.dropWhile (· ==0)= []:=by
  intro m
  induction m with
  | nil=>intro _;rfl
  | cons a r ih=>intro hm;rw[List.all_cons,Bool.and_eq_true] at hm;rw[List.dropWhile_cons,if_pos hm.1];exact ih hm.2
 rw[h2 l.reverse (by rw[List.all_reverse];exact h)];rfl
theorem Yq (l:List UInt8) (h:l.all (· ==0)=false):Lib.trimB l 0≠ []:=by
 have h2:∀ m:List UInt8,m.all (· ==0)=false->m.dropWhile (· ==0)≠ []/\(m.dropWhile (· ==0)).all (· ==0)=false:=by
  intro m
  induction m with
  | nil=>intro e;cases e
  | cons a r ih=>
   intro hm;rw[List.dropWhile_cons];by_cases ha:(a==0)=true
   ·rw[if_pos ha];rw[List.all_cons,ha,Bool.true_and] at hm;exact ih hm
   ·rw[if_neg ha];exact⟨by simp,hm⟩
 unfold Lib.trimB Lib.trimRightB Lib.trimLeftB;have h3:=(h2 l.reverse (by rw[List.all_reverse];exact h)).2;exact(h2 _ (by rw[List.all_reverse];exact h3)).1
theorem Yr (s:ByteArray) (w:World) (hs:s.size<=1000) (h:s.data.toList.all (· ==0)=true):
  Calls Tryz.prog 186 #[.string s,.string ⟨#[0]⟩] w fun e w'=>e= .returned (.string ⟨#[]⟩)/\∃ q,w'=w.drewN q:=by
 refine(Tryz.strings_Trim_one s 0 (by decide) w (by omega)).mono ?_;rintro e w' ⟨rfl,hw⟩;refine⟨by rw[aaZ _ h],?_⟩;rcases hw with rfl | rfl
 ·exact⟨0,rfl⟩
 ·exact⟨1,rfl⟩
theorem Yt (s:ByteArray) (w:World) (hs:s.size<=1000) (h:s.data.toList.all (· ==0)=false):
  Calls Tryz.prog 186 #[.string s,.string ⟨#[0]⟩] w fun e w'=>∃ y:ByteArray,e= .returned (.string y)/\y.toList.isEmpty=false/\∃ q,w'=w.drewN q:=by
 refine(Tryz.strings_Trim_one s 0 (by decide) w (by omega)).mono ?_;rintro e w' ⟨rfl,hw⟩;refine⟨_,rfl,?_,?_⟩
 ·have:=Yq _ h;cases hl:Lib.trimB s.data.toList 0 with
  | nil=>exact absurd hl this
  | cons a r=>simp
 rcases hw with rfl | rfl
 ·exact⟨0,rfl⟩
 ·exact⟨1,rfl⟩
theorem clone_any (s:ByteArray) (w:World) (hs:s.size<=1000):Calls Tryz.prog 187 #[.string s] w fun e w'=>e= .returned (.string s)/\Below w.heap.size w w':=by
 go_enter Tryz.func187,Tryz.ntmps187;go_wp2_with (go_at_call 199;refine(Tryz.stringslite_Clone s _ (by omega)).mono ?_;rintro e w' ⟨rfl,hB⟩);go_ret;exact⟨rfl,hB⟩
set_option maxRecDepth 100000 in
set_option maxHeartbeats 4000000 in
theorem Yu (s:ByteArray) (w:World) (hs:s.size≠64):
  Calls Tryz.prog 170 #[.string s] w fun e w'=>e= .returned (.tuple #[bW 0 0 0 ⟨#[]⟩,.int .i64 1])/\Below w.heap.size w w':=by
 have h1:((s.size:Int) !=64)=true:=nX (by omega);clear hs;go_enter Tryz.func170,Tryz.ntmps170;go_wp2_with fail;exact bU (v:= .tuple #[bW 0 0 0 ⟨#[]⟩,.int .i64 1]) (dA (p:=2) (q:=3) rfl _ _ w.heap.size 235 #[.int .i64 0,.int .i64 0,.int .i64 0,.string ⟨#[]⟩] _ rfl (ak.new _ _ _) Tryz.underlying235 rfl (by kernel_rfl)) rfl ⟨rfl,(bK _ _).alloc (aF _) _⟩
theorem WL {G R:Prop} (h:G->R) (g:G):R:=h g
structure Cut (s:ByteArray) (N P L:Nat):Prop where
 size:s.size=64
 num:bQ (s.extract 0 8).data.toList=N
 part:bQ (s.extract 8 10).data.toList=P
 left:bQ (s.extract 10 12).data.toList=L
theorem Cut.lt2 {s:ByteArray} {N P L:Nat} (h:Cut s N P L):P<65536:=by
 have:=GH (s.extract 8 10).data.toList;rw[h.part] at this;have h2:(s.extract 8 10).data.toList.length=2:=by rw[Di];show(s.extract 8 10).size=2;rw[WJ,h.size];rfl
 rw[h2] at this;omega
theorem Cut.lt3 {s:ByteArray} {N P L:Nat} (h:Cut s N P L):L<65536:=by
 have:=GH (s.extract 10 12).data.toList;rw[h.left] at this;have h2:(s.extract 10 12).data.toList.length=2:=by rw[Di];show(s.extract 10 12).size=2;rw[WJ,h.size];rfl
 rw[h2] at this;omega
def okB (s:ByteArray) (N P L:Nat):Bool:=
 ((s.extract 0 8).toList==(s.extract 56 64).toList) && (decide (1<=N) && (decide (N<=bn) && (decide (P*44+L<=8000) && ((decide (P=0) || decide (0<L)) && ((s.extract 12 56).extract (min L 44) 44).data.toList.all (· ==0)))))
def EI (s:ByteArray) (N P L:Nat):Value:=if okB s N P L=true then bW N P L ((s.extract 12 56).extract 0 (min L 44)) else bW 0 0 0 ⟨#[]⟩
def dH (s:ByteArray) (N P L:Nat):Int:=if okB s N P L=true then 0 else 7
theorem dV {s:ByteArray} {N P L:Nat} (h:okB s N P L=false):EI s N P L=bW 0 0 0 ⟨#[]⟩/\dH s N P L=7:=by
 unfold EI dH;rw[h];exact⟨rfl,rfl⟩
theorem yX {s:ByteArray} {N P L n:Nat} (hn:n=min L 44) (h:okB s N P L=true):EI s N P L=bW N P L ((s.extract 12 56).extract 0 n)/\dH s N P L=0:=by
 unfold EI dH;rw[h,hn];exact⟨rfl,rfl⟩
theorem dU {a b:Value} {x y:Int} (h:a=b/\x=y):Ending.returned (.tuple #[b,.int .i64 y])= .returned (.tuple #[a,.int .i64 x]):=by rw[h.1,h.2]
set_option maxRecDepth 100000 in
set_option maxHeartbeats 4000000 in
theorem agx (s:ByteArray) (N P L:Nat) (h:Cut s N P L) (w:World):
  Calls Tryz.prog 170 #[.string s] w fun e w'=>e= .returned (.tuple #[EI s N P L,.int .i64 (dH s N P L)])/\Below w.heap.size w w':=by
 have h64:=h.size;have MZ:∀ w,Hid (Calls Tryz.prog 185 #[.string (s.extract 0 8)] w fun e w'=>e= .returned (.int .u64 N)/\w=w'):=fun w=>by
  have:=get_any w (s.extract 0 8) (by rw[WJ];omega);rw[h.num] at this;exact this
 have HG2:∀ w,Hid (Calls Tryz.prog 185 #[.string (s.extract 8 10)] w fun e w'=>e= .returned (.int .u64 P)/\w=w'):=fun w=>by
  have:=get_any w (s.extract 8 10) (by rw[WJ];omega);rw[h.part] at this;exact this
 have XM:∀ w,Hid (Calls Tryz.prog 185 #[.string (s.extract 10 12)] w fun e w'=>e= .returned (.int .u64 L)/\w=w'):=fun w=>by
  have:=get_any w (s.extract 10 12) (by rw[WJ];omega);rw[h.left] at this;exact this
 have H:=zh h;clear h;go_enter Tryz.func170,Tryz.ntmps170;go_wp2_with fail
 go_quiet ((go_at_call 185;exact Calls.quiet_of_same (((MZ _).out).mono fun e w' h=>⟨h.1,h.2.symm⟩)))
 have hwP:IntKind.i64.wrap (P:Int)=P:=by have:=H.out.lt2;simp[IntKind.wrap,IntKind.bits,IntKind.signed];omega
 have hwL:IntKind.i64.wrap (L:Int)=L:=by have:=H.out.lt3;simp[IntKind.wrap,IntKind.bits,IntKind.signed];omega
 have b0:=(ak.new w 235 #[.int .i64 0,.int .i64 0,.int .i64 0,.string ⟨#[]⟩]).drewN nq;have hBW:Below w.heap.size w ((w.alloc (.cells #[.int .i64 0,.int .i64 0,.int .i64 0,.string ⟨#[]⟩] 235)).drewN nq):=below_drewN ((bK _ _).alloc (aF _) _) nq;have hsz:((w.alloc (.cells #[.int .i64 0,.int .i64 0,.int .i64 0,.string ⟨#[]⟩] 235)).drewN nq).heap.size=w.heap.size+1:=by simp[World.drewN]
 generalize (w.alloc (.cells #[.int .i64 0,.int .i64 0,.int .i64 0,.string ⟨#[]⟩] 235)).drewN nq=W at b0 hBW hsz ⊢;have Hsz:=zh hsz;clear hsz;go_wp2_with fail;refine' WL (fun hgo=> ?body) ?rest
 case body=>
  go_region_held3 (fun _=>True) (trivial) (first
   | (go_at_call_of 185 (ByteArray.extract s 8 10);refine(HG2 _).out.mono ?_;rintro e w1 ⟨rfl,rfl⟩)
   | (go_at_call_of 185 (ByteArray.extract s 10 12);refine(XM _).out.mono ?_;rintro e w1 ⟨rfl,rfl⟩))
  all_goals exact hgo
 have b1:=(ak.new W 235 #[.int .i64 0,.int .i64 P,.int .i64 L,.string ⟨#[]⟩]).drew;have b2:=(b0.alloc (.cells #[.int .i64 0,.int .i64 P,.int .i64 L,.string ⟨#[]⟩] 235)).drew;have hB2:Below w.heap.size w ((W.alloc (.cells #[.int .i64 0,.int .i64 P,.int .i64 L,.string ⟨#[]⟩] 235)).drew):=(hBW.alloc hBW.size _).drew;rw[Hsz.out] at b1 ⊢;generalize (W.alloc (.cells #[.int .i64 0,.int .i64 P,.int .i64 L,.string ⟨#[]⟩] 235)).drew=W2 at b1 b2 hB2 ⊢;clear b0 hBW Hsz MZ HG2 XM hwP hwL;obtain⟨n,hn⟩:∃ n:Nat,min (L:Int) 44=n:=⟨min L 44,by omega⟩;have hnL:n=min L 44:=by omega
 have agr:n<=44:=by omega
 have Ym:=zh hnL;clear hnL;obtain⟨eb,heb⟩:∃ eb,((s.extract 0 8).toList==(s.extract 56 64).toList)=eb:=⟨_,rfl⟩;have Heb:=zh heb;have c2:=b1.cell 2;go_wp2_with fail
 go_quiet (fail)
 have b3:=b1.drewN nq;have b4:=b2.drewN nq;have hB3:=below_drewN hB2 nq;generalize W2.drewN nq=W3 at b3 b4 hB3 ⊢;clear b1 b2 hB2 c2;have c1:=b3.cell 1;have c2:=b3.cell 2;have z0:=b4.cell 0;have z1:=b4.cell 1;have z2:=b4.cell 2;have z3:=b4.cell 3;have zf0:=b4.frozen 0;have zf1:=b4.frozen 1;have zf2:=b4.frozen 2;have zf3:=b4.frozen 3;have amF:=H.out.lt2;have amG:=H.out.lt3;have hTs:(s.extract 12 56).size=44:=by rw[WJ,h64];rfl
 cases eb with
 | false=>
  have hok:=dV (s:=s) (N:=N) (P:=P) (L:=L) (by unfold okB;rw[Heb.out];rfl);have xP:=zh hok;clear hok;go_wp2_with fail;exact bU (v:= .tuple #[bW 0 0 0 ⟨#[]⟩,.int .i64 7]) (dA (p:=2) (q:=3) rfl _ _ w.heap.size 235 #[.int .i64 0,.int .i64 0,.int .i64 0,.string ⟨#[]⟩] _ rfl ((((b4.aB 0 (.int .i64 0)).aB 1 (.int .i64 0)).aB 2 (.int .i64 0)).aB 3 (.string ⟨#[]⟩)) Tryz.underlying235 rfl (by kernel_rfl)) rfl ⟨dU xP.out,(((hB3.setCell (p:=⟨w.heap.size,0,none⟩) (aF _) _).setCell (p:=⟨w.heap.size,1,none⟩) (aF _) _).setCell (p:=⟨w.heap.size,2,none⟩) (aF _) _).setCell (p:=⟨w.heap.size,3,none⟩) (aF _) _⟩
 | true=>
  by_cases h1:N<1
  ·have d1:decide ((N:Int)<1)=true:=pW (by omega);have hok:=dV (s:=s) (N:=N) (P:=P) (L:=L) (by unfold okB;rw[dF (show ¬ 1<=N by omega)];simp);have xP:=zh hok;clear hok;go_wp2_with fail;exact bU (v:= .tuple #[bW 0 0 0 ⟨#[]⟩,.int .i64 7]) (dA (p:=2) (q:=3) rfl _ _ w.heap.size 235 #[.int .i64 0,.int .i64 0,.int .i64 0,.string ⟨#[]⟩] _ rfl ((((b4.aB 0 (.int .i64 0)).aB 1 (.int .i64 0)).aB 2 (.int .i64 0)).aB 3 (.string ⟨#[]⟩)) Tryz.underlying235 rfl (by kernel_rfl)) rfl ⟨dU xP.out,(((hB3.setCell (p:=⟨w.heap.size,0,none⟩) (aF _) _).setCell (p:=⟨w.heap.size,1,none⟩) (aF _) _).setCell (p:=⟨w.heap.size,2,none⟩) (aF _) _).setCell (p:=⟨w.heap.size,3,none⟩) (aF _) _⟩
  have d1:decide ((N:Int)<1)=false:=dF (by omega);by_cases h2:bn<N
  ·have d2:decide (4611686018427387904<(N:Int))=true:=pW (by unfold bn at h2;omega);have hok:=dV (s:=s) (N:=N) (P:=P) (L:=L) (by unfold okB;rw[dF (show ¬ N<=bn by omega)];simp);have xP:=zh hok;clear hok;go_wp2_with fail;exact bU (v:= .tuple #[bW 0 0 0 ⟨#[]⟩,.int .i64 7]) (dA (p:=2) (q:=3) rfl _ _ w.heap.size 235 #[.int .i64 0,.int .i64 0,.int .i64 0,.string ⟨#[]⟩] _ rfl ((((b4.aB 0 (.int .i64 0)).aB 1 (.int .i64 0)).aB 2 (.int .i64 0)).aB 3 (.string ⟨#[]⟩)) Tryz.underlying235 rfl (by kernel_rfl)) rfl ⟨dU xP.out,(((hB3.setCell (p:=⟨w.heap.size,0,none⟩) (aF _) _).setCell (p:=⟨w.heap.size,1,none⟩) (aF _) _).setCell (p:=⟨w.heap.size,2,none⟩) (aF _) _).setCell (p:=⟨w.heap.size,3,none⟩) (aF _) _⟩
  have d2:decide (4611686018427387904<(N:Int))=false:=dF (by unfold bn at h2;omega);by_cases h3:8000<P*44+L
  ·have d3:decide (8000<(P:Int)*44+L)=true:=pW (by omega);have hok:=dV (s:=s) (N:=N) (P:=P) (L:=L) (by unfold okB;rw[dF (show ¬ P*44+L<=8000 by omega)];simp);have xP:=zh hok;clear hok;go_wp2_with fail;exact bU (v:= .tuple #[bW 0 0 0 ⟨#[]⟩,.int .i64 7]) (dA (p:=2) (q:=3) rfl _ _ w.heap.size 235 #[.int .i64 0,.int .i64 0,.int .i64 0,.string ⟨#[]⟩] _ rfl ((((b4.aB 0 (.int .i64 0)).aB 1 (.int .i64 0)).aB 2 (.int .i64 0)).aB 3 (.string ⟨#[]⟩)) Tryz.underlying235 rfl (by kernel_rfl)) rfl ⟨dU xP.out,(((hB3.setCell (p:=⟨w.heap.size,0,none⟩) (aF _) _).setCell (p:=⟨w.heap.size,1,none⟩) (aF _) _).setCell (p:=⟨w.heap.size,2,none⟩) (aF _) _).setCell (p:=⟨w.heap.size,3,none⟩) (aF _) _⟩
  have d3:decide (8000<(P:Int)*44+L)=false:=dF (by omega);by_cases h4:0<P/\L=0
  ·have d4:0<P:=h4.1;have d5:((L:Int)==0)=true:=aaQ (by omega);have WO:=zh h4;clear h4;have hok:=dV (s:=s) (N:=N) (P:=P) (L:=L) (by unfold okB;rw[dF (show ¬ P=0 by have:=WO.out;omega),dF (show ¬ 0<L by have:=WO.out;omega)];simp);have xP:=zh hok;clear hok;go_wp2_with fail;exact bU (v:= .tuple #[bW 0 0 0 ⟨#[]⟩,.int .i64 7]) (dA (p:=2) (q:=3) rfl _ _ w.heap.size 235 #[.int .i64 0,.int .i64 0,.int .i64 0,.string ⟨#[]⟩] _ rfl ((((b4.aB 0 (.int .i64 0)).aB 1 (.int .i64 0)).aB 2 (.int .i64 0)).aB 3 (.string ⟨#[]⟩)) Tryz.underlying235 rfl (by kernel_rfl)) rfl ⟨dU xP.out,(((hB3.setCell (p:=⟨w.heap.size,0,none⟩) (aF _) _).setCell (p:=⟨w.heap.size,1,none⟩) (aF _) _).setCell (p:=⟨w.heap.size,2,none⟩) (aF _) _).setCell (p:=⟨w.heap.size,3,none⟩) (aF _) _⟩
  have WO:=zh h4;have hTn:((s.extract 12 56).extract n 44).size<=1000:=by rw[WJ];omega
  have hTc:((s.extract 12 56).extract 0 n).size<=1000:=by rw[WJ];omega
  cases hz:((s.extract 12 56).extract n 44).data.toList.all (· ==0) with
  | false=>
   have HT:=fun w=>zh (Yt _ w hTn hz)
   have Hz:=zh hz;clear hz hTn hTc;by_cases h5:0<P
   ·have d5:((L:Int)==0)=false:=lM (by omega);have hok:=dV (s:=s) (N:=N) (P:=P) (L:=L) (by unfold okB;rw[<-Ym.out,Hz.out];simp);have xP:=zh hok;clear hok;go_wp2_with (go_at_call 186;refine(HT _).out.mono ?_;rintro e w4 ⟨y,rfl,hy,q,rfl⟩);exact bU (v:= .tuple #[bW 0 0 0 ⟨#[]⟩,.int .i64 7]) (dA (p:=2) (q:=3) rfl _ _ w.heap.size 235 #[.int .i64 0,.int .i64 0,.int .i64 0,.string ⟨#[]⟩] _ rfl (((((b4.drewN q).aB 0 (.int .i64 0)).aB 1 (.int .i64 0)).aB 2 (.int .i64 0)).aB 3 (.string ⟨#[]⟩)) Tryz.underlying235 rfl (by kernel_rfl)) rfl ⟨dU xP.out,((((below_drewN hB3 q).setCell (p:=⟨w.heap.size,0,none⟩) (aF _) _).setCell (p:=⟨w.heap.size,1,none⟩) (aF _) _).setCell (p:=⟨w.heap.size,2,none⟩) (aF _) _).setCell (p:=⟨w.heap.size,3,none⟩) (aF _) _⟩
   ·have d5:=h5;have hok:=dV (s:=s) (N:=N) (P:=P) (L:=L) (by unfold okB;rw[<-Ym.out,Hz.out];simp);have xP:=zh hok;clear hok;go_wp2_with (go_at_call 186;refine(HT _).out.mono ?_;rintro e w4 ⟨y,rfl,hy,q,rfl⟩);exact bU (v:= .tuple #[bW 0 0 0 ⟨#[]⟩,.int .i64 7]) (dA (p:=2) (q:=3) rfl _ _ w.heap.size 235 #[.int .i64 0,.int .i64 0,.int .i64 0,.string ⟨#[]⟩] _ rfl (((((b4.drewN q).aB 0 (.int .i64 0)).aB 1 (.int .i64 0)).aB 2 (.int .i64 0)).aB 3 (.string ⟨#[]⟩)) Tryz.underlying235 rfl (by kernel_rfl)) rfl ⟨dU xP.out,((((below_drewN hB3 q).setCell (p:=⟨w.heap.size,0,none⟩) (aF _) _).setCell (p:=⟨w.heap.size,1,none⟩) (aF _) _).setCell (p:=⟨w.heap.size,2,none⟩) (aF _) _).setCell (p:=⟨w.heap.size,3,none⟩) (aF _) _⟩
  | true=>
   have HT:=fun w=>zh (Yr _ w hTn hz)
   have Hz:=zh hz;clear hz hTn;by_cases h5:0<P
   ·have d5:((L:Int)==0)=false:=lM (by omega);have hne:w.heap.size≠w.heap.size+1:=by omega
    have hok:=yX (s:=s) (N:=N) (P:=P) (L:=L) Ym.out (by
     unfold okB;rw[<-Ym.out,Hz.out,Heb.out,pW (show 1<=N by omega),pW (show N<=bn by omega),pW (show P*44+L<=8000 by omega)];have:=WO.out;rcases Nat.eq_zero_or_pos P with h0 | h0
     ·rw[pW h0];rfl
     ·rw[pW (show 0<L by omega)];simp)
    have xP:=zh hok;clear hok;have hwN:IntKind.i64.wrap (N:Int)=N:=by unfold bn at h2;simp[IntKind.wrap,IntKind.bits,IntKind.signed];omega
    go_wp2_with (first | (go_at_call 186;refine(HT _).out.mono ?_;rintro e w4 ⟨rfl,q,rfl⟩) | (go_at_call 187;refine(clone_any _ _ (by omega)).mono ?_;rintro e w5 ⟨rfl,oZ⟩;have b5:=(b3.drewN q).below oZ (b3.drewN q).lt;have b6:=(b4.drewN q).below oZ (b4.drewN q).lt;have pJ:=(below_drewN hB3 q).trans (oZ.mono (below_drewN hB3 q).size);have y0:=b5.cell 0;have y1:=b5.cell 1;have y2:=b5.cell 2;have y3:=b5.cell 3;have yf0:=b5.frozen 0;have yf1:=b5.frozen 1;have yf2:=b5.frozen 2;have yf3:=b5.frozen 3;have x0:=b6.cell 0;have x1:=b6.cell 1;have x2:=b6.cell 2;have x3:=b6.cell 3;have xf0:=b6.frozen 0;have xf1:=b6.frozen 1;have xf2:=b6.frozen 2;have xf3:=b6.frozen 3));exact bU (v:= .tuple #[bW N P L ((s.extract 12 56).extract 0 n),.int .i64 0]) (dA (p:=2) (q:=3) rfl _ _ w.heap.size 235 #[.int .i64 N,.int .i64 P,.int .i64 L,.string ((s.extract 12 56).extract 0 n)] _ rfl ((((((b6.other (a:=⟨w.heap.size+1,0,none⟩) hne (.int .i64 N)).other (a:=⟨w.heap.size+1,3,none⟩) hne (.string ((s.extract 12 56).extract 0 n))).aB 0 (.int .i64 N)).aB 1 (.int .i64 P)).aB 2 (.int .i64 L)).aB 3 (.string ((s.extract 12 56).extract 0 n))) Tryz.underlying235 rfl (by kernel_rfl)) rfl ⟨dU xP.out,(((((pJ.setCell (p:=⟨w.heap.size+1,0,none⟩) (wW _) _).setCell (p:=⟨w.heap.size+1,3,none⟩) (wW _) _).setCell (p:=⟨w.heap.size,0,none⟩) (aF _) _).setCell (p:=⟨w.heap.size,1,none⟩) (aF _) _).setCell (p:=⟨w.heap.size,2,none⟩) (aF _) _).setCell (p:=⟨w.heap.size,3,none⟩) (aF _) _⟩
   ·have d5:=h5;have hne:w.heap.size≠w.heap.size+1:=by omega
    have hok:=yX (s:=s) (N:=N) (P:=P) (L:=L) Ym.out (by
     unfold okB;rw[<-Ym.out,Hz.out,Heb.out,pW (show 1<=N by omega),pW (show N<=bn by omega),pW (show P*44+L<=8000 by omega)];have:=WO.out;rcases Nat.eq_zero_or_pos P with h0 | h0
     ·rw[pW h0];rfl
     ·rw[pW (show 0<L by omega)];simp)
    have xP:=zh hok;clear hok;have hwN:IntKind.i64.wrap (N:Int)=N:=by unfold bn at h2;simp[IntKind.wrap,IntKind.bits,IntKind.signed];omega
    go_wp2_with (first | (go_at_call 186;refine(HT _).out.mono ?_;rintro e w4 ⟨rfl,q,rfl⟩) | (go_at_call 187;refine(clone_any _ _ (by omega)).mono ?_;rintro e w5 ⟨rfl,oZ⟩;have b5:=(b3.drewN q).below oZ (b3.drewN q).lt;have b6:=(b4.drewN q).below oZ (b4.drewN q).lt;have pJ:=(below_drewN hB3 q).trans (oZ.mono (below_drewN hB3 q).size);have y0:=b5.cell 0;have y1:=b5.cell 1;have y2:=b5.cell 2;have y3:=b5.cell 3;have yf0:=b5.frozen 0;have yf1:=b5.frozen 1;have yf2:=b5.frozen 2;have yf3:=b5.frozen 3;have x0:=b6.cell 0;have x1:=b6.cell 1;have x2:=b6.cell 2;have x3:=b6.cell 3;have xf0:=b6.frozen 0;have xf1:=b6.frozen 1;have xf2:=b6.frozen 2;have xf3:=b6.frozen 3));exact bU (v:= .tuple #[bW N P L ((s.extract 12 56).extract 0 n),.int .i64 0]) (dA (p:=2) (q:=3) rfl _ _ w.heap.size 235 #[.int .i64 N,.int .i64 P,.int .i64 L,.string ((s.extract 12 56).extract 0 n)] _ rfl ((((((b6.other (a:=⟨w.heap.size+1,0,none⟩) hne (.int .i64 N)).other (a:=⟨w.heap.size+1,3,none⟩) hne (.string ((s.extract 12 56).extract 0 n))).aB 0 (.int .i64 N)).aB 1 (.int .i64 P)).aB 2 (.int .i64 L)).aB 3 (.string ((s.extract 12 56).extract 0 n))) Tryz.underlying235 rfl (by kernel_rfl)) rfl ⟨dU xP.out,(((((pJ.setCell (p:=⟨w.heap.size+1,0,none⟩) (wW _) _).setCell (p:=⟨w.heap.size+1,3,none⟩) (wW _) _).setCell (p:=⟨w.heap.size,0,none⟩) (aF _) _).setCell (p:=⟨w.heap.size,1,none⟩) (aF _) _).setCell (p:=⟨w.heap.size,2,none⟩) (aF _) _).setCell (p:=⟨w.heap.size,3,none⟩) (aF _) _⟩
end Go.Proofs.YtpghocekofdpbaaGreatDoor.Sec
namespace Go.Proofs.YtpghocekofdpbaaGreatDoor.Sec
open Go.RowKit Go.Shelf
attribute [local go_sem] Oper.semAt_some
def nY (s:ByteArray):Value×Int:=
 if s.size=64 then
  match dw s.data.toList with
  | some p=>(bW p.number p.part p.left ⟨p.text.toArray⟩,0)
  | none=>(bW 0 0 0 ⟨#[]⟩,7)
 else (bW 0 0 0 ⟨#[]⟩,1)
theorem ext_list (s:ByteArray) (a b:Nat):(s.extract a b).data.toList=(s.data.toList.drop a).take (b-a):=by
 rw[ByteArray.data_extract,Array.toList_extract,List.extract_eq_take_drop]
theorem toList_data (s:ByteArray):s.toList=s.data.toList:=ByteArray.toList_eq s
theorem aaR (s:ByteArray) (a b:Nat):s.extract a b=⟨((s.data.toList.drop a).take (b-a)).toArray⟩:=by
 rw[<-ext_list]
theorem P8 {s:ByteArray} {N P L:Nat} (h:Cut s N P L):dw s.data.toList=if okB s N P L=true then some ⟨N,P,L,((s.extract 12 56).extract 0 (min L 44)).data.toList⟩ else none:=by
 have hsz:s.data.toList.length=64:=by rw[Di];exact h.size
 have e1:s.data.toList.take 8=(s.extract 0 8).data.toList:=by rw[ext_list];rfl
 have e2:s.data.toList.drop 56=(s.extract 56 64).data.toList:=by rw[ext_list,uo (by rw[rX];omega)]
 have e3:(s.data.toList.drop 8).take 2=(s.extract 8 10).data.toList:=by rw[ext_list]
 have e4:(s.data.toList.drop 10).take 2=(s.extract 10 12).data.toList:=by rw[ext_list]
 have e5:(s.data.toList.drop (12+min L 44)).take (44-min L 44)=((s.extract 12 56).extract (min L 44) 44).data.toList:=by
  rw[ext_list,ext_list,List.drop_take,List.drop_drop,List.take_take]
  congr 1
  omega
 have e6:(s.data.toList.drop 12).take (min L 44)=((s.extract 12 56).extract 0 (min L 44)).data.toList:=by
  rw[ext_list,ext_list,List.drop_zero,List.take_take]
  congr 1
  omega
 unfold dw;rw[e1,e2,e3,e4,h.num,h.part,h.left,e5,e6];unfold okB;rw[toList_data,toList_data];have hiff:((s.extract 0 8).data.toList=(s.extract 56 64).data.toList/\1<=N/\N<=bn/\44*P+L<=8000/\(0<P->0<L)/\(((s.extract 12 56).extract (min L 44) 44).data.toList.all fun x=>x==0)=true) ↔
   (((s.extract 0 8).data.toList==(s.extract 56 64).data.toList) && (decide (1<=N) && (decide (N<=bn) && (decide (P*44+L<=8000) && ((decide (P=0) || decide (0<L)) && ((s.extract 12 56).extract (min L 44) 44).data.toList.all (· ==0))))))=true:=by
  simp only[Bool.and_eq_true,Bool.or_eq_true,decide_eq_true_eq,beq_iff_eq];constructor
  ·rintro⟨a,b,c,d,e,f⟩;exact⟨a,b,c,by omega,by omega,f⟩
  ·rintro⟨a,b,c,d,e,f⟩;exact⟨a,b,c,by omega,by omega,f⟩
 by_cases hc:(s.extract 0 8).data.toList=(s.extract 56 64).data.toList/\1<=N/\N<=bn/\44*P+L<=8000/\(0<P->0<L)/\(((s.extract 12 56).extract (min L 44) 44).data.toList.all fun x=>x==0)=true
 ·rw[if_pos hc,if_pos (hiff.1 hc)]
 ·rw[if_neg hc,if_neg (fun h=>hc (hiff.2 h))]
theorem aaV {s:ByteArray} (hs:s.size=64):∃ N P L,Cut s N P L:=⟨bQ (s.extract 0 8).data.toList,bQ (s.extract 8 10).data.toList,bQ (s.extract 10 12).data.toList,hs,rfl,rfl,rfl⟩
theorem open_any (s:ByteArray) (w:World):Calls Tryz.prog 170 #[.string s] w fun e w'=>e= .returned (.tuple #[(nY s).1,.int .i64 (nY s).2])/\Below w.heap.size w w':=by
 unfold nY;by_cases hs:s.size=64
 ·rw[if_pos hs];obtain⟨N,P,L,hc⟩:=aaV hs;rw[P8 hc];refine(agx s N P L hc w).mono ?_;rintro e w' ⟨rfl,hB⟩;refine⟨?_,hB⟩;unfold EI dH;split<;>rfl
 ·rw[if_neg hs];exact Yu s w hs
def PU (number:Int) (rec:ByteArray):List ByteArray×Int:=
 if number<1\/4611686018427387904<number then ([],1) else if 8000<rec.size then ([],2) else ((List.range (aj rec.size)).map (gJ number.toNat rec),0)
theorem vV {w w':World} (h:Below w.heap.size w w'):o8 w w' (.slice none 0 0) []:=⟨Ju _ _ _ _,by simp,h⟩
set_option maxRecDepth 100000 in
set_option maxHeartbeats 4000000 in
theorem Qe (w:World) (number:Int) (rec:ByteArray):
  Calls Tryz.prog 123 #[.int .i64 number,.string rec] w fun e w'=>∃ v,e= .returned (.tuple #[v,.int .i64 (PU number rec).2])/\o8 w w' v (PU number rec).1:=by
 unfold PU;by_cases h1:number<1
 ·rw[if_pos (.inl h1)];have d1:decide (number<1)=true:=pW h1;go_enter Tryz.func123,Tryz.ntmps123;go_wp2_with fail;exact bU (v:= .tuple #[.slice none 0 0,.int .i64 1]) (qp (p:=4) (q:=5) rfl _ _ w.heap.size (.slice none 0 0) rfl ((ak.new w 35 #[.slice none 0 0]).cell 0)) rfl ⟨_,rfl,vV ((bK _ _).alloc (aF _) _)⟩
 have d1:decide (number<1)=false:=dF h1;by_cases h2:4611686018427387904<number
 ·rw[if_pos (.inr h2)];have d2:decide (4611686018427387904<number)=true:=pW h2;go_enter Tryz.func123,Tryz.ntmps123;go_wp2_with fail;exact bU (v:= .tuple #[.slice none 0 0,.int .i64 1]) (qp (p:=4) (q:=5) rfl _ _ w.heap.size (.slice none 0 0) rfl ((ak.new w 35 #[.slice none 0 0]).cell 0)) rfl ⟨_,rfl,vV ((bK _ _).alloc (aF _) _)⟩
 have d2:decide (4611686018427387904<number)=false:=dF h2;rw[if_neg (by omega)];by_cases h3:8000<rec.size
 ·rw[if_pos h3];have d3:decide (8000<(rec.size:Int))=true:=pW (by omega);go_enter Tryz.func123,Tryz.ntmps123;go_wp2_with fail;exact bU (v:= .tuple #[.slice none 0 0,.int .i64 2]) (qp (p:=4) (q:=5) rfl _ _ w.heap.size (.slice none 0 0) rfl ((ak.new w 35 #[.slice none 0 0]).cell 0)) rfl ⟨_,rfl,vV ((bK _ _).alloc (aF _) _)⟩
 ·rw[if_neg h3];obtain⟨n,rfl⟩:=Int.eq_ofNat_of_zero_le (show 0<=number by omega);have:=adU w n rec (by omega) (by unfold bn;omega) (by omega)
  simpa using this
end Go.Proofs.YtpghocekofdpbaaGreatDoor.Sec
namespace Go.Proofs.YtpghocekofdpbaaGreatDoor.Sec
open Go.RowKit Go.Shelf
attribute [local go_sem] Oper.semAt_some
def tH (w:World) (v:Value) (l:List ByteArray):Prop:=
 ∃ A c,v= .slice A l.length c/\l.length<=c/\c<=maxLen/\(0<l.length->∃ b o,A=some ⟨b,o,none⟩/\b<w.heap.size/\∀ i t,l[i]? =some t->w.cell? ⟨b,o+i,none⟩=some (.string t))
def oD (l:List ByteArray):vS:=joinL (l.map fun s=>s.data.toList)
def KT (j:vS):Value:= .tuple #[.int .i64 j.number,.string ⟨j.text.toArray⟩,.int .i64 j.used,.int .i64 j.e]
theorem iG {fn:Func} {t u v x:Tmp} (h:fn.results= #[.tmp t,.tmp u,.tmp v,.tmp x]) (tmps:Array Value) (P:Program) (w:World):
  (results fn tmps).run P w= .ok (.tuple #[tmps.getD t undef,tmps.getD u undef,tmps.getD v undef,tmps.getD x undef]) w:=by
 simp[results,h]
theorem pU {T e:TypeId} {B b:Nat} {bs:List Value} {w w':World} (h:Lib.IsBuilder T e B b bs w) (hB:Below w.heap.size w w'):Lib.IsBuilder T e B b bs w':=by
 have key:∀ p,Lib.BuilderAt T e B b p bs w->Lib.BuilderAt T e B b p bs w':=fun p hp=>by
  obtain⟨h1,v,h2,h3,h4⟩:=hp;exact⟨h1,v,(hB.block b (Array.getElem?_eq_some_iff.1 h2).1).trans h2,ownsRow_below h3 hB (aF _),h4⟩
 rcases h with h | h
 ·exact .inl (key _ h)
 ·exact .inr (key _ h)
theorem sH (s:ByteArray):(∃ p,s.size=64/\dw s.data.toList=some p/\nY s=(bW p.number p.part p.left ⟨p.text.toArray⟩,0))\/((s.size≠64\/dw s.data.toList=none)/\∃ e,e≠0/\nY s=(bW 0 0 0 ⟨#[]⟩,e)):=by
 unfold nY;by_cases hs:s.size=64
 ·rw[if_pos hs];cases ho:dw s.data.toList with
  | none=>exact .inr ⟨.inr rfl,7,by decide,rfl⟩
  | some p=>exact .inl ⟨p,hs,rfl,rfl⟩
 ·rw[if_neg hs];exact .inr ⟨.inl hs,1,by decide,rfl⟩
theorem BH {s:ByteArray} {N P L e:Int} {T:ByteArray} (h:nY s=(bW N P L T,e)) (w:World):Calls Tryz.prog 170 #[.string s] w fun e2 w'=>e2= .returned (.tuple #[.agg #[.int .i64 N,.int .i64 P,.int .i64 L,.string T],.int .i64 e])/\Below w.heap.size w w':=by
 have:=open_any s w;rw[h] at this;exact this
section
variable {w:World}
set_option maxRecDepth 100000 in
set_option maxHeartbeats 4000000 in
theorem join_nil (A:Option Addr) (c:Nat):Calls Tryz.prog 148 #[.slice A 0 c] w fun e w'=>e= .returned (KT ⟨0,[],0,11⟩)/\Below w.heap.size w w':=by
 go_enter Tryz.func148,Tryz.ntmps148;go_wp2_with fail;exact bU (v:= .tuple #[.int .i64 0,.string ⟨#[]⟩,.int .i64 0,.int .i64 11]) (iG (t:=2) (u:=3) (v:=4) (x:=5) rfl _ _ _) rfl ⟨rfl,bK _ _⟩
set_option maxRecDepth 100000 in
set_option maxHeartbeats 4000000 in
theorem G5 (b o n c:Nat) (hn:0<n) (s0:ByteArray) (hc:w.cell? ⟨b,o,none⟩=some (.string s0)) (N P L:Int) (T:ByteArray) (e:Int) (hO:nY s0=(bW N P L T,e)) (hbad:e≠0\/P≠0) (hm:n<=maxLen):
  Calls Tryz.prog 148 #[.slice (some ⟨b,o,none⟩) n c] w fun e w'=>e= .returned (KT ⟨0,[],0,11⟩)/\Below w.heap.size w w':=by
 unfold maxLen at hm;have HO:=fun w=>zh (BH hO w)
 have h0:((n:Int)==0)=false:=lM (by omega);by_cases he:e=0
 ·subst he;have hP:(P !=0)=true:=nX (by rcases hbad with h | h;exact absurd rfl h;exact h);clear hbad hO;go_enter Tryz.func148,Tryz.ntmps148;go_wp2_with (first | (go_at_call 170;refine(HO _).out.mono ?_;rintro e w1 ⟨rfl,hB⟩));exact bU (v:= .tuple #[.int .i64 0,.string ⟨#[]⟩,.int .i64 0,.int .i64 11]) (iG (t:=2) (u:=3) (v:=4) (x:=5) rfl _ _ _) rfl ⟨rfl,hB.alloc hB.size _⟩
 ·have hE:(e !=0)=true:=nX he;clear hbad hO he;go_enter Tryz.func148,Tryz.ntmps148;go_wp2_with (first | (go_at_call 170;refine(HO _).out.mono ?_;rintro e w1 ⟨rfl,hB⟩));exact bU (v:= .tuple #[.int .i64 0,.string ⟨#[]⟩,.int .i64 0,.int .i64 11]) (iG (t:=2) (u:=3) (v:=4) (x:=5) rfl _ _ _) rfl ⟨rfl,hB.alloc hB.size _⟩
set_option maxRecDepth 100000 in
set_option maxHeartbeats 4000000 in
theorem Ug (b o n c:Nat) (hn:0<n) (s0:ByteArray) (hc:w.cell? ⟨b,o,none⟩=some (.string s0)) (N:Int) (L:Nat) (T:ByteArray) (hO:nY s0=(bW N 0 L T,0)) (hL:L<=8000) (hs:n<aj L) (hm:n<=maxLen):
  Calls Tryz.prog 148 #[.slice (some ⟨b,o,none⟩) n c] w fun e w'=>e= .returned (KT ⟨0,[],0,7⟩)/\Below w.heap.size w w':=by
 unfold maxLen at hm;have HO:=fun w=>zh (BH hO w)
 have h0:((n:Int)==0)=false:=lM (by omega);have HC:=fun w=>zh (DR L hL w)
 generalize aj L=K at HC hs;have d1:decide ((n:Int)<K)=true:=pW (by omega);clear hO;go_enter Tryz.func148,Tryz.ntmps148;go_wp2_with (first | (go_at_call 170;refine(HO _).out.mono ?_;rintro e w1 ⟨rfl,hB⟩) | (go_at_call 39;refine(HC _).out.mono ?_;rintro e w2 ⟨rfl,rfl⟩));exact bU (v:= .tuple #[.int .i64 0,.string ⟨#[]⟩,.int .i64 0,.int .i64 7]) (iG (t:=2) (u:=3) (v:=4) (x:=5) rfl _ _ _) rfl ⟨rfl,hB.alloc hB.size _⟩
theorem uO {number left0:Nat} {l:List (List UInt8)} {k:Nat} {s:List UInt8} (hs:l[k]? =some s) (h:uN number left0 k s=none):∀ K,k<K->iy number left0 l K=none
 | 0,h0=>by omega
 | K+1,h0=>by
  rw[iy];by_cases e:k<K
  ·rw[uO hs h K e]
  ·have:K=k:=by omega
   subst this;split
   ·rfl
   ·rw[hs];dsimp only;rw[h]
theorem GZ {s:List UInt8} {p:xw} (h:dw s=some p):p.text.length<=44:=by
 unfold dw at h;split at h
 ·cases h;exact fU (List.length_take_le _ _) (by omega)
 ·cases h
theorem ND (l:List UInt8):(⟨l.toArray⟩:ByteArray).size=l.length:=by simp[ByteArray.size]
theorem sJ {N L:Nat} {ls:List (List UInt8)} {K0:Nat} {j:vS} (hj:j=match iy N L ls K0 with | none=>⟨0,[],0,7⟩ | some t=>⟨N,t,K0,0⟩) {k:Nat} {s:List UInt8} (hs:ls[k]? =some s) (hf:uN N L k s=none) (_K:Nat) (hk:k<K0):j=⟨0,[],0,7⟩:=by
 rw[hj,uO hs hf K0 hk]
set_option maxRecDepth 100000 in
set_option maxHeartbeats 4000000 in
theorem Yv (b o:Nat) (c:Nat) (l:List ByteArray) (s0:ByteArray) (hc:w.cell? ⟨b,o,none⟩=some (.string s0)) (N L:Nat) (T:ByteArray) (hO:nY s0=(bW N 0 L T,0)) (hL:L<=8000) (hN:N<=bn) (hs:aj L<=l.length) (hcap:l.length<=c) (_hm:c<=maxLen)
  (hb:b<w.heap.size) (hat:∀ i t,l[i]? =some t->w.cell? ⟨b,o+i,none⟩=some (.string t)) (j:vS) (hj:j=match iy N L (l.map fun s=>s.data.toList) (aj L) with | none=>⟨0,[],0,7⟩ | some t=>⟨N,t,aj L,0⟩):
  Calls Tryz.prog 148 #[.slice (some ⟨b,o,none⟩) l.length c] w fun e w'=>e= .returned (KT j)/\Below w.heap.size w w':=by
 unfold maxLen at _hm;have HO:=fun w=>zh (BH hO w)
 have hp:=jd L;have h0:((l.length:Int)==0)=false:=lM (by omega);have HC:=fun w=>zh (DR L hL w)
 have aaW:aj L<=182:=by unfold aj;omega
 have Lc:=zh hat;have Hj:=zh hj;clear hat hj hO;generalize aj L=K at HC hs Hj hp aaW;have d1:decide (l.length<K)=false:=dF (by omega);go_enter Tryz.func148,Tryz.ntmps148;go_wp2_with (first | (go_at_call 170;refine(HO _).out.mono ?_;rintro e w1 ⟨rfl,hB⟩) | (go_at_call 39;refine(HC _).out.mono ?_;rintro e w2 ⟨rfl,rfl⟩));have hsz1:=hB.size;have b6:=(ak.new w1 235 #[.int .i64 N,.int .i64 0,.int .i64 L,.string T]).alloc (.cells #[.pointer none,.slice none 0 0] 188);have hbl:=Lib.fresh_isBuilder 188 5 (w1.alloc (.cells #[.int .i64 N,.int .i64 0,.int .i64 L,.string T] 235));have hB0:Below w.heap.size w ((w1.alloc (.cells #[.int .i64 N,.int .i64 0,.int .i64 L,.string T] 235)).alloc (.cells #[.pointer none,.slice none 0 0] 188)):=(hB.alloc hsz1 _).alloc (by simp;omega) _;have hsz0:((w1.alloc (.cells #[.int .i64 N,.int .i64 0,.int .i64 L,.string T] 235)).alloc (.cells #[.pointer none,.slice none 0 0] 188)).heap.size=w1.heap.size+1+1:=by simp
 rw[oz] at hbl;generalize (w1.alloc (.cells #[.int .i64 N,.int .i64 0,.int .i64 L,.string T] 235)).alloc (.cells #[.pointer none,.slice none 0 0] 188)=W0 at b6 hbl hB0 hsz0 ⊢;have Yo:=zh hsz0;clear hsz0;go_loopw [42] (fun i wr=>∃ (k:Nat) (T:List UInt8),k<=K/\i= .int .i64 k/\T.length<=44*k/\iy N L (l.map fun s=>s.data.toList) k=some T/\Lib.IsBuilder 188 5 (w1.heap.size+1) (w1.heap.size+1) (dM T) wr/\Below (w1.heap.size+1) W0 wr) (fun i _=>K-(intOf i).toNat)
 case atStart=>exact⟨0,[],iT _,rfl,iT _,rfl,hbl,bK _ _⟩
 case round=>
  obtain⟨k,T',hk,rfl,hTl,Jw,hIB,hBr⟩:=hrel;have hsr:=hBr.size;have HJk:=zh Jw;clear Jw hc hbl;have b6r:=b6.below hBr (Nat.lt_succ_self _);have f0:=b6r.cell 0;have f2:=b6r.cell 2;have tN:=b6r.lt;have hBw:Below w.heap.size w wr:=hB0.trans (hBr.mono (by omega));by_cases hkl:k<K
  ·obtain⟨s,hls⟩:∃ s,l[k]? =some s:=⟨_,jB (by omega)⟩;have hlk:(l.map fun s=>s.data.toList)[k]? =some s.data.toList:=by rw[sD,hls];rfl
   have hck:wr.cell? ⟨b,o+k,none⟩=some (.string s):=(hBw.cell (p:=⟨b,o+k,none⟩) hb).trans (Lc.out k s hls);have HLK:=zh hlk;clear hls;rcases sH s with⟨⟨pn,pp,pl,pt⟩,hsz,hop,hE⟩ | ⟨hno,ev,hev,hE⟩
   ·have Dj:=fun w=>zh (BH hE w)
    dsimp only at Dj;have hfit:∀ r,uN N L k s.data.toList=r->r=if pn=N/\pp=k/\(pl:Int)=L-44*k then some pt else none:=by
     rintro r rfl;unfold uN;rw[if_pos (by rw[Di];exact hsz),hop]
    have HF:=zh hfit;have HOP:=zh hop;clear hfit hop hE;by_cases x1:pn=N
    ·subst x1;by_cases x2:pp=k
     ·subst x2;by_cases x3:(pl:Int)=L-44*pp
      ·have d3:((pl:Int) !=(L:Int)-(pp:Int)*44)=false:=PY (by omega);have hpt:pt.length<=44:=GZ HOP.out;have hJn:iy pn L (l.map fun s=>s.data.toList) (pp+1)=some (T'++pt):=by
        rw[iy,HJk.out];dsimp only;rw[HLK.out];dsimp only;rw[HF.out _ rfl,if_pos ⟨rfl,rfl,x3⟩]
       have HJn:=zh hJn;clear hJn x3;go_wp2_with (first | (go_at_call 170;refine(Dj _).out.mono ?_;rintro e w3 ⟨rfl,hB3⟩;have pF:Below w.heap.size w (w3.alloc (.cells #[.int .i64 pn,.int .i64 pp,.int .i64 pl,.string ⟨pt.toArray⟩] 235)):=((hBw.trans (hB3.mono hBw.size)).alloc (by have:=hB3.size;have:=hBw.size;omega) _);have g0:=(hB3.cell (p:=⟨w1.heap.size,0,none⟩) tN).trans f0;have g2:=(hB3.cell (p:=⟨w1.heap.size,2,none⟩) tN).trans f2;have hl3:w1.heap.size<w3.heap.size:=(by have:=hB3.size;omega);have hn3:w1.heap.size≠w3.heap.size:=(by omega);have ajf:=pU (pU hIB hB3) ((bK _ w3).alloc (aF _) (.cells #[.int .i64 pn,.int .i64 pp,.int .i64 pl,.string ⟨pt.toArray⟩] 235))) | (go_at_call 132;refine(qX (w1.heap.size+1) (w1.heap.size+1) (dM T') ⟨pt.toArray⟩ _ ajf (by rw[Am,ND];omega) (by rw[oz];omega)).mono ?_;rintro e w5 ⟨rfl,ajg,oZ⟩));have amO:Lib.IsBuilder 188 5 (w1.heap.size+1) (w1.heap.size+1) (dM (T'++pt)) w5:=by
        rw[oN];exact .inr ajg
       have hBn:Below (w1.heap.size+1) W0 w5:=((hBr.trans (hB3.mono (by omega))).alloc (by have:=hB3.size;omega) _).trans oZ;clear ajg ajf hIB;go_roundw
       case rel=>exact⟨pp+1,T'++pt,by omega,by go_num,by rw[kM];omega,HJn.out,amO,hBn⟩
       case measure=>simp[intOf];omega
      ·have d3:((pl:Int) !=(L:Int)-(pp:Int)*44)=true:=nX (by omega);have HJ:=zh (sJ Hj.out hlk (by rw[HF.out _ rfl,if_neg (fun h=>x3 h.2.2)]) K hkl);go_wp2_with (first | (go_at_call 170;refine(Dj _).out.mono ?_;rintro e w3 ⟨rfl,hB3⟩;have pF:Below w.heap.size w (w3.alloc (.cells #[.int .i64 pn,.int .i64 pp,.int .i64 pl,.string ⟨pt.toArray⟩] 235)):=((hBw.trans (hB3.mono hBw.size)).alloc (by have:=hB3.size;have:=hBw.size;omega) _);have g0:=(hB3.cell (p:=⟨w1.heap.size,0,none⟩) tN).trans f0;have g2:=(hB3.cell (p:=⟨w1.heap.size,2,none⟩) tN).trans f2;have hl3:w1.heap.size<w3.heap.size:=(by have:=hB3.size;omega);have hn3:w1.heap.size≠w3.heap.size:=(by omega)));exact bU (v:= .tuple #[.int .i64 0,.string ⟨#[]⟩,.int .i64 0,.int .i64 7]) (iG (t:=2) (u:=3) (v:=4) (x:=5) rfl _ _ _) rfl ⟨by rw[HJ.out];rfl,pF⟩
     ·have d2:(pp !=k)=true:=by simpa using x2
      have d2':((pp:Int) !=(k:Int))=true:=nX (by omega);have HJ:=zh (sJ Hj.out hlk (by rw[HF.out _ rfl,if_neg (fun h=>x2 h.2.1)]) K hkl);go_wp2_with (first | (go_at_call 170;refine(Dj _).out.mono ?_;rintro e w3 ⟨rfl,hB3⟩;have pF:Below w.heap.size w (w3.alloc (.cells #[.int .i64 pn,.int .i64 pp,.int .i64 pl,.string ⟨pt.toArray⟩] 235)):=((hBw.trans (hB3.mono hBw.size)).alloc (by have:=hB3.size;have:=hBw.size;omega) _);have g0:=(hB3.cell (p:=⟨w1.heap.size,0,none⟩) tN).trans f0;have g2:=(hB3.cell (p:=⟨w1.heap.size,2,none⟩) tN).trans f2;have hl3:w1.heap.size<w3.heap.size:=(by have:=hB3.size;omega);have hn3:w1.heap.size≠w3.heap.size:=(by omega)));exact bU (v:= .tuple #[.int .i64 0,.string ⟨#[]⟩,.int .i64 0,.int .i64 7]) (iG (t:=2) (u:=3) (v:=4) (x:=5) rfl _ _ _) rfl ⟨by rw[HJ.out];rfl,pF⟩
    ·have d1:(pn !=N)=true:=by simpa using x1
     have d1':((pn:Int) !=(N:Int))=true:=nX (by omega);have HJ:=zh (sJ Hj.out hlk (by rw[HF.out _ rfl,if_neg (fun h=>x1 h.1)]) K hkl);go_wp2_with (first | (go_at_call 170;refine(Dj _).out.mono ?_;rintro e w3 ⟨rfl,hB3⟩;have pF:Below w.heap.size w (w3.alloc (.cells #[.int .i64 pn,.int .i64 pp,.int .i64 pl,.string ⟨pt.toArray⟩] 235)):=((hBw.trans (hB3.mono hBw.size)).alloc (by have:=hB3.size;have:=hBw.size;omega) _);have g0:=(hB3.cell (p:=⟨w1.heap.size,0,none⟩) tN).trans f0;have g2:=(hB3.cell (p:=⟨w1.heap.size,2,none⟩) tN).trans f2;have hl3:w1.heap.size<w3.heap.size:=(by have:=hB3.size;omega);have hn3:w1.heap.size≠w3.heap.size:=(by omega)));exact bU (v:= .tuple #[.int .i64 0,.string ⟨#[]⟩,.int .i64 0,.int .i64 7]) (iG (t:=2) (u:=3) (v:=4) (x:=5) rfl _ _ _) rfl ⟨by rw[HJ.out];rfl,pF⟩
   ·have Dj:=fun w=>zh (BH hE w)
    have de:(ev !=0)=true:=nX hev;have hfit:uN N L k s.data.toList=none:=by
     unfold uN;rcases hno with h | h
     ·rw[if_neg (by rw[Di];exact h)]
     ·split
      ·rw[h]
      ·rfl
    have HF:=zh hfit;clear hfit hE hno hev;have HJ:=zh (sJ Hj.out hlk HF.out K hkl);go_wp2_with (first | (go_at_call 170;refine(Dj _).out.mono ?_;rintro e w3 ⟨rfl,hB3⟩;have pF:Below w.heap.size w (w3.alloc (.cells #[.int .i64 0,.int .i64 0,.int .i64 0,.string ⟨#[]⟩] 235)):=((hBw.trans (hB3.mono hBw.size)).alloc (by have:=hB3.size;have:=hBw.size;omega) _);have g0:=(hB3.cell (p:=⟨w1.heap.size,0,none⟩) tN).trans f0;have g2:=(hB3.cell (p:=⟨w1.heap.size,2,none⟩) tN).trans f2;have hl3:w1.heap.size<w3.heap.size:=(by have:=hB3.size;omega);have hn3:w1.heap.size≠w3.heap.size:=(by omega)));exact bU (v:= .tuple #[.int .i64 0,.string ⟨#[]⟩,.int .i64 0,.int .i64 7]) (iG (t:=2) (u:=3) (v:=4) (x:=5) rfl _ _ _) rfl ⟨by rw[HJ.out];rfl,pF⟩
  ·obtain rfl:k=K:=by omega
   have ajh:=pU hIB (bK _ wr).drew;have HS:=zh (Tryz.Builder_String_any (w1.heap.size+1) (w1.heap.size+1) T' wr.drew ajh (by show _<=wr.heap.size;omega));have hj2:j=⟨N,T',k,0⟩:=by rw[Hj.out,HJk.out]
   have HJ2:=zh hj2;clear hj2 ajh hIB;go_wp2_with fail
   go_region_held3 (fun w'=>w'.cell? ⟨w1.heap.size,0,none⟩=some (.int .i64 N)) (go_keep)
    (first
    | (go_at_call 134;refine HS.out.mono ?_;rintro e w5 ⟨rfl,oZ⟩;have y0:=(oZ.cell (p:=⟨w1.heap.size,0,none⟩) (Nat.lt_succ_self _)).trans f0))
   have hBe:Below w.heap.size w w5:=hBw.drew.trans (oZ.mono (by omega));go_wp2_with fail;exact bU (v:= .tuple #[.int .i64 N,.string ⟨T'.toArray⟩,.int .i64 k,.int .i64 0]) (iG (t:=2) (u:=3) (v:=4) (x:=5) rfl _ _ _) rfl ⟨by rw[HJ2.out];rfl,hBe⟩
end
end Go.Proofs.YtpghocekofdpbaaGreatDoor.Sec
