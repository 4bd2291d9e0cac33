import Derived.Test.YtpghocekofdpbaaGreatDoorRows
import Derived.Test.YtpghocekofdpbaaGreatDoorQr12
import Derived.WalkSpells
import Derived.WalkLawsBesides
import Derived.Test.YtpghocekofdpbaaGreatDoorQr01
import Derived.Test.YtpghocekofdpbaaGreatDoorQr02
import Derived.Shelf.RegionOpen
import Derived.LoopNIn
import Derived.LoopIn
namespace Go.Proofs.YtpghocekofdpbaaGreatDoor.Sec
open Go.RowKit
attribute [local go_sem] Oper.semAt_some
theorem qo {k:IntKind} {a b:Int} (h:a=b):Ending.returned (.int k a)= .returned (.int k b):=by rw[h]
theorem aaQ {a b:Int} (h:a=b):(a==b)=true:=beq_iff_eq.2 h
theorem lM {a b:Int} (h:a≠b):(a==b)=false:=FI.2 h
theorem nX {a b:Int} (h:a≠b):(a !=b)=true:=bne_iff_ne.2 h
theorem PY {a b:Int} (h:a=b):(a !=b)=false:=by rw[h];simp
def nV (n:Int):Int:=if 0<=n/\n<=8000 then aj n.toNat else 0
theorem count_any (n:Int) (w:World):Calls Tryz.prog 39 #[.int .i64 n] w fun e w'=>e= .returned (.int .i64 (nV n))/\w=w':=by
 by_cases h0:n<0
 ·go_enter Tryz.func39,Tryz.ntmps39;go_wp2_with fail;go_ret;exact⟨qo (by unfold nV;rw[if_neg (by omega)]),rfl⟩
 ·by_cases h1:8000<n
  ·go_enter Tryz.func39,Tryz.ntmps39;go_wp2_with fail;go_ret;exact⟨qo (by unfold nV;rw[if_neg (by omega)]),rfl⟩
  ·have h2:0<=n:=by omega
   have h3:n<=8000:=by omega
   go_enter Tryz.func39,Tryz.ntmps39;go_wp2_with fail;all_goals go_ret
   all_goals exact⟨qo (by unfold nV aj;rw[if_pos ⟨h2,h3⟩];omega),rfl⟩
def dM (l:List UInt8):List Value:=l.map fun b=>Value.int .u8 b.toNat
theorem Am (l:List UInt8):(dM l).length=l.length:=by simp[dM]
theorem oN (a b:List UInt8):dM (a++b)=dM a++dM b:=by simp[dM]
theorem tK:(Tryz.prog.info? 5).map (fun i=>(i.zero,i.size,i.bytes))=some (some (.int .u8 0),1,1):=by kernel_rfl
theorem info_parts {P:Program} {e:TypeId} {z:Value} {s b:Nat} (h:(P.info? e).map (fun i=>(i.zero,i.size,i.bytes))=some (some z,s,b)):∃ i,P.info? e=some i/\i.zero=some z/\i.size=s/\i.bytes=b:=by
 cases hi:P.info? e with
 | none=>rw[hi] at h;simp at h
 | some i=>rw[hi] at h;simp at h;exact⟨i,rfl,h.1,h.2.1,h.2.2⟩
theorem DK:∀ (k n:Nat),jJ n (k+1)=jJ n k++ [UInt8.ofNat (n/256^k % 256)]
 | 0,n=>by simp[jJ]
 | k+1,n=>by
  have:=DK k (n/256);rw[jJ,this,jJ,Nat.div_div_eq_div_mul,<-Nat.pow_succ'];rfl
theorem byte_at (num k:Nat):((num:Int)/2^(8*k) % 256)=((UInt8.ofNat (num/256^k % 256)).toNat:Int):=by
 have h:(2:Nat)^(8*k)=256^k:=by rw[Nat.pow_mul]
 rw[<-h];simp
set_option maxHeartbeats 4000000 in
set_option maxRecDepth 100000 in
theorem DL (w:World) (base:Nat) (v:Value) (n:Nat) (xs:List Value) (hown:w.ownsRow base 5 1 v n xs) (num size:Nat) (_hnum:num<18446744073709551616) (hs:size<=8) (hn:n<=1000) (hb:base<=w.heap.size):
  Calls Tryz.prog 176 #[v,.int .u64 num,.int .i64 size] w fun e w'=>∃ v',e= .returned v'/\w'.ownsRow base 5 1 v' (n+size) (xs++dM (jJ num size))/\Below base w w':=by
 obtain⟨i0,hi,hz0,hz1,hz2⟩:=info_parts tK;have hle:Hid (n+8<=maxLen):=by unfold Hid maxLen;omega
 go_enter Tryz.func176,Tryz.ntmps176;go_wp2_with fail;go_loopw [0,9] (fun b i wr=>∃ k:Nat,k<=size/\i= .int .i64 k/\wr.ownsRow base 5 1 b (n+k) (xs++dM (jJ num k))/\Below base w wr) (fun _ i _=>size-(intOf i).toNat)
 case atStart=>exact⟨0,iT _,rfl,by simpa [jJ,dM] using hown,bK _ _⟩
 case round=>
  obtain⟨k,hk,rfl,hrow,hB⟩:=hrel;have hBs:=hB.size;clear hown;by_cases hkl:k<size
  ·have hbyte:=zh (byte_at num k);go_wp2_with (at_builtin;refine wpList_append_own _ rfl _ _ 66 rfl base 5 i0 _ 1 1 Tryz.underlying66 hi hz0 hz1 hz2 rfl (by decide) _ (n+k) (xs++dM (jJ num k)) rfl (hrow.alloc _) ⟨wr.heap.size,0,none⟩ 1 1 [.int .u8 (↑num/2^(8*k) % 256)] rfl rfl ?c1 ?c2 ?c3 ?c4 ?c5 ?_)
   case c1=>exact cell_one_new _ _ _
   case c2=>simp[Value.oneCell']
   case c3=>have:=hle.out;omega
   case c4=>omega
   case c5=>simp;omega
   intro v' w3 hown3 hg3 _;have hB3:Below base w w3:=(hB.alloc (by omega) _).grown hg3 (by simp;omega) (fun g e=>(hrow.lt g e).1);have hown4:Hid (w3.ownsRow base 5 1 v' (n+(k+1)) (xs++dM (jJ num (k+1)))):=by
    unfold Hid;rw[DK,oN,<-Em];have e:dM [UInt8.ofNat (num/256^k % 256)]= [.int .u8 (↑num/2^(8*k) % 256)]:=by rw[hbyte.out];rfl
    rw[e];rw[Em];exact hown3
   clear hg3 hown3 hrow;go_wp2_with fail;go_roundw
   case rel=>exact⟨k+1,by omega,by go_num,hown4.out,hB3⟩
   case measure=>simp[intOf];omega
  ·obtain rfl:k=size:=by omega
   go_wp2_with fail;go_ret;exact⟨_,rfl,hrow,hB⟩
set_option maxHeartbeats 4000000 in
set_option maxRecDepth 100000 in
theorem yV (w:World) (base:Nat) (v:Value) (n:Nat) (xs:List Value) (hown:w.ownsRow base 5 1 v n xs) (num size:Nat) (_hnum:num<65536) (hs:size<=2) (hn:n<=1000) (hb:base<=w.heap.size):
  Calls Tryz.prog 177 #[v,.int .u16 num,.int .i64 size] w fun e w'=>∃ v',e= .returned v'/\w'.ownsRow base 5 1 v' (n+size) (xs++dM (jJ num size))/\Below base w w':=by
 obtain⟨i0,hi,hz0,hz1,hz2⟩:=info_parts tK;have hle:Hid (n+8<=maxLen):=by unfold Hid maxLen;omega
 go_enter Tryz.func177,Tryz.ntmps177;go_wp2_with fail;go_loopw [0,9] (fun b i wr=>∃ k:Nat,k<=size/\i= .int .i64 k/\wr.ownsRow base 5 1 b (n+k) (xs++dM (jJ num k))/\Below base w wr) (fun _ i _=>size-(intOf i).toNat)
 case atStart=>exact⟨0,iT _,rfl,by simpa [jJ,dM] using hown,bK _ _⟩
 case round=>
  obtain⟨k,hk,rfl,hrow,hB⟩:=hrel;have hBs:=hB.size;clear hown;by_cases hkl:k<size
  ·have hbyte:=zh (byte_at num k);go_wp2_with (at_builtin;refine wpList_append_own _ rfl _ _ 66 rfl base 5 i0 _ 1 1 Tryz.underlying66 hi hz0 hz1 hz2 rfl (by decide) _ (n+k) (xs++dM (jJ num k)) rfl (hrow.alloc _) ⟨wr.heap.size,0,none⟩ 1 1 [.int .u8 (↑num/2^(8*k) % 256)] rfl rfl ?c1 ?c2 ?c3 ?c4 ?c5 ?_)
   case c1=>exact cell_one_new _ _ _
   case c2=>simp[Value.oneCell']
   case c3=>have:=hle.out;omega
   case c4=>omega
   case c5=>simp;omega
   intro v' w3 hown3 hg3 _;have hB3:Below base w w3:=(hB.alloc (by omega) _).grown hg3 (by simp;omega) (fun g e=>(hrow.lt g e).1);have hown4:Hid (w3.ownsRow base 5 1 v' (n+(k+1)) (xs++dM (jJ num (k+1)))):=by
    unfold Hid;rw[DK,oN,<-Em];have e:dM [UInt8.ofNat (num/256^k % 256)]= [.int .u8 (↑num/2^(8*k) % 256)]:=by rw[hbyte.out];rfl
    rw[e];rw[Em];exact hown3
   clear hg3 hown3 hrow;go_wp2_with fail;go_roundw
   case rel=>exact⟨k+1,by omega,by go_num,hown4.out,hB3⟩
   case measure=>simp[intOf];omega
  ·obtain rfl:k=size:=by omega
   go_wp2_with fail;go_ret;exact⟨_,rfl,hrow,hB⟩
theorem La:∀ (l:List UInt8) (b:UInt8),bQ (l++ [b])=bQ l+256^l.length*b.toNat
 | [],b=>by simp[bQ]
 | a::l,b=>by
  rw[List.cons_append,bQ,bQ,La l b,AY,Nat.pow_succ,Nat.mul_add];rw[Nat.mul_comm (256^l.length) 256,<-Nat.mul_assoc,Nat.add_assoc]
theorem agk (g b k:Nat) (hg:g<2^(8*k)):(g ||| b*2^(8*k))=g+2^(8*k)*b:=by
 rw[Nat.or_comm,Nat.mul_comm b,Nat.add_comm];exact(Nat.two_pow_add_eq_or_of_lt hg b).symm
theorem yS (n:Nat) (h:n<18446744073709551616):IntKind.u64.wrap (n:Int)=n:=by
 simp[IntKind.wrap,IntKind.bits,IntKind.signed];omega
theorem adN (G b k:Nat) (hG:G<256^k) (hb:b<256) (hk:k<8):bits .or .u64 (G:Int) (IntKind.u64.wrap (IntKind.u64.wrap (b:Int)*2^(8*k)))=((G+256^k*b:Nat):Int):=by
 have h2:(256:Nat)^k=2^(8*k):=by rw[Nat.pow_mul]
 rw[h2] at hG ⊢;have hX:(2:Nat)^(8*k)<=2^56:=Nat.pow_le_pow_right (by decide) (by omega);have hm:b*2^(8*k)<=255*2^(8*k):=Nat.mul_le_mul_right _ (by omega);rw[yS b (by omega),show(b:Int)*2^(8*k)=((b*2^(8*k):Nat):Int) by simp,yS _ (by omega),u64_or_nat _ _ (by omega) (by omega),agk _ _ _ hG]
set_option maxHeartbeats 4000000 in
set_option maxRecDepth 100000 in
theorem get_any (w:World) (s:ByteArray) (hs:s.size<=8):
  Calls Tryz.prog 185 #[.string s] w fun e w'=>e= .returned (.int .u64 (bQ s.data.toList:Nat))/\w=w':=by
 have hm:s.size<=maxLen:=by unfold maxLen;omega
 unfold maxLen at hm;go_enter Tryz.func185,Tryz.ntmps185;go_wp2_with fail
 go_loop [2,6] (fun g i=>∃ k:Nat,k<=s.size/\i= .int .i64 k/\g= .int .u64 (bQ (s.data.toList.take k):Nat)) (fun _ i=>s.size-(intOf i).toNat)
 case atStart=>exact⟨0,iT _,rfl,rfl⟩
 case round=>
  obtain⟨k,hk,rfl,rfl⟩:=hrel;by_cases hkl:k<s.size
  ·have hlt:=GH (s.data.toList.take k);have hl:(s.data.toList.take k).length=k:=by rw[ou,Di];have:s.data.size=s.size:=rfl;omega
   rw[hl] at hlt;have hts:s.data.toList.take (k+1)=s.data.toList.take k++ [s[k]]:=by
    rw[List.take_succ_eq_append_getElem (by rw[Di];exact hkl)];rfl
   have HS:Hid (bQ (s.data.toList.take (k+1))=bQ (s.data.toList.take k)+256^k*s[k].toNat):=by
    unfold Hid;rw[hts,La,hl]
   clear hts hl;generalize bQ (s.data.toList.take k)=G at hlt HS ⊢;have ho:=zh (adN G s[k].toNat k hlt (UInt8.toNat_lt _) (by omega));clear hlt;go_wp2_with fail
   go_round
   case rel=>exact⟨k+1,by omega,by go_num,by rw[ho.out,HS.out]⟩
   case measure=>simp[intOf];omega
  ·obtain rfl:k=s.size:=by omega
   go_wp2_with fail;go_ret;refine⟨?_,rfl⟩;show Ending.returned (.int .u64 (bQ (s.data.toList.take s.size):Nat))=_
   rw[uo (by rw[Di];exact aF _)]
end Go.Proofs.YtpghocekofdpbaaGreatDoor.Sec
namespace Go.Proofs.YtpghocekofdpbaaGreatDoor.Sec
open Go.RowKit Go.Shelf
attribute [local go_sem] Oper.semAt_some
theorem DR (n:Nat) (h:n<=8000) (w:World):Calls Tryz.prog 39 #[.int .i64 n] w fun e w'=>e= .returned (.int .i64 (aj n:Nat))/\w=w':=by
 refine(count_any n w).mono ?_;rintro e w' ⟨rfl,rfl⟩;exact⟨qo (by unfold nV;rw[if_pos ⟨by omega,by omega⟩];simp),rfl⟩
def gJ (number:Nat) (rec:ByteArray) (i:Nat):ByteArray:=⟨(eH number rec.data.toList i).toArray⟩
theorem Ud (w:World):(Instr.makeSlice 66 (.int .i64 0) (.int .i64 64)).run Tryz.prog w= .ok (.slice (some ⟨w.heap.size,0,none⟩) 0 64) (w.alloc (.cells (Array.replicate 64 (.int .u8 0)) 5)):=by kernel_rfl
theorem aJ {w:World} {base:Nat} {e:TypeId} {size:Nat} {v:Value} {n:Nat} {xs:List Value} (h:w.ownsRow base e size v n xs):∃ A c,v= .slice A n c:=by
 rcases h.2 with⟨rfl,rfl⟩ | ⟨g,cap,_,rfl,_⟩
 ·exact⟨none,0,rfl⟩
 ·exact⟨_,_,rfl⟩
theorem yY {w:World} {base n:Nat} {v:Value} (l:List UInt8) (h:w.ownsRow base 5 1 v n (dM l)) (hn:0<n):
  ∃ g c,v= .slice (some ⟨g,0,none⟩) n c/\(convert 66 9 v).run Tryz.prog w= .ok (.string ⟨l.toArray⟩) w:=by
 have hl:l.length=n:=by have:=h.1;rw[Am] at this;omega
 rcases h.2 with⟨rfl,h0⟩ | ⟨g,cap,cur,rfl,_,hg,hnc,hcm,hcs,ht⟩
 ·omega
 ·refine⟨g,cap,rfl,?_⟩;have hc:=run_convert_bytes_back (P:=Tryz.prog) w 66 9 5 ⟨g,0,none⟩ cap l Tryz.underlying66 Tryz.underlying5 Tryz.underlying9 (fun j hj=>by
   have hj':=h.cells (g:=g) rfl j (.int .u8 l[j].toNat) (by unfold dM;rw[sD,jB hj];rfl);exact hj')
  rw[hl] at hc;exact hc
theorem Ld (w:World) (base:Nat) (v:Value) (m:Nat) (xs:List Value) (h:w.ownsRow base 5 1 v m xs) (h1:12<=m) (h2:m<=56) (hb:base<=w.heap.size):
  ∃ v' w',(Builtin.append_ #[66,3] 66 #[v,.int .i64 (56-(m:Int))]).run Tryz.prog w= .ok v' w'/\(w'.ownsRow base 5 1 v' 56 (xs++List.replicate (56-m) (.int .u8 0))/\w.grownBy w' v.ownBlock):=by
 obtain⟨i0,hi,hz0,hz1,hz2⟩:=info_parts tK;obtain⟨v',w',hr,ho,hg⟩:=xM (P:=Tryz.prog) w base 66 3 66 5 i0 .i64 .i64 Tryz.underlying66 Tryz.underlying3 hi hz0 hz1 hz2 v m xs h (by omega) (56-m) (by omega) hb;rw[show m+(56-m)=56 by omega] at ho;rw[show((56-m:Nat):Int)=56-(m:Int) by omega] at hr;exact⟨v',w',hr,ho,hg⟩
theorem Qa (k:Nat):List.replicate k (Value.int .u8 0)=dM (List.replicate k 0):=by simp[dM]
theorem pack_cells (number:Nat) (rec:List UInt8) (k m:Nat) (R T:ByteArray) (hR:R.data.toList=rec.drop (44*k)) (hT:T.data.toList=R.data.toList.take 44) (hm:0+8+2+2+T.size=m):
  []++dM (jJ number 8)++dM (jJ k 2)++dM (jJ R.size 2)++Lib.strCells T++List.replicate (56-m) (.int .u8 0)++dM (jJ number 8)=dM (eH number rec k):=by
 have e1:Lib.strCells T=dM T.data.toList:=rfl;have e2:R.size=(rec.drop (44*k)).length:=by rw[<-hR,Di];rfl
 have e3:T.size=((rec.drop (44*k)).take 44).length:=by rw[<-hR,<-hT,Di];rfl
 rw[e1,Qa,hT,hR,e2,<-hm,e3,show 56-(0+8+2+2+((rec.drop (44*k)).take 44).length)=44-((rec.drop (44*k)).take 44).length by omega];unfold eH;simp only[oN,GI,Em]
def WQ (Br Bn number:Nat) (rec:ByteArray) (W:World):Prop:=W.cell? ⟨Br,0,none⟩=some (.string rec)/\W.cell? ⟨Bn,0,none⟩=some (.int .i64 number)
set_option maxRecDepth 100000 in
set_option maxHeartbeats 4000000 in
theorem Qb (n:Nat) (hn:1<=n) (Br Bn number:Nat) (rec:ByteArray) (h1:1<=number) (h2:number<=bn) (hr:rec.size<=8000):
  PX Fence.wide n Tryz.prog 175 #[.pointer (some ⟨Br,0,none⟩),.pointer (some ⟨Bn,0,none⟩)] (fun i:Nat=> #[.string (gJ number rec i)])
   (fun _=>WQ Br Bn number rec) (fun pre i=>i<aj rec.size/\pre=List.range i) (fun xs=>xs=List.range (aj rec.size)):=by
 intro l J W hG hJ hY h0;have HG:=zh hG;have HJ:=zh hJ;have HY:=zh hY;clear hG hJ hY;obtain⟨hcr,hcn⟩:=HG.out [] W h0;have hm:rec.size<=maxLen:=by unfold maxLen;omega
 unfold maxLen at hm;refine callsIn_of_wp Tryz.func175 rfl trivial ?_ rfl;simp only[Tryz.ntmps175,mG,AY,zag,Nat.reduceAdd,Nat.reduceSub,Array.replicate_succ,Array.replicate_zero,List.push_toArray,List.append_toArray,GI,List.cons_append];have HC:=fun w=>zh (callsIn_wide (n:=n-1) |>.2 (DR rec.size hr w))
 gi_wp2_with (refine⟨trivial,?_⟩;gi_at_call 39;refine(HC _).out.mono ?_;rintro e w1 ⟨rfl,rfl⟩);obtain⟨N,hN⟩:∃ N,aj rec.size=N:=⟨_,rfl⟩;have hN1:N<=182:=by rw[<-hN];unfold aj;omega
 have HN:=zh hN;rw[hN];clear hN
 gi_loopw [10] (fun i wr=>∃ k:Nat,k<=N/\i= .int .i64 k/\J (List.range k) wr) (fun i _=>N-(intOf i).toNat)
 case atStart=>exact⟨0,iT _,rfl,h0⟩
 case round=>
  obtain⟨k,hk,rfl,Jw⟩:=hrel;clear hcr hcn;obtain⟨hcr,hcn⟩:=HG.out _ wr Jw;by_cases hlt:k<N
  ·have hkr:44*k<=rec.size:=by
    have:=HN.out;unfold aj at this;omega
   have hw64:IntKind.u64.wrap (number:Int)=number:=yS _ (by unfold bn at h2;omega);have hwd:IntKind.u64.wrap (number:Int)=number:=hw64;gi_wp2_with fail;have hP:=fun v1 (h:(wr.drew.alloc (.cells (Array.replicate 64 (.int .u8 0)) 5)).ownsRow wr.heap.size 5 1 v1 0 [])=>zh (DL (wr.drew.alloc (.cells (Array.replicate 64 (.int .u8 0)) 5)) wr.heap.size v1 0 [] h number 8 (by unfold bn at h2;omega) (by decide) (by decide) (by simp))
   have hown0:(wr.drew.alloc (.cells (Array.replicate 64 (.int .u8 0)) 5)).ownsRow wr.heap.size 5 1 (.slice (some ⟨wr.heap.size,0,none⟩) 0 64) 0 []:=World.ownsRow_made wr.drew _ 64 (aF _) (by unfold maxLen;decide) (by simp);have hP0:=hP _ hown0;clear hP hown0;have hmk:=Ud;refine wpIn_wide.2 ?_
   go_region_held3 (fun w'=>w'.cell? ⟨Bn,0,none⟩=some (.int .i64 number)) (go_keep)
    (first
    | (go_at_call 176;refine hP0.out.mono ?_;rintro e w1 ⟨v1,rfl,hr1,hB1⟩;have hz1:=hB1.cell (p:=⟨Bn,0,none⟩) (World.block_lt_of_cell? _ _ hcn)))
   have adT:Below wr.heap.size wr w1:=((bK _ wr).drew.alloc (aF _) _).trans hB1;clear hz1 hP0 hmk hB1;have hRl:(rec.extract (k*44) rec.size).data.toList=rec.data.toList.drop (44*k):=by
    rw[ByteArray.data_extract,Array.toList_extract,List.extract_eq_take_drop,uo (by simp),Nat.mul_comm]
   generalize hRR:rec.extract (k*44) rec.size=R at hRl;have hRs:R.size=rec.size-44*k:=by
    have:=congrArg List.length hRl
    simpa using this
   have HRl:=zh hRl;have HRs:=zh hRs;have hRm:R.size<=8000:=by omega
   have hwk:IntKind.u16.wrap (k:Int)=k:=by simp[IntKind.wrap,IntKind.bits,IntKind.signed];omega
   have hwr:IntKind.u16.wrap (R.size:Int)=R.size:=by simp[IntKind.wrap,IntKind.bits,IntKind.signed];omega
   have agu:k<65536:=by omega
   have ajc:=(adT.cell (p:=⟨Bn,0,none⟩) (World.block_lt_of_cell? _ _ hcn)).trans hcn;have ajd:=adT.size;clear hRl hRs hRR hw64;obtain⟨i0,hi,hz0,hz1,hz2⟩:=info_parts tK;have hnum:number<18446744073709551616:=by unfold bn at h2;omega
   have hkN:k<aj rec.size:=by rw[HN.out];exact hlt
   by_cases amK:R.size<44
   ·have hmin:(R.size:Int)<44:=by omega
    have hTl:(R).data.toList=R.data.toList.take 44:=by rw[uo (by rw[Di];exact Nat.le_of_lt amK)]
    have amL:R.size<=44:=by omega
    have HTl:=zh hTl;clear hTl;gi_wp2_with (first
     | (refine⟨trivial,?_⟩;gi_at_call 176;refine(callsIn_wide.2 (DL _ wr.heap.size _ _ _ F5 number 8 hnum (by decide) (by decide) agv)).mono ?_;rintro e w6 ⟨v6,rfl,hr6,pJ⟩;rw[pack_cells number rec.data.toList k m R (R) HRl.out HTl.out HM.out] at hr6;obtain⟨g6,c6,rfl,hcv⟩:=yY _ hr6 (by decide);have Ue:=HJ.out _ _ _ Jw (adT.trans (hB2.trans (hB3.trans (hB4.trans (oZ.trans pJ)))));obtain⟨fn,tmps,assign,body,hy,hR⟩:=HY.out (List.range k) k w6 Ue ⟨hkN,rfl⟩;dsimp only[gJ] at hy;have HR:=zh hR;clear hR hr6)
     | (gi_at_builtin;refine jr _ rfl _ _ 66 3 rfl _ _ rfl rfl _ (Ld _ _ _ _ _ hr4 h12 h56 aaX) ?_;intro v5 w5 hh5;obtain⟨F5,hg5⟩:=hh5;have oZ:=(bK wr.heap.size w4).grown hg5 aaX (fun g e=>(hr4.lt g e).1);have agv:wr.heap.size<=w5.heap.size:=(by have:=oZ.size;omega);have amN:=((hB2.trans (hB3.trans (hB4.trans oZ))).cell (p:=⟨Bn,0,none⟩) (World.block_lt_of_cell? _ _ hcn)).trans ajc;clear hg5)
     | (refine⟨trivial,?_⟩;gi_at_call 177;refine(callsIn_wide.2 (yV _ wr.heap.size _ _ _ hr2 R.size 2 (by omega) (by decide) (by omega) (by have:=hB2.size;omega))).mono ?_;rintro e w3 ⟨v3,rfl,hr3,hB3⟩;have aaY:wr.heap.size<=w3.heap.size:=(by have:=hB2.size;have:=hB3.size;omega))
     | (refine⟨trivial,?_⟩;gi_at_call 177;refine(callsIn_wide.2 (yV _ wr.heap.size _ _ _ hr1 k 2 agu (by decide) (by omega) ajd)).mono ?_;rintro e w2 ⟨v2,rfl,hr2,hB2⟩)
     | (gi_at_builtin;refine jr _ rfl _ _ 66 9 rfl _ (.string (R)) rfl rfl _ (Lib.run_append_own_string (P:=Tryz.prog) w3 wr.heap.size 66 9 _ 5 i0 Tryz.underlying66 Tryz.underlying9 hi hz0 hz1 hz2 v3 _ _ hr3 (R) (by unfold maxLen;omega) (by omega) aaY) ?_;intro v4 w4 hh4;obtain⟨hr4,hg4,_⟩:=hh4;have hB4:=(bK wr.heap.size w3).grown hg4 aaY (fun g e=>(hr3.lt g e).1);clear hg4;obtain⟨m,Uf⟩:∃ m,0+8+2+2+(R).size=m:=⟨_,rfl⟩;rw[Uf] at hr4;have h12:12<=m:=(by omega);have h56:m<=56:=(by omega);have HM:=zh Uf;clear Uf;have aaX:wr.heap.size<=w4.heap.size:=(by have:=hB4.size;omega);obtain⟨A4,c4,rfl⟩:=aJ hr4))
    refine HR.out.mono ?_;rintro e W' ⟨rfl,hJ'⟩
    gi_wp2
    go_roundw
    case rel=>exact⟨k+1,by omega,by go_num,by rw[List.range_succ];exact hJ'⟩
    case measure=>simp[intOf];omega
   ·have hmin:¬ (R.size:Int)<44:=by omega
    have hTl:(R.extract 0 44).data.toList=R.data.toList.take 44:=by rw[ByteArray.data_extract,Array.toList_extract,List.extract_eq_take_drop];rfl
    have amL:(R.extract 0 44).size<=44:=by rw[WJ];omega
    have HTl:=zh hTl;clear hTl;gi_wp2_with (first
     | (refine⟨trivial,?_⟩;gi_at_call 176;refine(callsIn_wide.2 (DL _ wr.heap.size _ _ _ F5 number 8 hnum (by decide) (by decide) agv)).mono ?_;rintro e w6 ⟨v6,rfl,hr6,pJ⟩;rw[pack_cells number rec.data.toList k m R (R.extract 0 44) HRl.out HTl.out HM.out] at hr6;obtain⟨g6,c6,rfl,hcv⟩:=yY _ hr6 (by decide);have Ue:=HJ.out _ _ _ Jw (adT.trans (hB2.trans (hB3.trans (hB4.trans (oZ.trans pJ)))));obtain⟨fn,tmps,assign,body,hy,hR⟩:=HY.out (List.range k) k w6 Ue ⟨hkN,rfl⟩;dsimp only[gJ] at hy;have HR:=zh hR;clear hR hr6)
     | (gi_at_builtin;refine jr _ rfl _ _ 66 3 rfl _ _ rfl rfl _ (Ld _ _ _ _ _ hr4 h12 h56 aaX) ?_;intro v5 w5 hh5;obtain⟨F5,hg5⟩:=hh5;have oZ:=(bK wr.heap.size w4).grown hg5 aaX (fun g e=>(hr4.lt g e).1);have agv:wr.heap.size<=w5.heap.size:=(by have:=oZ.size;omega);have amN:=((hB2.trans (hB3.trans (hB4.trans oZ))).cell (p:=⟨Bn,0,none⟩) (World.block_lt_of_cell? _ _ hcn)).trans ajc;clear hg5)
     | (refine⟨trivial,?_⟩;gi_at_call 177;refine(callsIn_wide.2 (yV _ wr.heap.size _ _ _ hr2 R.size 2 (by omega) (by decide) (by omega) (by have:=hB2.size;omega))).mono ?_;rintro e w3 ⟨v3,rfl,hr3,hB3⟩;have aaY:wr.heap.size<=w3.heap.size:=(by have:=hB2.size;have:=hB3.size;omega))
     | (refine⟨trivial,?_⟩;gi_at_call 177;refine(callsIn_wide.2 (yV _ wr.heap.size _ _ _ hr1 k 2 agu (by decide) (by omega) ajd)).mono ?_;rintro e w2 ⟨v2,rfl,hr2,hB2⟩)
     | (gi_at_builtin;refine jr _ rfl _ _ 66 9 rfl _ (.string (R.extract 0 44)) rfl rfl _ (Lib.run_append_own_string (P:=Tryz.prog) w3 wr.heap.size 66 9 _ 5 i0 Tryz.underlying66 Tryz.underlying9 hi hz0 hz1 hz2 v3 _ _ hr3 (R.extract 0 44) (by unfold maxLen;omega) (by omega) aaY) ?_;intro v4 w4 hh4;obtain⟨hr4,hg4,_⟩:=hh4;have hB4:=(bK wr.heap.size w3).grown hg4 aaY (fun g e=>(hr3.lt g e).1);clear hg4;obtain⟨m,Uf⟩:∃ m,0+8+2+2+(R.extract 0 44).size=m:=⟨_,rfl⟩;rw[Uf] at hr4;have h12:12<=m:=(by omega);have h56:m<=56:=(by omega);have HM:=zh Uf;clear Uf;have aaX:wr.heap.size<=w4.heap.size:=(by have:=hB4.size;omega);obtain⟨A4,c4,rfl⟩:=aJ hr4))
    refine HR.out.mono ?_;rintro e W' ⟨rfl,hJ'⟩
    gi_wp2
    go_roundw
    case rel=>exact⟨k+1,by omega,by go_num,by rw[List.range_succ];exact hJ'⟩
    case measure=>simp[intOf];omega
  ·obtain rfl:k=N:=by omega
   gi_wp2
   go_end0;exact⟨⟨_,rfl⟩,_,by rw[HN.out],Jw⟩
end Go.Proofs.YtpghocekofdpbaaGreatDoor.Sec
