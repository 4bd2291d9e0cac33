import Derived.Test.YtpghocekofdpbaaGreatDoorQr19
namespace Go.Proofs.YtpghocekofdpbaaGreatDoor.Sec
open Go.RowKit Go.Shelf
attribute [local go_sem] Oper.semAt_some
theorem xR {s:List UInt8} {p:xw} (h:dw s=some p):p.left<=8000/\p.number<=bn/\1<=p.number:=by
 unfold dw at h;split at h
 ·rename_i hc;cases h;exact⟨by have:=hc.2.2.2.1;dsimp only;omega,hc.2.2.1,hc.2.1⟩
 ·cases h
theorem aaM {w:World} {v:Value} {l:List ByteArray} (h:tH w v l):
  Calls Tryz.prog 148 #[v] w fun e w'=>e= .returned (KT (oD l))/\Below w.heap.size w w':=by
 obtain⟨A,c,rfl,hc,hm,hat⟩:=h;cases l with
 | nil=>exact join_nil A c
 | cons s0 r=>
  obtain⟨b,o,rfl,hb,hcell⟩:=hat (by simp);have hc0:w.cell? ⟨b,o,none⟩=some (.string s0):=hcell 0 s0 rfl;have hlen:(s0::r).length<=maxLen:=fU hc hm;rcases sH s0 with⟨p,hsz,hop,hE⟩ | ⟨hno,ev,hev,hE⟩
  ·obtain⟨f1,f2,f3⟩:=xR hop;have hsz':s0.data.toList.length=64:=by rw[Di];exact hsz
   by_cases hp:p.part=0
   ·have hE':nY s0=(bW p.number 0 p.left ⟨p.text.toArray⟩,0):=by rw[hE,hp];rfl
    by_cases hs:(s0::r).length<aj p.left
    ·have hj:oD (s0::r)=⟨0,[],0,7⟩:=by
      unfold oD joinL;rw[List.map_cons];dsimp only;rw[if_pos hsz',hop];dsimp only;rw[if_pos hp,if_pos (by simpa using hs)]
     rw[hj];exact Ug b o _ c (by simp) s0 hc0 p.number p.left _ hE' f1 hs hlen
    ·refine Yv b o c (s0::r) s0 hc0 p.number p.left _ hE' f1 f2 (by omega) hc hm hb hcell _ ?_;unfold oD joinL;rw[List.map_cons];dsimp only;rw[if_pos hsz',hop];dsimp only;rw[if_pos hp,if_neg (by simpa using hs)];rfl
   ·have hj:oD (s0::r)=⟨0,[],0,11⟩:=by
     unfold oD joinL;rw[List.map_cons];dsimp only;rw[if_pos hsz',hop];dsimp only;rw[if_neg hp]
    rw[hj];exact G5 b o _ c (by simp) s0 hc0 p.number p.part p.left _ 0 hE (.inr (by omega)) hlen
  ·have hj:oD (s0::r)=⟨0,[],0,11⟩:=by
    unfold oD joinL;rw[List.map_cons];dsimp only;rcases hno with h | h
    ·rw[if_neg (by rw[Di];exact h)]
    ·rw[h];split<;>rfl
   rw[hj];exact G5 b o _ c (by simp) s0 hc0 0 0 0 _ ev hE (.inl hev) hlen
theorem Uh (n:Int) (w:World):Calls Tryz.prog 40 #[.int .i64 n] w fun e w'=>e= .returned (.int .i64 (nV n))/\w=w':=by
 by_cases h0:n<0
 ·go_enter Tryz.func40,Tryz.ntmps40;go_wp2_with fail;go_ret;exact⟨qo (by unfold nV;rw[if_neg (by omega)]),rfl⟩
 ·by_cases h1:8000<n
  ·go_enter Tryz.func40,Tryz.ntmps40;go_wp2_with fail;go_ret;exact⟨qo (by unfold nV;rw[if_neg (by omega)]),rfl⟩
  ·have h2:0<=n:=by omega
   have h3:n<=8000:=by omega
   go_enter Tryz.func40,Tryz.ntmps40;go_wp2_with fail;all_goals go_ret
   all_goals exact⟨qo (by unfold nV aj;rw[if_pos ⟨h2,h3⟩];omega),rfl⟩
theorem GY (n:Nat) (h:n<=8000) (w:World):Calls Tryz.prog 40 #[.int .i64 n] w fun e w'=>e= .returned (.int .i64 (aj n:Nat))/\w=w':=by
 refine(Uh n w).mono ?_;rintro e w' ⟨rfl,rfl⟩;exact⟨qo (by unfold nV;rw[if_pos ⟨by omega,by omega⟩];simp),rfl⟩
def P7 (l:List UInt8):Int:=if bQ l<=bn then bQ l else -1
theorem G6:∀ (j:Nat) (l:List UInt8),j<=l.length->bQ l=bQ (l.take j)+256^j*bQ (l.drop j)
 | 0,l,_=>by simp[bQ]
 | j+1,[],h=>by simp at h
 | j+1,b::l,h=>by
  have:=G6 j l (by simpa using h);rw[List.take_succ_cons,List.drop_succ_cons,bQ,bQ,this,Nat.mul_add,Nat.pow_succ,Nat.mul_comm (256^j) 256,Nat.mul_assoc,Nat.add_assoc]
theorem drop_step {l:List UInt8} {j:Nat} {b:UInt8} (h:l[j]? =some b):bQ (l.drop j)=b.toNat+256*bQ (l.drop (j+1)):=by
 rw[List.drop_eq_getElem_cons (List.getElem?_eq_some_iff.1 h).1,bQ,(List.getElem?_eq_some_iff.1 h).2]
set_option maxHeartbeats 4000000 in
set_option maxRecDepth 100000 in
theorem GV (w:World) (s:ByteArray) (hs:s.size<=8):
  Calls Tryz.prog 189 #[.string s] w fun e w'=>e= .returned (.int .i64 (P7 s.data.toList))/\w=w':=by
 have hlen:s.data.toList.length=s.size:=Di;have hm:s.size<=maxLen:=by unfold maxLen;omega
 unfold maxLen at hm;go_enter Tryz.func189,Tryz.ntmps189;go_wp2_with fail
 go_loop [3,4] (fun n i=>∃ (j:Nat) (i0:Int),j<=s.size/\i= .int .i64 i0/\i0=(j:Int)-1/\n= .int .i64 (bQ (s.data.toList.drop j):Nat)/\bQ (s.data.toList.drop j)<=4611686018427388159) (fun _ i=>(intOf i+1).toNat)
 case atStart=>exact⟨s.size,_,aF _,rfl,rfl,by rw[List.drop_eq_nil_of_le (by rw[hlen];exact aF _)];rfl,by rw[List.drop_eq_nil_of_le (by rw[hlen];exact aF _)];decide⟩
 case round=>
  obtain⟨j,i0,hj,rfl,hi0,rfl,hbd⟩:=hrel;by_cases h0:0<=i0
  ·obtain⟨t,rfl⟩:=Int.eq_ofNat_of_zero_le h0;have htj:j=t+1:=by omega
   subst htj;clear hi0 h0;have ht:t<s.size:=by omega
   have hstep:=drop_step (l:=s.data.toList) (j:=t) (b:=s[t]) (by rw[jB (by rw[hlen];exact ht)];rfl);have aji:=G6 (t+1) s.data.toList (by rw[hlen];exact hj);have hb:=s[t].toNat_lt;have Qg:=zh hstep;have HSp:=zh aji;clear hstep aji;generalize bQ (s.data.toList.drop (t+1))=n at hbd Qg HSp ⊢;by_cases hn:18014398509481984<n
   ·have hz:P7 s.data.toList= -1:=by
     unfold P7;rw[if_neg];have hp:256<=256^(t+1):=by rw[Nat.pow_succ];exact Nat.le_mul_of_pos_left _ (Nat.pow_pos (by decide))
     have:=Nat.mul_le_mul hp (Nat.le_of_lt hn);have h2:=HSp.out;have h3:256*n<=256^(t+1)*n:=Nat.mul_le_mul_right _ hp;unfold bn;omega
    have HZ:=zh hz;clear hz;go_wp2_with fail;go_ret;exact⟨by rw[HZ.out];rfl,rfl⟩
   ·go_wp2_with fail
    go_round
    case rel=>exact⟨t,(t:Int)-1,by omega,rfl,rfl,by rw[Qg.out];go_num,by rw[Qg.out];omega⟩
    case measure=>simp[intOf]
  ·have hj0:j=0:=by omega
   subst hj0;have HI:=zh hi0;clear hi0;rw[List.drop_zero] at hbd ⊢;have hz:P7 s.data.toList=if bQ s.data.toList<=bn then (bQ s.data.toList:Int) else -1:=rfl
   have HZ:=zh hz;clear hz;generalize bQ s.data.toList=n at hbd HZ ⊢;by_cases hn:4611686018427387904<n
   ·go_wp2_with fail;go_ret;exact⟨by rw[HZ.out,if_neg (by unfold bn;omega)];rfl,rfl⟩
   ·go_wp2_with fail;go_ret;exact⟨by rw[HZ.out,if_pos (by unfold bn;omega)];rfl,rfl⟩
end Go.Proofs.YtpghocekofdpbaaGreatDoor.Sec
namespace Go.Proofs.YtpghocekofdpbaaGreatDoor.Sec
open Go.RowKit Go.Shelf
attribute [local go_sem] Oper.semAt_some
set_option maxRecDepth 100000 in
set_option maxHeartbeats 4000000 in
theorem Ub (s:ByteArray) (w:World) (hs:s.size≠64):
  Calls Tryz.prog 181 #[.string s] w fun e w'=>e= .returned (.tuple #[bW 0 0 0 ⟨#[]⟩,.int .i64 1])/\Below w.heap.size w w':=by
 have h1:((s.size:Int) !=64)=true:=nX (by omega);clear hs;go_enter Tryz.func181,Tryz.ntmps181;go_wp2_with fail;exact bU (v:= .tuple #[bW 0 0 0 ⟨#[]⟩,.int .i64 1]) (dA (p:=2) (q:=3) rfl _ _ w.heap.size 235 #[.int .i64 0,.int .i64 0,.int .i64 0,.string ⟨#[]⟩] _ rfl (ak.new _ _ _) Tryz.underlying235 rfl (by kernel_rfl)) rfl ⟨rfl,(bK _ _).alloc (aF _) _⟩
theorem adO {s:ByteArray} {N P L:Nat} (h:¬ (1<=N/\N<=bn)):okB s N P L=false:=by
 unfold okB;by_cases h1:1<=N
 ·rw[dF (show ¬ N<=bn from fun e=>h ⟨h1,e⟩)];simp
 ·rw[dF h1];simp
theorem PZ {s:ByteArray} {n:Nat} (hs:s.size=64) (hn:n<=44):((s.extract 12 56).extract n 44).data.toList.all (· ==0)=true ↔ ∀ u,12+n<=u->u<56->s.data.toList[u]? =some 0:=by
 have hl:s.data.toList.length=64:=by rw[Di];exact hs
 rw[ext_list,ext_list,List.all_eq_true];constructor
 ·intro h u h1 h2;have hu:s.data.toList[u]? =some s.data.toList[u]:=jB (by omega);have hm:s.data.toList[u] ∈ (((s.data.toList.drop 12).take (56-12)).drop n).take (44-n):=by
   refine zI (i:=u-12-n) ?_;rw[List.getElem?_take_of_lt (by omega),Nc,List.getElem?_take_of_lt (by omega),Nc,<-hu]
   congr 1;omega
  rw[hu];have:=h _ hm
  simpa using this
 ·intro h x hx;obtain⟨i,hi⟩:=List.mem_iff_getElem?.1 hx;have hil:=(List.getElem?_eq_some_iff.1 hi).1;rw[ou,rX,ou,rX] at hil;rw[List.getElem?_take_of_lt (by omega),Nc,List.getElem?_take_of_lt (by omega),Nc,h _ (by omega) (by omega)] at hi;cases hi;rfl
theorem P5 {s:ByteArray} {N P L n k:Nat} {b:UInt8} (hs:s.size=64) (hn:n=min L 44) (h1:12+n<=k) (h2:k<56) (hb:s.data.toList[k]? =some b) (hz:b≠0):okB s N P L=false:=by
 unfold okB;have:((s.extract 12 56).extract (min L 44) 44).data.toList.all (· ==0)=false:=by
  rw[<-hn,Bool.eq_false_iff];intro h;have:=(PZ hs (by omega)).1 h k h1 h2;rw[hb] at this;cases this;exact hz rfl
 rw[this];simp
theorem P6 {s:ByteArray} {N P L n:Nat} (hs:s.size=64) (hn:n=min L 44) (he:((s.extract 0 8).toList==(s.extract 56 64).toList)=true) (h1:1<=N) (h2:N<=bn) (h3:P*44+L<=8000) (h4:¬ (0<P/\L=0)) (h:∀ u,12+n<=u->u<56->s.data.toList[u]? =some 0):okB s N P L=true:=by
 have hall:=(PZ hs (by omega)).2 h;rw[hn] at hall;unfold okB;rw[he,hall,pW h1,pW h2,pW h3];rcases Nat.eq_zero_or_pos P with h0 | h0
 ·rw[pW h0];rfl
 ·rw[pW (show 0<L by omega)];simp
theorem WI (s:ByteArray) (n:Nat) (hn:n<=44):s.extract 12 (12+n)=(s.extract 12 56).extract 0 n:=by
 rw[aaR s,aaR (s.extract 12 56),ext_list,List.drop_zero,List.take_take]
 congr 3
 omega
def adP (N:Nat):Int:=if N<=bn then N else -1
theorem aaS {l:List UInt8} {N:Nat} (h:bQ l=N):P7 l=adP N:=by unfold P7 adP;rw[h]
theorem GU {l:List UInt8} {N:Nat} (h:bQ l=N) (hN:N<65536):P7 l=N:=by unfold P7;rw[h,if_pos (by unfold bn;omega)]
set_option maxRecDepth 100000 in
set_option maxHeartbeats 4000000 in
theorem adQ (s:ByteArray) (N P L:Nat) (h:Cut s N P L) (w:World):
  Calls Tryz.prog 181 #[.string s] w fun e w'=>e= .returned (.tuple #[EI s N P L,.int .i64 (dH s N P L)])/\Below w.heap.size w w':=by
 have h64:=h.size;obtain⟨NZ,hNZ⟩:∃ NZ,adP N=NZ:=⟨_,rfl⟩;have MZ:∀ w,Hid (Calls Tryz.prog 189 #[.string (s.extract 0 8)] w fun e w'=>e= .returned (.int .i64 NZ)/\w=w'):=fun w=>by
  have:=GV w (s.extract 0 8) (by rw[WJ];omega);rw[aaS h.num,hNZ] at this;exact this
 have HG2:∀ w,Hid (Calls Tryz.prog 189 #[.string (s.extract 8 10)] w fun e w'=>e= .returned (.int .i64 P)/\w=w'):=fun w=>by
  have:=GV w (s.extract 8 10) (by rw[WJ];omega);rw[GU h.part h.lt2] at this;exact this
 have XM:∀ w,Hid (Calls Tryz.prog 189 #[.string (s.extract 10 12)] w fun e w'=>e= .returned (.int .i64 L)/\w=w'):=fun w=>by
  have:=GV w (s.extract 10 12) (by rw[WJ];omega);rw[GU h.left h.lt3] at this;exact this
 have H:=zh h;have HNZ:=zh hNZ;clear h hNZ;go_enter Tryz.func181,Tryz.ntmps181;go_wp2_with fail;have b0:=ak.new w 235 #[.int .i64 0,.int .i64 0,.int .i64 0,.string ⟨#[]⟩];have hBW:Below w.heap.size w (w.alloc (.cells #[.int .i64 0,.int .i64 0,.int .i64 0,.string ⟨#[]⟩] 235)):=((bK _ _).alloc (aF _) _);have hsz:(w.alloc (.cells #[.int .i64 0,.int .i64 0,.int .i64 0,.string ⟨#[]⟩] 235)).heap.size=w.heap.size+1:=by simp
 generalize w.alloc (.cells #[.int .i64 0,.int .i64 0,.int .i64 0,.string ⟨#[]⟩] 235)=W at b0 hBW hsz ⊢;have Hsz:=zh hsz;clear hsz;refine' WL (fun hgo=> ?body) ?rest
 case body=>
  go_region_held3 (fun _=>True) (trivial) (first
   | (go_at_call_of 189 (ByteArray.extract s 0 8);refine(MZ _).out.mono ?_;rintro e w1 ⟨rfl,rfl⟩)
   | (go_at_call_of 189 (ByteArray.extract s 8 10);refine(HG2 _).out.mono ?_;rintro e w1 ⟨rfl,rfl⟩)
   | (go_at_call_of 189 (ByteArray.extract s 10 12);refine(XM _).out.mono ?_;rintro e w1 ⟨rfl,rfl⟩))
  all_goals exact hgo
 have b1:=(ak.new W 235 #[.int .i64 NZ,.int .i64 P,.int .i64 L,.string ⟨#[]⟩]).drew;have b2:=(b0.alloc (.cells #[.int .i64 NZ,.int .i64 P,.int .i64 L,.string ⟨#[]⟩] 235)).drew;have hB2:Below w.heap.size w ((W.alloc (.cells #[.int .i64 NZ,.int .i64 P,.int .i64 L,.string ⟨#[]⟩] 235)).drew):=(hBW.alloc hBW.size _).drew;rw[Hsz.out] at b1 ⊢;generalize (W.alloc (.cells #[.int .i64 NZ,.int .i64 P,.int .i64 L,.string ⟨#[]⟩] 235)).drew=W2 at b1 b2 hB2 ⊢;clear b0 hBW Hsz MZ HG2 XM;have amF:=H.out.lt2;have amG:=H.out.lt3;have x0:=b1.cell 0;have x1:=b1.cell 1;have x2:=b1.cell 2;obtain⟨eb,heb⟩:∃ eb,((s.extract 0 8).toList==(s.extract 56 64).toList)=eb:=⟨_,rfl⟩;have Heb:=zh heb;have hnz:(1<=NZ ↔ 1<=N/\N<=bn)/\(1<=NZ->NZ=(N:Int)):=by
  have:=HNZ.out;unfold adP at this;unfold bn at *;split at this<;>omega
 have HN:=zh hnz;clear hnz;by_cases h1:NZ<1
 ·have d1:decide (NZ<1)=true:=pW h1;have hok:=dV (s:=s) (N:=N) (P:=P) (L:=L) (adO (fun h=>by have:=HN.out.1.2 h;omega));have xP:=zh hok;clear hok;go_wp2_with fail
  go_quiet (fail)
  have b3:=b1.drewN nq;have b4:=b2.drewN nq;have hB3:=below_drewN hB2 nq;generalize W2.drewN nq=W3 at b3 b4 hB3 ⊢;have z0:=b4.cell 0;have z1:=b4.cell 1;have z2:=b4.cell 2;have z3:=b4.cell 3;have zf0:=b4.frozen 0;have zf1:=b4.frozen 1;have zf2:=b4.frozen 2;have zf3:=b4.frozen 3;have c0:=b3.cell 0;have c1:=b3.cell 1;have c2:=b3.cell 2;have c3:=b3.cell 3;have cf0:=b3.frozen 0;have cf1:=b3.frozen 1;have cf2:=b3.frozen 2;have cf3:=b3.frozen 3;go_wp2_with fail;exact bU (v:= .tuple #[bW 0 0 0 ⟨#[]⟩,.int .i64 7]) (dA (p:=2) (q:=3) rfl _ _ w.heap.size 235 #[.int .i64 0,.int .i64 0,.int .i64 0,.string ⟨#[]⟩] _ rfl ((((b4.aB 0 (.int .i64 0)).aB 1 (.int .i64 0)).aB 2 (.int .i64 0)).aB 3 (.string ⟨#[]⟩)) Tryz.underlying235 rfl (by kernel_rfl)) rfl ⟨dU xP.out,(((hB3.setCell (p:=⟨w.heap.size,0,none⟩) (aF _) _).setCell (p:=⟨w.heap.size,1,none⟩) (aF _) _).setCell (p:=⟨w.heap.size,2,none⟩) (aF _) _).setCell (p:=⟨w.heap.size,3,none⟩) (aF _) _⟩
 have d1:decide (NZ<1)=false:=dF h1;obtain⟨hN1,WM⟩:=HN.out.1.1 (by omega);have hNN:=HN.out.2 (by omega);subst hNN;cases eb with
 | false=>
  have hok:=dV (s:=s) (N:=N) (P:=P) (L:=L) (by unfold okB;rw[Heb.out];rfl);have xP:=zh hok;clear hok;go_wp2_with fail
  go_quiet (fail)
  have b3:=b1.drewN nq;have b4:=b2.drewN nq;have hB3:=below_drewN hB2 nq;generalize W2.drewN nq=W3 at b3 b4 hB3 ⊢;have z0:=b4.cell 0;have z1:=b4.cell 1;have z2:=b4.cell 2;have z3:=b4.cell 3;have zf0:=b4.frozen 0;have zf1:=b4.frozen 1;have zf2:=b4.frozen 2;have zf3:=b4.frozen 3;have c0:=b3.cell 0;have c1:=b3.cell 1;have c2:=b3.cell 2;have c3:=b3.cell 3;have cf0:=b3.frozen 0;have cf1:=b3.frozen 1;have cf2:=b3.frozen 2;have cf3:=b3.frozen 3;go_wp2_with fail;exact bU (v:= .tuple #[bW 0 0 0 ⟨#[]⟩,.int .i64 7]) (dA (p:=2) (q:=3) rfl _ _ w.heap.size 235 #[.int .i64 0,.int .i64 0,.int .i64 0,.string ⟨#[]⟩] _ rfl ((((b4.aB 0 (.int .i64 0)).aB 1 (.int .i64 0)).aB 2 (.int .i64 0)).aB 3 (.string ⟨#[]⟩)) Tryz.underlying235 rfl (by kernel_rfl)) rfl ⟨dU xP.out,(((hB3.setCell (p:=⟨w.heap.size,0,none⟩) (aF _) _).setCell (p:=⟨w.heap.size,1,none⟩) (aF _) _).setCell (p:=⟨w.heap.size,2,none⟩) (aF _) _).setCell (p:=⟨w.heap.size,3,none⟩) (aF _) _⟩
 | true=>
  by_cases h3:8000<P*44+L
  ·have HH3:=zh h3;by_cases h3':8000<L
   ·have d3:decide (8000<(L:Int))=true:=pW (by omega);have hok:=dV (s:=s) (N:=N) (P:=P) (L:=L) (by unfold okB;rw[dF (show ¬ P*44+L<=8000 by have:=HH3.out;omega)];simp);have xP:=zh hok;clear hok;go_wp2_with fail
    go_quiet (fail)
    have b3:=b1.drewN nq;have b4:=b2.drewN nq;have hB3:=below_drewN hB2 nq;generalize W2.drewN nq=W3 at b3 b4 hB3 ⊢;have z0:=b4.cell 0;have z1:=b4.cell 1;have z2:=b4.cell 2;have z3:=b4.cell 3;have zf0:=b4.frozen 0;have zf1:=b4.frozen 1;have zf2:=b4.frozen 2;have zf3:=b4.frozen 3;have c0:=b3.cell 0;have c1:=b3.cell 1;have c2:=b3.cell 2;have c3:=b3.cell 3;have cf0:=b3.frozen 0;have cf1:=b3.frozen 1;have cf2:=b3.frozen 2;have cf3:=b3.frozen 3;go_wp2_with fail;exact bU (v:= .tuple #[bW 0 0 0 ⟨#[]⟩,.int .i64 7]) (dA (p:=2) (q:=3) rfl _ _ w.heap.size 235 #[.int .i64 0,.int .i64 0,.int .i64 0,.string ⟨#[]⟩] _ rfl ((((b4.aB 0 (.int .i64 0)).aB 1 (.int .i64 0)).aB 2 (.int .i64 0)).aB 3 (.string ⟨#[]⟩)) Tryz.underlying235 rfl (by kernel_rfl)) rfl ⟨dU xP.out,(((hB3.setCell (p:=⟨w.heap.size,0,none⟩) (aF _) _).setCell (p:=⟨w.heap.size,1,none⟩) (aF _) _).setCell (p:=⟨w.heap.size,2,none⟩) (aF _) _).setCell (p:=⟨w.heap.size,3,none⟩) (aF _) _⟩
   ·have d3:decide (8000<(L:Int))=false:=dF (by omega);have d3':decide (8000<44*(P:Int)+L)=true:=pW (by omega);have hok:=dV (s:=s) (N:=N) (P:=P) (L:=L) (by unfold okB;rw[dF (show ¬ P*44+L<=8000 by have:=HH3.out;omega)];simp);have xP:=zh hok;clear hok;go_wp2_with fail
    go_quiet (fail)
    have b3:=b1.drewN nq;have b4:=b2.drewN nq;have hB3:=below_drewN hB2 nq;generalize W2.drewN nq=W3 at b3 b4 hB3 ⊢;have z0:=b4.cell 0;have z1:=b4.cell 1;have z2:=b4.cell 2;have z3:=b4.cell 3;have zf0:=b4.frozen 0;have zf1:=b4.frozen 1;have zf2:=b4.frozen 2;have zf3:=b4.frozen 3;have c0:=b3.cell 0;have c1:=b3.cell 1;have c2:=b3.cell 2;have c3:=b3.cell 3;have cf0:=b3.frozen 0;have cf1:=b3.frozen 1;have cf2:=b3.frozen 2;have cf3:=b3.frozen 3;go_wp2_with fail;exact bU (v:= .tuple #[bW 0 0 0 ⟨#[]⟩,.int .i64 7]) (dA (p:=2) (q:=3) rfl _ _ w.heap.size 235 #[.int .i64 0,.int .i64 0,.int .i64 0,.string ⟨#[]⟩] _ rfl ((((b4.aB 0 (.int .i64 0)).aB 1 (.int .i64 0)).aB 2 (.int .i64 0)).aB 3 (.string ⟨#[]⟩)) Tryz.underlying235 rfl (by kernel_rfl)) rfl ⟨dU xP.out,(((hB3.setCell (p:=⟨w.heap.size,0,none⟩) (aF _) _).setCell (p:=⟨w.heap.size,1,none⟩) (aF _) _).setCell (p:=⟨w.heap.size,2,none⟩) (aF _) _).setCell (p:=⟨w.heap.size,3,none⟩) (aF _) _⟩
  have d3:decide (8000<(L:Int))=false:=dF (by omega);have d3':decide (8000<44*(P:Int)+L)=false:=dF (by omega);have HH3:=zh h3;clear h3;by_cases h4:0<P/\L=0
  ·have d4:0<P:=h4.1;have d4':decide (0<(P:Int))=true:=pW (by omega);have d5:((L:Int)==0)=true:=aaQ (by omega);have WO:=zh h4;clear h4;have hok:=dV (s:=s) (N:=N) (P:=P) (L:=L) (by unfold okB;rw[dF (show ¬ P=0 by have:=WO.out;omega),dF (show ¬ 0<L by have:=WO.out;omega)];simp);have xP:=zh hok;clear hok;go_wp2_with fail
   go_quiet (fail)
   have b3:=b1.drewN nq;have b4:=b2.drewN nq;have hB3:=below_drewN hB2 nq;generalize W2.drewN nq=W3 at b3 b4 hB3 ⊢;have z0:=b4.cell 0;have z1:=b4.cell 1;have z2:=b4.cell 2;have z3:=b4.cell 3;have zf0:=b4.frozen 0;have zf1:=b4.frozen 1;have zf2:=b4.frozen 2;have zf3:=b4.frozen 3;have c0:=b3.cell 0;have c1:=b3.cell 1;have c2:=b3.cell 2;have c3:=b3.cell 3;have cf0:=b3.frozen 0;have cf1:=b3.frozen 1;have cf2:=b3.frozen 2;have cf3:=b3.frozen 3;go_wp2_with fail;exact bU (v:= .tuple #[bW 0 0 0 ⟨#[]⟩,.int .i64 7]) (dA (p:=2) (q:=3) rfl _ _ w.heap.size 235 #[.int .i64 0,.int .i64 0,.int .i64 0,.string ⟨#[]⟩] _ rfl ((((b4.aB 0 (.int .i64 0)).aB 1 (.int .i64 0)).aB 2 (.int .i64 0)).aB 3 (.string ⟨#[]⟩)) Tryz.underlying235 rfl (by kernel_rfl)) rfl ⟨dU xP.out,(((hB3.setCell (p:=⟨w.heap.size,0,none⟩) (aF _) _).setCell (p:=⟨w.heap.size,1,none⟩) (aF _) _).setCell (p:=⟨w.heap.size,2,none⟩) (aF _) _).setCell (p:=⟨w.heap.size,3,none⟩) (aF _) _⟩
  have WO:=zh h4;obtain⟨n,hn⟩:∃ n:Nat,min (L:Int) 44=n:=⟨min L 44,by omega⟩;have hnL:n=min L 44:=by omega
  have agr:n<=44:=by omega
  have Ym:=zh hnL;clear hnL;by_cases h5:0<P
  ·have d5:((L:Int)==0)=false:=lM (by omega);have d4':decide (0<(P:Int))=true:=pW (by omega);go_wp2_with fail
   go_quiet (fail)
   have b3:=b1.drewN nq;have b4:=b2.drewN nq;have hB3:=below_drewN hB2 nq;generalize W2.drewN nq=W3 at b3 b4 hB3 ⊢;have z0:=b4.cell 0;have z1:=b4.cell 1;have z2:=b4.cell 2;have z3:=b4.cell 3;have zf0:=b4.frozen 0;have zf1:=b4.frozen 1;have zf2:=b4.frozen 2;have zf3:=b4.frozen 3;have c0:=b3.cell 0;have c1:=b3.cell 1;have c2:=b3.cell 2;have c3:=b3.cell 3;have cf0:=b3.frozen 0;have cf1:=b3.frozen 1;have cf2:=b3.frozen 2;have cf3:=b3.frozen 3;clear b1 b2 hB2 x0 x1 x2;go_wp2_with fail
   go_loop [6] (fun i=>∃ k:Nat,12+n<=k/\k<=56/\i= .int .i64 k/\∀ u,12+n<=u->u<k->s.data.toList[u]? =some 0) (fun i=>56-(intOf i).toNat)
   case atStart=>exact⟨12+n,aF _,by omega,by go_num,fun u h1 h2=>by omega⟩
   case round=>
    obtain⟨k,hk1,hk2,rfl,hall⟩:=hrel;have aaU:=zh hall;clear hall;by_cases hlt:k<56
    ·have hks:k<s.size:=by omega
     have hsk:s.data.toList[k]? =some s[k]:=by rw[jB (by rw[Di];exact hks)];rfl
     have HSK:=zh hsk;clear hsk;by_cases hz:s[k]=0
     ·have hz2:((s[k].toNat:Int) !=0)=false:=by rw[hz];rfl
      have HZ:=zh hz;clear hz;go_wp2_with fail
      go_round
      case rel=>
       refine⟨k+1,by omega,by omega,by go_num,fun u h1 h2=>?_⟩;by_cases e:u=k
       ·subst e;rw[HSK.out,HZ.out]
       ·exact aaU.out u h1 (by omega)
      case measure=>simp[intOf];omega
     ·have hz2:((s[k].toNat:Int) !=0)=true:=nX (fun e=>hz (by have h0:s[k].toNat=0:=(by omega);exact UInt8.toNat_inj.1 h0));have HZ:=zh hz;clear hz;have hok:=dV (s:=s) (N:=N) (P:=P) (L:=L) (P5 (n:=n) H.out.size Ym.out hk1 hlt HSK.out HZ.out);have xP:=zh hok;clear hok;go_wp2_with fail;exact bU (v:= .tuple #[bW 0 0 0 ⟨#[]⟩,.int .i64 7]) (dA (p:=2) (q:=3) rfl _ _ w.heap.size 235 #[.int .i64 0,.int .i64 0,.int .i64 0,.string ⟨#[]⟩] _ rfl ((((b4.aB 0 (.int .i64 0)).aB 1 (.int .i64 0)).aB 2 (.int .i64 0)).aB 3 (.string ⟨#[]⟩)) Tryz.underlying235 rfl (by kernel_rfl)) rfl ⟨dU xP.out,(((hB3.setCell (p:=⟨w.heap.size,0,none⟩) (aF _) _).setCell (p:=⟨w.heap.size,1,none⟩) (aF _) _).setCell (p:=⟨w.heap.size,2,none⟩) (aF _) _).setCell (p:=⟨w.heap.size,3,none⟩) (aF _) _⟩
    ·have ags:k=56:=by omega
     subst ags;have hok:=yX (s:=s) (N:=N) (P:=P) (L:=L) Ym.out (P6 H.out.size Ym.out Heb.out hN1 WM (by have:=HH3.out;omega) WO.out aaU.out);have xP:=zh hok;clear hok;have hne:w.heap.size≠w.heap.size+1:=by omega
     have hT:s.extract 12 (12+n)=(s.extract 12 56).extract 0 n:=WI s n agr;have HT:=zh hT;clear hT;go_wp2_with fail;exact bU (v:= .tuple #[bW N P L ((s.extract 12 56).extract 0 n),.int .i64 0]) (dA (p:=2) (q:=3) rfl _ _ w.heap.size 235 #[.int .i64 N,.int .i64 P,.int .i64 L,.string ((s.extract 12 56).extract 0 n)] _ rfl (by
      rw[HT.out];exact(((((b4.other (a:=⟨w.heap.size+1,3,none⟩) hne (.string ((s.extract 12 56).extract 0 n))).aB 0 (.int .i64 N)).aB 1 (.int .i64 P)).aB 2 (.int .i64 L)).aB 3 (.string ((s.extract 12 56).extract 0 n)))) Tryz.underlying235 rfl (by kernel_rfl)) rfl ⟨dU xP.out,((((hB3.setCell (p:=⟨w.heap.size+1,3,none⟩) (wW _) _).setCell (p:=⟨w.heap.size,0,none⟩) (aF _) _).setCell (p:=⟨w.heap.size,1,none⟩) (aF _) _).setCell (p:=⟨w.heap.size,2,none⟩) (aF _) _).setCell (p:=⟨w.heap.size,3,none⟩) (aF _) _⟩
  ·have d4':decide (0<(P:Int))=false:=dF (by omega);go_wp2_with fail
   go_quiet (fail)
   have b3:=b1.drewN nq;have b4:=b2.drewN nq;have hB3:=below_drewN hB2 nq;generalize W2.drewN nq=W3 at b3 b4 hB3 ⊢;have z0:=b4.cell 0;have z1:=b4.cell 1;have z2:=b4.cell 2;have z3:=b4.cell 3;have zf0:=b4.frozen 0;have zf1:=b4.frozen 1;have zf2:=b4.frozen 2;have zf3:=b4.frozen 3;have c0:=b3.cell 0;have c1:=b3.cell 1;have c2:=b3.cell 2;have c3:=b3.cell 3;have cf0:=b3.frozen 0;have cf1:=b3.frozen 1;have cf2:=b3.frozen 2;have cf3:=b3.frozen 3;clear b1 b2 hB2 x0 x1 x2;go_wp2_with fail
   go_loop [6] (fun i=>∃ k:Nat,12+n<=k/\k<=56/\i= .int .i64 k/\∀ u,12+n<=u->u<k->s.data.toList[u]? =some 0) (fun i=>56-(intOf i).toNat)
   case atStart=>exact⟨12+n,aF _,by omega,by go_num,fun u h1 h2=>by omega⟩
   case round=>
    obtain⟨k,hk1,hk2,rfl,hall⟩:=hrel;have aaU:=zh hall;clear hall;by_cases hlt:k<56
    ·have hks:k<s.size:=by omega
     have hsk:s.data.toList[k]? =some s[k]:=by rw[jB (by rw[Di];exact hks)];rfl
     have HSK:=zh hsk;clear hsk;by_cases hz:s[k]=0
     ·have hz2:((s[k].toNat:Int) !=0)=false:=by rw[hz];rfl
      have HZ:=zh hz;clear hz;go_wp2_with fail
      go_round
      case rel=>
       refine⟨k+1,by omega,by omega,by go_num,fun u h1 h2=>?_⟩;by_cases e:u=k
       ·subst e;rw[HSK.out,HZ.out]
       ·exact aaU.out u h1 (by omega)
      case measure=>simp[intOf];omega
     ·have hz2:((s[k].toNat:Int) !=0)=true:=nX (fun e=>hz (by have h0:s[k].toNat=0:=(by omega);exact UInt8.toNat_inj.1 h0));have HZ:=zh hz;clear hz;have hok:=dV (s:=s) (N:=N) (P:=P) (L:=L) (P5 (n:=n) H.out.size Ym.out hk1 hlt HSK.out HZ.out);have xP:=zh hok;clear hok;go_wp2_with fail;exact bU (v:= .tuple #[bW 0 0 0 ⟨#[]⟩,.int .i64 7]) (dA (p:=2) (q:=3) rfl _ _ w.heap.size 235 #[.int .i64 0,.int .i64 0,.int .i64 0,.string ⟨#[]⟩] _ rfl ((((b4.aB 0 (.int .i64 0)).aB 1 (.int .i64 0)).aB 2 (.int .i64 0)).aB 3 (.string ⟨#[]⟩)) Tryz.underlying235 rfl (by kernel_rfl)) rfl ⟨dU xP.out,(((hB3.setCell (p:=⟨w.heap.size,0,none⟩) (aF _) _).setCell (p:=⟨w.heap.size,1,none⟩) (aF _) _).setCell (p:=⟨w.heap.size,2,none⟩) (aF _) _).setCell (p:=⟨w.heap.size,3,none⟩) (aF _) _⟩
    ·have ags:k=56:=by omega
     subst ags;have hok:=yX (s:=s) (N:=N) (P:=P) (L:=L) Ym.out (P6 H.out.size Ym.out Heb.out hN1 WM (by have:=HH3.out;omega) WO.out aaU.out);have xP:=zh hok;clear hok;have hne:w.heap.size≠w.heap.size+1:=by omega
     have hT:s.extract 12 (12+n)=(s.extract 12 56).extract 0 n:=WI s n agr;have HT:=zh hT;clear hT;go_wp2_with fail;exact bU (v:= .tuple #[bW N P L ((s.extract 12 56).extract 0 n),.int .i64 0]) (dA (p:=2) (q:=3) rfl _ _ w.heap.size 235 #[.int .i64 N,.int .i64 P,.int .i64 L,.string ((s.extract 12 56).extract 0 n)] _ rfl (by
      rw[HT.out];exact(((((b4.other (a:=⟨w.heap.size+1,3,none⟩) hne (.string ((s.extract 12 56).extract 0 n))).aB 0 (.int .i64 N)).aB 1 (.int .i64 P)).aB 2 (.int .i64 L)).aB 3 (.string ((s.extract 12 56).extract 0 n)))) Tryz.underlying235 rfl (by kernel_rfl)) rfl ⟨dU xP.out,((((hB3.setCell (p:=⟨w.heap.size+1,3,none⟩) (wW _) _).setCell (p:=⟨w.heap.size,0,none⟩) (aF _) _).setCell (p:=⟨w.heap.size,1,none⟩) (aF _) _).setCell (p:=⟨w.heap.size,2,none⟩) (aF _) _).setCell (p:=⟨w.heap.size,3,none⟩) (aF _) _⟩
theorem DN (s:ByteArray) (w:World):Calls Tryz.prog 181 #[.string s] w fun e w'=>e= .returned (.tuple #[(nY s).1,.int .i64 (nY s).2])/\Below w.heap.size w w':=by
 unfold nY;by_cases hs:s.size=64
 ·rw[if_pos hs];obtain⟨N,P,L,hc⟩:=aaV hs;rw[P8 hc];refine(adQ s N P L hc w).mono ?_;rintro e w' ⟨rfl,hB⟩;refine⟨?_,hB⟩;unfold EI dH;split<;>rfl
 ·rw[if_neg hs];exact Ub s w hs
end Go.Proofs.YtpghocekofdpbaaGreatDoor.Sec
namespace Go.Proofs.YtpghocekofdpbaaGreatDoor.Sec
open Go.RowKit Go.Shelf
attribute [local go_sem] Oper.semAt_some
end Go.Proofs.YtpghocekofdpbaaGreatDoor.Sec
namespace Go.Proofs.YtpghocekofdpbaaGreatDoor.Sec
open Go.RowKit Go.Shelf
attribute [local go_sem] Oper.semAt_some
def GX (j:vS):Value:= .agg #[.int .i64 j.number,.string ⟨j.text.toArray⟩,.int .i64 j.used,.int .i64 j.e]
theorem xQ {s:ByteArray} {N P L e:Int} {T:ByteArray} (h:nY s=(bW N P L T,e)) (w:World):Calls Tryz.prog 181 #[.string s] w fun e2 w'=>e2= .returned (.tuple #[.agg #[.int .i64 N,.int .i64 P,.int .i64 L,.string T],.int .i64 e])/\Below w.heap.size w w':=by
 have:=DN s w;rw[h] at this;exact this
theorem below_grow {a W:World} (h:Below a.heap.size a W) (o:Obj):Below a.heap.size a (W.alloc o):=h.alloc h.size o
section
variable {w:World}
set_option maxRecDepth 100000 in
set_option maxHeartbeats 4000000 in
theorem Yn (A:Option Addr) (c:Nat):Calls Tryz.prog 164 #[.slice A 0 c] w fun e w'=>e= .returned (GX ⟨0,[],0,11⟩)/\Below w.heap.size w w':=by
 go_enter Tryz.func164,Tryz.ntmps164;go_wp2_with fail;exact bU (v:= .agg #[.int .i64 0,.string ⟨#[]⟩,.int .i64 0,.int .i64 11]) (bF (P:=Tryz.prog) (p:=2) rfl _ _ w.heap.size 229 #[.int .i64 0,.string ⟨#[]⟩,.int .i64 0,.int .i64 11] _ rfl (ak.new w _ _) Tryz.underlying229 rfl (by kernel_rfl)) rfl ⟨rfl,(bK _ _).alloc (aF _) _⟩
set_option maxRecDepth 100000 in
set_option maxHeartbeats 4000000 in
theorem EJ (b o n c:Nat) (hn:0<n) (s0:ByteArray) (hb:b<w.heap.size) (hc:w.cell? ⟨b,o,none⟩=some (.string s0)) (N P L:Int) (T:ByteArray) (e:Int) (hO:nY s0=(bW N P L T,e)) (hbad:e≠0\/P≠0) (hm:n<=maxLen):
  Calls Tryz.prog 164 #[.slice (some ⟨b,o,none⟩) n c] w fun e w'=>e= .returned (GX ⟨0,[],0,11⟩)/\Below w.heap.size w w':=by
 unfold maxLen at hm;have HO:=fun w=>zh (xQ hO w)
 have h0:((n:Int)==0)=false:=lM (by omega);by_cases he:e=0
 ·subst he;have hP:(P !=0)=true:=nX (by rcases hbad with h | h;exact absurd rfl h;exact h);clear hbad hO;go_enter Tryz.func164,Tryz.ntmps164;go_wp2_with (first | (go_at_call 181;refine(HO _).out.mono ?_;rintro e w1 ⟨rfl,hB⟩;have br:=(ak.new w 229 #[.int .i64 0,.string ⟨#[]⟩,.int .i64 0,.int .i64 0]).below hB (ak.new w 229 #[.int .i64 0,.string ⟨#[]⟩,.int .i64 0,.int .i64 0]).lt;have r0:=br.cell 0;have r1:=br.cell 1;have r2:=br.cell 2;have r3:=br.cell 3;have rf0:=br.frozen 0;have rf1:=br.frozen 1;have rf2:=br.frozen 2;have rf3:=br.frozen 3;have hne1:w.heap.size<w1.heap.size:=br.lt;have hBx:=(((bK _ w).alloc (aF _) (.cells #[.int .i64 0,.string ⟨#[]⟩,.int .i64 0,.int .i64 0] 229)).trans (hB.mono (by simp)))));exact bU (v:= .agg #[.int .i64 0,.string ⟨#[]⟩,.int .i64 0,.int .i64 11]) (bF (P:=Tryz.prog) (p:=2) rfl _ _ w.heap.size 229 #[.int .i64 0,.string ⟨#[]⟩,.int .i64 0,.int .i64 11] _ rfl (((((br.aB 0 (.int .i64 0)).aB 1 (.string ⟨#[]⟩)).aB 2 (.int .i64 0)).aB 3 (.int .i64 11)).alloc _) Tryz.underlying229 rfl (by kernel_rfl)) rfl ⟨rfl,below_grow ((((hBx.setCell (p:=⟨w.heap.size,0,none⟩) (aF _) _).setCell (p:=⟨w.heap.size,1,none⟩) (aF _) _).setCell (p:=⟨w.heap.size,2,none⟩) (aF _) _).setCell (p:=⟨w.heap.size,3,none⟩) (aF _) _) _⟩
 ·have hE:(e !=0)=true:=nX he;clear hbad hO he;go_enter Tryz.func164,Tryz.ntmps164;go_wp2_with (first | (go_at_call 181;refine(HO _).out.mono ?_;rintro e w1 ⟨rfl,hB⟩;have br:=(ak.new w 229 #[.int .i64 0,.string ⟨#[]⟩,.int .i64 0,.int .i64 0]).below hB (ak.new w 229 #[.int .i64 0,.string ⟨#[]⟩,.int .i64 0,.int .i64 0]).lt;have r0:=br.cell 0;have r1:=br.cell 1;have r2:=br.cell 2;have r3:=br.cell 3;have rf0:=br.frozen 0;have rf1:=br.frozen 1;have rf2:=br.frozen 2;have rf3:=br.frozen 3;have hne1:w.heap.size<w1.heap.size:=br.lt;have hBx:=(((bK _ w).alloc (aF _) (.cells #[.int .i64 0,.string ⟨#[]⟩,.int .i64 0,.int .i64 0] 229)).trans (hB.mono (by simp)))));exact bU (v:= .agg #[.int .i64 0,.string ⟨#[]⟩,.int .i64 0,.int .i64 11]) (bF (P:=Tryz.prog) (p:=2) rfl _ _ w.heap.size 229 #[.int .i64 0,.string ⟨#[]⟩,.int .i64 0,.int .i64 11] _ rfl (((((br.aB 0 (.int .i64 0)).aB 1 (.string ⟨#[]⟩)).aB 2 (.int .i64 0)).aB 3 (.int .i64 11)).alloc _) Tryz.underlying229 rfl (by kernel_rfl)) rfl ⟨rfl,below_grow ((((hBx.setCell (p:=⟨w.heap.size,0,none⟩) (aF _) _).setCell (p:=⟨w.heap.size,1,none⟩) (aF _) _).setCell (p:=⟨w.heap.size,2,none⟩) (aF _) _).setCell (p:=⟨w.heap.size,3,none⟩) (aF _) _) _⟩
set_option maxRecDepth 100000 in
set_option maxHeartbeats 4000000 in
theorem P9 (b o n c:Nat) (hn:0<n) (s0:ByteArray) (hb:b<w.heap.size) (hc:w.cell? ⟨b,o,none⟩=some (.string s0)) (N:Int) (L:Nat) (T:ByteArray) (hO:nY s0=(bW N 0 L T,0)) (hL:L<=8000) (hs:n<aj L) (hm:n<=maxLen):
  Calls Tryz.prog 164 #[.slice (some ⟨b,o,none⟩) n c] w fun e w'=>e= .returned (GX ⟨0,[],0,7⟩)/\Below w.heap.size w w':=by
 unfold maxLen at hm;have HO:=fun w=>zh (xQ hO w)
 have h0:((n:Int)==0)=false:=lM (by omega);have HC:=fun w=>zh (GY L hL w)
 generalize aj L=K at HC hs;have d1:decide (n<K)=true:=pW (by omega);clear hO;go_enter Tryz.func164,Tryz.ntmps164;go_wp2_with (first | (go_at_call 40;refine(HC _).out.mono ?_;rintro e w2 ⟨rfl,rfl⟩) | (go_at_call 181;refine(HO _).out.mono ?_;rintro e w1 ⟨rfl,hB⟩;have br:=(ak.new w 229 #[.int .i64 0,.string ⟨#[]⟩,.int .i64 0,.int .i64 0]).below hB (ak.new w 229 #[.int .i64 0,.string ⟨#[]⟩,.int .i64 0,.int .i64 0]).lt;have r0:=br.cell 0;have r1:=br.cell 1;have r2:=br.cell 2;have r3:=br.cell 3;have rf0:=br.frozen 0;have rf1:=br.frozen 1;have rf2:=br.frozen 2;have rf3:=br.frozen 3;have hne1:w.heap.size<w1.heap.size:=br.lt;have hBx:=(((bK _ w).alloc (aF _) (.cells #[.int .i64 0,.string ⟨#[]⟩,.int .i64 0,.int .i64 0] 229)).trans (hB.mono (by simp)))));exact bU (v:= .agg #[.int .i64 0,.string ⟨#[]⟩,.int .i64 0,.int .i64 7]) (bF (P:=Tryz.prog) (p:=2) rfl _ _ w.heap.size 229 #[.int .i64 0,.string ⟨#[]⟩,.int .i64 0,.int .i64 7] _ rfl (((((br.aB 0 (.int .i64 0)).aB 1 (.string ⟨#[]⟩)).aB 2 (.int .i64 0)).aB 3 (.int .i64 7)).alloc _) Tryz.underlying229 rfl (by kernel_rfl)) rfl ⟨rfl,below_grow ((((hBx.setCell (p:=⟨w.heap.size,0,none⟩) (aF _) _).setCell (p:=⟨w.heap.size,1,none⟩) (aF _) _).setCell (p:=⟨w.heap.size,2,none⟩) (aF _) _).setCell (p:=⟨w.heap.size,3,none⟩) (aF _) _) _⟩
set_option maxRecDepth 100000 in
set_option maxHeartbeats 4000000 in
theorem Uc (b o:Nat) (c:Nat) (l:List ByteArray) (s0:ByteArray) (hc:w.cell? ⟨b,o,none⟩=some (.string s0)) (N L:Nat) (T:ByteArray) (hO:nY s0=(bW N 0 L T,0)) (hL:L<=8000) (hN:N<=bn) (hs:aj L<=l.length) (hcap:l.length<=c) (hm:c<=maxLen)
  (hb:b<w.heap.size) (hat:∀ i t,l[i]? =some t->w.cell? ⟨b,o+i,none⟩=some (.string t)) (j:vS) (hj:j=match iy N L (l.map fun s=>s.data.toList) (aj L) with | none=>⟨0,[],0,7⟩ | some t=>⟨N,t,aj L,0⟩):
  Calls Tryz.prog 164 #[.slice (some ⟨b,o,none⟩) l.length c] w fun e w'=>e= .returned (GX j)/\Below w.heap.size w w':=by
 unfold maxLen at hm;have HO:=fun w=>zh (xQ hO w)
 have hp:=jd L;have h0:((l.length:Int)==0)=false:=lM (by omega);have HC:=fun w=>zh (GY L hL w)
 have aaW:aj L<=182:=by unfold aj;omega
 have Lc:=zh hat;have Hj:=zh hj;clear hat hj hO;generalize aj L=K at HC hs Hj hp aaW;have d1:decide (l.length<K)=false:=dF (by omega);go_enter Tryz.func164,Tryz.ntmps164;go_wp2_with (first | (go_at_call 181;refine(HO _).out.mono ?_;rintro e w1 ⟨rfl,hB⟩) | (go_at_call 40;refine(HC _).out.mono ?_;rintro e w2 ⟨rfl,rfl⟩));have br:=((ak.new w 229 #[.int .i64 0,.string ⟨#[]⟩,.int .i64 0,.int .i64 0]).below hB (ak.new w 229 #[.int .i64 0,.string ⟨#[]⟩,.int .i64 0,.int .i64 0]).lt).alloc (.cells #[.int .i64 N,.int .i64 0,.int .i64 L,.string T] 235);have hlw:w.heap.size<w1.heap.size:=((ak.new w 229 #[.int .i64 0,.string ⟨#[]⟩,.int .i64 0,.int .i64 0]).below hB (ak.new w 229 #[.int .i64 0,.string ⟨#[]⟩,.int .i64 0,.int .i64 0]).lt).lt;have b6:=ak.new w1 235 #[.int .i64 N,.int .i64 0,.int .i64 L,.string T];have hB0:Below w.heap.size w (w1.alloc (.cells #[.int .i64 N,.int .i64 0,.int .i64 L,.string T] 235)):=below_grow (((bK _ w).alloc (aF _) (.cells #[.int .i64 0,.string ⟨#[]⟩,.int .i64 0,.int .i64 0] 229)).trans (hB.mono (by simp))) _;have hsz0:(w1.alloc (.cells #[.int .i64 N,.int .i64 0,.int .i64 L,.string T] 235)).heap.size=w1.heap.size+1:=by simp
 generalize w1.alloc (.cells #[.int .i64 N,.int .i64 0,.int .i64 L,.string T] 235)=W0 at br b6 hB0 hsz0 ⊢;have Yo:=zh hsz0;clear hsz0;go_loopw [6,7] (fun sv i wr=>∃ (k:Nat) (T:List UInt8),k<=K/\i= .int .i64 k/\sv= .string ⟨T.toArray⟩/\T.length<=44*k/\iy N L (l.map fun s=>s.data.toList) k=some T/\Below W0.heap.size W0 wr) (fun _ i _=>K-(intOf i).toNat)
 case atStart=>exact⟨0,[],iT _,rfl,rfl,iT _,rfl,bK _ _⟩
 case round=>
  obtain⟨k,T',hk,rfl,rfl,hTl,Jw,hBr⟩:=hrel;have hsr:=hBr.size;have HJk:=zh Jw;clear Jw hc;have b6r:=b6.below hBr b6.lt;have NC:=br.below hBr br.lt;have f0:=b6r.cell 0;have f2:=b6r.cell 2;have tN:=b6r.lt;have hBw:Below w.heap.size w wr:=hB0.trans (hBr.mono hB0.size);by_cases hkl:k<K
  ·have hd:decide (k<K)=true:=pW hkl;obtain⟨s,hls⟩:∃ s,l[k]? =some s:=⟨_,jB (by omega)⟩;have hkl2:(k:Int)<l.length:=by omega
   have hk0:(0:Int)<=(k:Int):=by omega
   have hlk:(l.map fun s=>s.data.toList)[k]? =some s.data.toList:=by rw[sD,hls];rfl
   have hck:wr.cell? ⟨b,o+k,none⟩=some (.string s):=(hBw.cell (p:=⟨b,o+k,none⟩) hb).trans (Lc.out k s hls);have HLK:=zh hlk;clear hls;rcases sH s with⟨⟨pn,pp,pl,pt⟩,hsz,hop,hE⟩ | ⟨hno,ev,hev,hE⟩
   ·have Dj:=fun w=>zh (xQ hE w)
    dsimp only at Dj;have hfit:∀ r,uN N L k s.data.toList=r->r=if pn=N/\pp=k/\(pl:Int)=L-44*k then some pt else none:=by
     rintro r rfl;unfold uN;rw[if_pos (by rw[Di];exact hsz),hop]
    have HF:=zh hfit;have HOP:=zh hop;clear hfit hop hE;by_cases x1:pn=N
    ·subst x1;by_cases x2:pp=k
     ·subst x2;by_cases x3:(pl:Int)=L-44*pp
      ·have d3:((pl:Int) !=(L:Int)-44*(pp:Int))=false:=PY (by omega);have hpt:pt.length<=44:=GZ HOP.out;have hJn:iy pn L (l.map fun s=>s.data.toList) (pp+1)=some (T'++pt):=by
        rw[iy,HJk.out];dsimp only;rw[HLK.out];dsimp only;rw[HF.out _ rfl,if_pos ⟨rfl,rfl,x3⟩]
       have HJn:=zh hJn;have hadd:∀ w,(Op.stringOp .add ⟨T'.toArray⟩ ⟨pt.toArray⟩).run Tryz.prog w= .ok (.string ⟨(T'++pt).toArray⟩) w:=fun w=>by
        rw[run_string_add_sum w _ _ (by rw[ND,ND];omega)]
        congr 2
       clear hJn x3;go_wp2_with (first | (go_at_call 181;refine(Dj _).out.mono ?_;rintro e w3 ⟨rfl,hB3⟩;have pF:Below w.heap.size w w3:=hBw.trans (hB3.mono hBw.size);have g0:=(hB3.cell (p:=⟨w1.heap.size,0,none⟩) tN).trans f0;have g2:=(hB3.cell (p:=⟨w1.heap.size,2,none⟩) tN).trans f2;have hl3:w1.heap.size<w3.heap.size:=(by have:=hB3.size;omega);have hn3:w1.heap.size≠w3.heap.size:=(by omega);have be:=NC.below hB3 NC.lt;have hlr:w.heap.size<w3.heap.size:=be.lt;have e0:=be.cell 0;have e1:=be.cell 1;have e2:=be.cell 2;have e3:=be.cell 3;have ef0:=be.frozen 0;have ef1:=be.frozen 1;have ef2:=be.frozen 2;have ef3:=be.frozen 3));have hBn:Below W0.heap.size W0 (w3.alloc (.cells #[.int .i64 pn,.int .i64 pp,.int .i64 pl,.string ⟨pt.toArray⟩] 235)):=below_grow (hBr.trans (hB3.mono hBr.size)) _;go_roundw
       case rel=>exact⟨pp+1,T'++pt,by omega,by go_num,rfl,by rw[kM];omega,HJn.out,hBn⟩
       case measure=>simp[intOf];omega
      ·have d3:((pl:Int) !=(L:Int)-44*(pp:Int))=true:=nX (by omega);have HJ:=zh (sJ Hj.out hlk (by rw[HF.out _ rfl,if_neg (fun h=>x3 h.2.2)]) K hkl);go_wp2_with (first | (go_at_call 181;refine(Dj _).out.mono ?_;rintro e w3 ⟨rfl,hB3⟩;have pF:Below w.heap.size w w3:=hBw.trans (hB3.mono hBw.size);have g0:=(hB3.cell (p:=⟨w1.heap.size,0,none⟩) tN).trans f0;have g2:=(hB3.cell (p:=⟨w1.heap.size,2,none⟩) tN).trans f2;have hl3:w1.heap.size<w3.heap.size:=(by have:=hB3.size;omega);have hn3:w1.heap.size≠w3.heap.size:=(by omega);have be:=NC.below hB3 NC.lt;have hlr:w.heap.size<w3.heap.size:=be.lt;have e0:=be.cell 0;have e1:=be.cell 1;have e2:=be.cell 2;have e3:=be.cell 3;have ef0:=be.frozen 0;have ef1:=be.frozen 1;have ef2:=be.frozen 2;have ef3:=be.frozen 3));exact bU (v:= .agg #[.int .i64 0,.string ⟨#[]⟩,.int .i64 0,.int .i64 7]) (bF (P:=Tryz.prog) (p:=2) rfl _ _ w.heap.size 229 #[.int .i64 0,.string ⟨#[]⟩,.int .i64 0,.int .i64 7] _ rfl (((((be.aB 0 (.int .i64 0)).aB 1 (.string ⟨#[]⟩)).aB 2 (.int .i64 0)).aB 3 (.int .i64 7)).alloc _) Tryz.underlying229 rfl (by kernel_rfl)) rfl ⟨by rw[HJ.out];rfl,below_grow ((((pF.setCell (p:=⟨w.heap.size,0,none⟩) (aF _) _).setCell (p:=⟨w.heap.size,1,none⟩) (aF _) _).setCell (p:=⟨w.heap.size,2,none⟩) (aF _) _).setCell (p:=⟨w.heap.size,3,none⟩) (aF _) _) _⟩
     ·have d2:(pp !=k)=true:=by simpa using x2
      have d2':((pp:Int) !=(k:Int))=true:=nX (by omega);have HJ:=zh (sJ Hj.out hlk (by rw[HF.out _ rfl,if_neg (fun h=>x2 h.2.1)]) K hkl);go_wp2_with (first | (go_at_call 181;refine(Dj _).out.mono ?_;rintro e w3 ⟨rfl,hB3⟩;have pF:Below w.heap.size w w3:=hBw.trans (hB3.mono hBw.size);have g0:=(hB3.cell (p:=⟨w1.heap.size,0,none⟩) tN).trans f0;have g2:=(hB3.cell (p:=⟨w1.heap.size,2,none⟩) tN).trans f2;have hl3:w1.heap.size<w3.heap.size:=(by have:=hB3.size;omega);have hn3:w1.heap.size≠w3.heap.size:=(by omega);have be:=NC.below hB3 NC.lt;have hlr:w.heap.size<w3.heap.size:=be.lt;have e0:=be.cell 0;have e1:=be.cell 1;have e2:=be.cell 2;have e3:=be.cell 3;have ef0:=be.frozen 0;have ef1:=be.frozen 1;have ef2:=be.frozen 2;have ef3:=be.frozen 3));exact bU (v:= .agg #[.int .i64 0,.string ⟨#[]⟩,.int .i64 0,.int .i64 7]) (bF (P:=Tryz.prog) (p:=2) rfl _ _ w.heap.size 229 #[.int .i64 0,.string ⟨#[]⟩,.int .i64 0,.int .i64 7] _ rfl (((((be.aB 0 (.int .i64 0)).aB 1 (.string ⟨#[]⟩)).aB 2 (.int .i64 0)).aB 3 (.int .i64 7)).alloc _) Tryz.underlying229 rfl (by kernel_rfl)) rfl ⟨by rw[HJ.out];rfl,below_grow ((((pF.setCell (p:=⟨w.heap.size,0,none⟩) (aF _) _).setCell (p:=⟨w.heap.size,1,none⟩) (aF _) _).setCell (p:=⟨w.heap.size,2,none⟩) (aF _) _).setCell (p:=⟨w.heap.size,3,none⟩) (aF _) _) _⟩
    ·have d1:(pn !=N)=true:=by simpa using x1
     have d1':((pn:Int) !=(N:Int))=true:=nX (by omega);have HJ:=zh (sJ Hj.out hlk (by rw[HF.out _ rfl,if_neg (fun h=>x1 h.1)]) K hkl);go_wp2_with (first | (go_at_call 181;refine(Dj _).out.mono ?_;rintro e w3 ⟨rfl,hB3⟩;have pF:Below w.heap.size w w3:=hBw.trans (hB3.mono hBw.size);have g0:=(hB3.cell (p:=⟨w1.heap.size,0,none⟩) tN).trans f0;have g2:=(hB3.cell (p:=⟨w1.heap.size,2,none⟩) tN).trans f2;have hl3:w1.heap.size<w3.heap.size:=(by have:=hB3.size;omega);have hn3:w1.heap.size≠w3.heap.size:=(by omega);have be:=NC.below hB3 NC.lt;have hlr:w.heap.size<w3.heap.size:=be.lt;have e0:=be.cell 0;have e1:=be.cell 1;have e2:=be.cell 2;have e3:=be.cell 3;have ef0:=be.frozen 0;have ef1:=be.frozen 1;have ef2:=be.frozen 2;have ef3:=be.frozen 3));exact bU (v:= .agg #[.int .i64 0,.string ⟨#[]⟩,.int .i64 0,.int .i64 7]) (bF (P:=Tryz.prog) (p:=2) rfl _ _ w.heap.size 229 #[.int .i64 0,.string ⟨#[]⟩,.int .i64 0,.int .i64 7] _ rfl (((((be.aB 0 (.int .i64 0)).aB 1 (.string ⟨#[]⟩)).aB 2 (.int .i64 0)).aB 3 (.int .i64 7)).alloc _) Tryz.underlying229 rfl (by kernel_rfl)) rfl ⟨by rw[HJ.out];rfl,below_grow ((((pF.setCell (p:=⟨w.heap.size,0,none⟩) (aF _) _).setCell (p:=⟨w.heap.size,1,none⟩) (aF _) _).setCell (p:=⟨w.heap.size,2,none⟩) (aF _) _).setCell (p:=⟨w.heap.size,3,none⟩) (aF _) _) _⟩
   ·have Dj:=fun w=>zh (xQ hE w)
    have de:(ev !=0)=true:=nX hev;have hfit:uN N L k s.data.toList=none:=by
     unfold uN;rcases hno with h | h
     ·rw[if_neg (by rw[Di];exact h)]
     ·split
      ·rw[h]
      ·rfl
    have HF:=zh hfit;clear hfit hE hno hev;have HJ:=zh (sJ Hj.out hlk HF.out K hkl);go_wp2_with (first | (go_at_call 181;refine(Dj _).out.mono ?_;rintro e w3 ⟨rfl,hB3⟩;have pF:Below w.heap.size w w3:=hBw.trans (hB3.mono hBw.size);have g0:=(hB3.cell (p:=⟨w1.heap.size,0,none⟩) tN).trans f0;have g2:=(hB3.cell (p:=⟨w1.heap.size,2,none⟩) tN).trans f2;have hl3:w1.heap.size<w3.heap.size:=(by have:=hB3.size;omega);have hn3:w1.heap.size≠w3.heap.size:=(by omega);have be:=NC.below hB3 NC.lt;have hlr:w.heap.size<w3.heap.size:=be.lt;have e0:=be.cell 0;have e1:=be.cell 1;have e2:=be.cell 2;have e3:=be.cell 3;have ef0:=be.frozen 0;have ef1:=be.frozen 1;have ef2:=be.frozen 2;have ef3:=be.frozen 3));exact bU (v:= .agg #[.int .i64 0,.string ⟨#[]⟩,.int .i64 0,.int .i64 7]) (bF (P:=Tryz.prog) (p:=2) rfl _ _ w.heap.size 229 #[.int .i64 0,.string ⟨#[]⟩,.int .i64 0,.int .i64 7] _ rfl (((((be.aB 0 (.int .i64 0)).aB 1 (.string ⟨#[]⟩)).aB 2 (.int .i64 0)).aB 3 (.int .i64 7)).alloc _) Tryz.underlying229 rfl (by kernel_rfl)) rfl ⟨by rw[HJ.out];rfl,below_grow ((((pF.setCell (p:=⟨w.heap.size,0,none⟩) (aF _) _).setCell (p:=⟨w.heap.size,1,none⟩) (aF _) _).setCell (p:=⟨w.heap.size,2,none⟩) (aF _) _).setCell (p:=⟨w.heap.size,3,none⟩) (aF _) _) _⟩
  ·have hd:decide (k<K)=false:=dF hkl;obtain rfl:k=K:=by omega
   have hj2:j=⟨N,T',k,0⟩:=by rw[Hj.out,HJk.out]
   have HJ2:=zh hj2;clear hj2;have e0:=NC.cell 0;have e1:=NC.cell 1;have e2:=NC.cell 2;have e3:=NC.cell 3;have ef0:=NC.frozen 0;have ef1:=NC.frozen 1;have ef2:=NC.frozen 2;have ef3:=NC.frozen 3
   go_wp2_with fail;exact bU (v:= .agg #[.int .i64 N,.string ⟨T'.toArray⟩,.int .i64 k,.int .i64 0]) (bF (P:=Tryz.prog) (p:=2) rfl _ _ w.heap.size 229 #[.int .i64 N,.string ⟨T'.toArray⟩,.int .i64 k,.int .i64 0] _ rfl ((((NC.aB 0 (.int .i64 N)).aB 1 (.string ⟨T'.toArray⟩)).aB 2 (.int .i64 k)).aB 3 (.int .i64 0)) Tryz.underlying229 rfl (by kernel_rfl)) rfl ⟨by rw[HJ2.out];rfl,((((hBw.setCell (p:=⟨w.heap.size,0,none⟩) (aF _) _).setCell (p:=⟨w.heap.size,1,none⟩) (aF _) _).setCell (p:=⟨w.heap.size,2,none⟩) (aF _) _).setCell (p:=⟨w.heap.size,3,none⟩) (aF _) _)⟩
end
end Go.Proofs.YtpghocekofdpbaaGreatDoor.Sec
namespace Go.Proofs.YtpghocekofdpbaaGreatDoor.Sec
open Go.RowKit Go.Shelf
attribute [local go_sem] Oper.semAt_some
theorem Yp {w:World} {v:Value} {l:List ByteArray} (h:tH w v l):
  Calls Tryz.prog 164 #[v] w fun e w'=>e= .returned (GX (oD l))/\Below w.heap.size w w':=by
 obtain⟨A,c,rfl,hc,hm,hat⟩:=h;cases l with
 | nil=>exact Yn A c
 | cons s0 r=>
  obtain⟨b,o,rfl,hb,hcell⟩:=hat (by simp);have hc0:w.cell? ⟨b,o,none⟩=some (.string s0):=hcell 0 s0 rfl;have hlen:(s0::r).length<=maxLen:=fU hc hm;rcases sH s0 with⟨p,hsz,hop,hE⟩ | ⟨hno,ev,hev,hE⟩
  ·obtain⟨f1,f2,f3⟩:=xR hop;have hsz':s0.data.toList.length=64:=by rw[Di];exact hsz
   by_cases hp:p.part=0
   ·have hE':nY s0=(bW p.number 0 p.left ⟨p.text.toArray⟩,0):=by rw[hE,hp];rfl
    by_cases hs:(s0::r).length<aj p.left
    ·have hj:oD (s0::r)=⟨0,[],0,7⟩:=by
      unfold oD joinL;rw[List.map_cons];dsimp only;rw[if_pos hsz',hop];dsimp only;rw[if_pos hp,if_pos (by simpa using hs)]
     rw[hj];exact P9 b o _ c (by simp) s0 hb hc0 p.number p.left _ hE' f1 hs hlen
    ·refine Uc b o c (s0::r) s0 hc0 p.number p.left _ hE' f1 f2 (by omega) hc hm hb hcell _ ?_;unfold oD joinL;rw[List.map_cons];dsimp only;rw[if_pos hsz',hop];dsimp only;rw[if_pos hp,if_neg (by simpa using hs)];rfl
   ·have hj:oD (s0::r)=⟨0,[],0,11⟩:=by
     unfold oD joinL;rw[List.map_cons];dsimp only;rw[if_pos hsz',hop];dsimp only;rw[if_neg hp]
    rw[hj];exact EJ b o _ c (by simp) s0 hb hc0 p.number p.part p.left _ 0 hE (.inr (by omega)) hlen
  ·have hj:oD (s0::r)=⟨0,[],0,11⟩:=by
    unfold oD joinL;rw[List.map_cons];dsimp only;rcases hno with h | h
    ·rw[if_neg (by rw[Di];exact h)]
    ·rw[h];split<;>rfl
   rw[hj];exact EJ b o _ c (by simp) s0 hb hc0 0 0 0 _ ev hE (.inl hev) hlen
end Go.Proofs.YtpghocekofdpbaaGreatDoor.Sec
