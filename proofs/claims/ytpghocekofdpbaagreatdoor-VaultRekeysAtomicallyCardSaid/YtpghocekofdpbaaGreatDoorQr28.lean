import Derived.Test.YtpghocekofdpbaaGreatDoorQr27
set_option maxRecDepth 100000
set_option maxHeartbeats 3200000
namespace Go.Proofs.YtpghocekofdpbaaGreatDoor
section
open Go.RowKit Go.Shelf
attribute [local go_sem] Oper.semAt_some
theorem OQ (n k:Nat):(n:Int)/2^k=((n/2^k:Nat):Int):=by
 rw[Int.natCast_ediv,Int.natCast_pow];rfl
theorem MX (a:Nat) (h:a<256):Value.int IntKind.u8 (bits .xor .u8 (a:Int) 0)=aK (UInt8.ofNat a):=by
 have h1:=u8_xor_nat a 0 h (by decide);rw[Nat.xor_zero] at h1;unfold aK;rw[<-byte_of a,Int.emod_eq_of_lt (by omega) (by omega)];exact congrArg _ h1
theorem afc (n k:Nat) (h:0<n/2^k):(0:Int)<(n:Int)/2^k:=by
 rw[OQ];exact Int.natCast_pos.2 h
theorem adh (n k:Nat) (h:¬ 0<n/2^k):¬ (0:Int)<(n:Int)/2^k:=by
 rw[OQ];exact fun e=>h (Int.natCast_pos.1 e)
theorem OC (w:World) (n:Nat) (hn:n<9223372036854775808):
  Calls Tryz.prog 42 #[.int .i64 n] w fun e w'=>∃ v,e= .returned v/\dD w' w.heap.size v (fK n)/\Below w.heap.size w w':=by
 have q1:IntKind.u64.wrap (n:Int)=(n:Int):=DX n (by omega);have q2:¬ (n:Int)<0:=by omega
 have q3:decide ((n:Int)<0)=false:=dF q2;clear hn;go_enter Tryz.func42,Tryz.ntmps42;go_wp2_with fail
 go_step3
 go_wp2_with fail
 go_step3
 go_upto_block 0 with fail
 go_cut [5] from 14 to 23 (fun p wx=>p= .int .i64 (F8 n:Nat)/\wx=w)
 case first=>
  go_wp2_with fail;go_loopw [5] (fun p wr=>∃ j:Nat,p= .int .i64 j/\j<=8/\Hid (uQ n j=F8 n)/\wr=w) (fun p _=>(intOf p).toNat)
  case atStart=>exact⟨8,rfl,aF _,rfl,rfl⟩
  case round=>
   obtain⟨j,rfl,hj,hk,rfl⟩:=hrel;cases j with
   | zero=>
    go_wp2_with fail;go_meet;have h:=hk;unfold Hid uQ at h;exact⟨by rw[<-h],rfl⟩
   | succ j=>
    have j1:0<(j:Int)+1:=by omega
    by_cases hp:0<n/2^(8*j)
    ·have hp2:decide (0<n/2^(8*j))=true:=pW hp;have hp3:decide ((0:Int)<(n:Int)/2^(8*j))=true:=pW (afc n (8*j) hp);go_wp2_with fail;go_meet;have h:=hk;unfold Hid uQ at h;rw[if_pos hp] at h;exact⟨by rw[<-h],rfl⟩
    ·have hp2:decide (0<n/2^(8*j))=false:=dF hp;have hp3:decide ((0:Int)<(n:Int)/2^(8*j))=false:=dF (adh n (8*j) hp);have h:Hid (uQ n j=F8 n):=by
      have h:=hk;unfold Hid uQ at h;rw[if_neg hp] at h;exact h
     go_wp2_with fail;refine⟨⟨j,rfl,by omega,h,trivial⟩,?_⟩;simp[intOf]
 case rest=>
  obtain⟨rfl,rfl⟩:=hcut;have hk8:=NQ n;have hL:Hid (fK n=UInt8.ofNat (128+F8 n)::zK n (F8 n)):=rfl;generalize F8 n=k at *;have hx0:Value.int IntKind.u8 (bits .xor .u8 (128+(k:Int)) 0)=aK (UInt8.ofNat (128+k)):=MX (128+k) (by omega);obtain⟨x0,alH⟩:∃ x0,UInt8.ofNat (128+k)=x0:=⟨_,rfl⟩;rw[alH] at hx0 hL;have alI:=zh hx0;clear hx0;go_wp2_with fail;rw[alI.out];have hR0:Hid (dD (wc.alloc (.cells #[aK x0] 5)) wc.heap.size (.slice (some ⟨wc.heap.size,0,none⟩) 1 1) (x0::(zK n k).take (k-k))):=by
   unfold Hid;rw[Nat.sub_self,List.take_zero];exact uj (base:=wc.heap.size) wc [x0] (aF _) (by simp[maxLen])
  have hB0:Hid (Below wc.heap.size wc (wc.alloc (.cells #[aK x0] 5))):=(bK _ wc).alloc (aF _) _;clear alI alH q1 q2 q3;go_loopw [6,7] (fun p q wr=>∃ j:Nat,q= .int .i64 ((j:Int)-1)/\Hid (j<=k)/\Hid (dD wr wc.heap.size p (x0::(zK n k).take (k-j)))/\Hid (Below wc.heap.size wc wr)) (fun _ q _=>(intOf q+1).toNat)
  case atStart=>exact⟨k,rfl,aF _,hR0,hB0⟩
  case round=>
   clear hR0 hB0;obtain⟨j,rfl,hj,hR,hB⟩:=hrel;cases j with
   | zero=>
    have Qi:dD wr wc.heap.size u6 (fK n):=by
     have h:=hR.out;rw[Nat.sub_zero,uo (by rw[Ho];exact aF _)] at h;rw[hL.out];exact h
    go_wp2_with fail;rw[Exit.noGoto_ret];go_ret;exact⟨_,rfl,Qi,hB.out⟩
   | succ i=>
    have hv:Value.int IntKind.u8 (bits .xor .u8 ((n:Int)/2^(8*i) % 256) 0)=aK (UInt8.ofNat (n/2^(8*i))):=by
     have h:=MX (n/2^(8*i) % 256) (Nat.mod_lt _ (by decide));rw[Int.natCast_emod,<-OQ] at h;rw[show(n:Int)/2^(8*i) % 256=(n:Int)/2^(8*i) % ((256:Nat):Int) from rfl,h]
     congr 1
     apply UInt8.toNat_inj.1;rw[UInt8.toNat_ofNat',UInt8.toNat_ofNat'];omega
    have hsn:=LD n k (k-(i+1)) (by have:=hj;unfold Hid at this;omega);rw[show k-1-(k-(i+1))=i by(have:=hj;unfold Hid at this;omega),show k-(i+1)+1=k-i by(have:=hj;unfold Hid at this;omega)] at hsn;obtain⟨bx,hbx⟩:∃ bx,UInt8.ofNat (n/2^(8*i))=bx:=⟨_,rfl⟩;rw[hbx] at hv hsn;have hvH:=zh hv;have xu:=zh hsn;have hsz:=zh hB.out.size;have hln:Hid ((x0::(zK n k).take (k-(i+1))).length<99999999999):=by
     unfold Hid;rw[AY,ou];omega
    have hj8:i<8:=by have:=hj;unfold Hid at this;omega
    clear hv hsn hbx;go_wp2_with (at_builtin;refine mF rfl _ _ rfl wc.heap.size _ (x0::(zK n k).take (k-(i+1))) rfl hR.out 1 bx hvH.out rfl hln.out hsz.out ?_;intro v' w' hP;rw[List.cons_append,<-xu.out] at hP);have hj2:Hid (i<=k):=by have:=hj;unfold Hid at this ⊢;omega
    refine⟨⟨i,rfl,hj2,hP.row,hP.bel _ _ (aF _) hsz.out hB.out⟩,?_⟩;simp[intOf]
end
section
open Go.RowKit Go.Shelf
attribute [local go_sem] Oper.semAt_some
theorem y8 (w:World) (x:ByteArray) (hx:x.size<10000000000):
  Calls Tryz.prog 120 #[.string x] w fun e w'=>∃ v,e= .returned v/\dD w' w.heap.size v (dB (bl x))/\Below w.heap.size w w':=by
 have HI:=zh (OC w x.size (by omega));go_enter Tryz.func120,Tryz.ntmps120;have hlen:Hid ((fK x.size).length+x.size<100000000000):=by unfold Hid;have:=F6 x.size;omega
 go_wp2_with (first | (go_at_call 42;refine HI.out.mono ?_;rintro e w1 ⟨v,rfl,hR,hB⟩;have hR1:=zh hR;have hB1:=zh hB;clear hR hB) | (refine xk rfl _ _ rfl w.heap.size v (fK x.size) rfl hR1.out x rfl hlen.out hB1.out.size ?_;intro v' w' hP;have Ui:=zh hP;clear hP) | fail);go_ret;refine⟨_,rfl,?_,Ui.out.bel _ _ (aF _) hB1.out.size hB1.out⟩;unfold dB;rw[aG];exact Ui.out.row
end
section
open Go.RowKit Go.Shelf
attribute [local go_sem] Oper.semAt_some
def sG (w:World) (A:Option Addr) (l:List ByteArray):Prop:=l= []\/∃ g o,A=some ⟨g,o,none⟩/\g<w.heap.size/\∀ (i:Nat) (x:ByteArray),l[i]? =some x->w.cell? ⟨g,o+i,none⟩=some (.string x)
theorem sG.at_ {w:World} {A:Option Addr} {l:List ByteArray} (h:sG w A l) (i:Nat) (x:ByteArray) (hx:l[i]? =some x):∃ g o,A=some ⟨g,o,none⟩/\g<w.heap.size/\w.cell? ⟨g,o+i,none⟩=some (.string x):=by
 rcases h with h | ⟨g,o,h1,h2,h3⟩
 ·rw[h] at hx;cases hx
 ·exact⟨g,o,h1,h2,h3 i x hx⟩
theorem jg (b:List UInt8):(dB b).length<=9+b.length:=by unfold dB;rw[kM];have:=F6 b.length;omega
theorem DT (b:List UInt8):dB b≠ []:=by unfold dB fK;rw[List.cons_append];exact List.cons_ne_nil _ _
def iK (l:List ByteArray):List UInt8:=l.flatMap fun p=>dB (bl p)
theorem EK (l:List ByteArray) (t:Nat) (x:ByteArray) (h:l[t]? =some x):iK (l.take (t+1))=iK (l.take t)++dB (bl x):=by
 unfold iK;rw[FD,h,List.flatMap_append];simp
theorem vW (l:List ByteArray) (h:∀ x ∈ l,x.size<=1000000):(iK l).length<=1000009*l.length:=by
 induction l with
 | nil=>exact iT _
 | cons a r ih=>
  have h1:=ih fun x hx=>h x (List.mem_cons_of_mem _ hx)
  have h2:=jg (bl a);have h3:=h a (List.mem_cons_self ..);unfold iK at h1 ⊢;rw[List.flatMap_cons,kM,AY];rw[aG] at h2;omega
def yZ (key label:List UInt8) (l:List ByteArray):List UInt8:=nJ key (dB label++iK l)
theorem Qh (key label:List UInt8) (l:List ByteArray):(yZ key label l).length=32:=jK _ _
theorem qY (w:World) (g o n c t:Nat) (h:t<n):(Instr.indexAt 35 (.slice (some ⟨g,o,none⟩) n c) (.int .i64 t)).run Tryz.prog w= .ok (.pointer (some ⟨g,o+t,none⟩)) w:=by
 have d1:(0:Int)<=(t:Int):=by omega
 have d2:(t:Int)<(n:Int):=by omega
 simp[go_sem,d1,d2]
theorem Au (w:World) (key label:ByteArray) (A:Option Addr) (n c:Nat) (l:List ByteArray) (hn:l.length=n) (hl:n<=100) (hx:∀ x ∈ l,x.size<=1000000) (hA:sG w A l) (hK:lV w 1) (hk:key.size<10000000000) (hlb:label.size<=1000000):
  Calls Tryz.prog 85 #[.string key,.string label,.slice A n c] w fun e w'=>e= .returned (.string (txt (yZ (bl key) (bl label) l)))/\Below w.heap.size w w':=by
 have HI:=zh (y8 w label (by omega));have HX:=zh hx;have HA:=zh hA;have HK:=zh hK;clear hx hA hK;go_enter Tryz.func85,Tryz.ntmps85;go_wp2_with (first | (go_at_call 120;refine HI.out.mono ?_;rintro e w1 ⟨v,rfl,hR,hB⟩;have hR1:=zh hR;have hB1:=zh hB;clear hR hB) | fail);have hR0:Hid (dD w1 w.heap.size v (dB (bl label)++iK (l.take 0))):=by
  unfold Hid iK;rw[List.take_zero,List.flatMap_nil,List.append_nil];exact hR1.out
 go_loopw [7,14] (fun p q wr=>∃ t:Nat,q= .int .i64 t/\Hid (t<=n)/\Hid (dD wr w.heap.size p (dB (bl label)++iK (l.take t)))/\Hid (Below w.heap.size w wr)) (fun _ q _=>n-(intOf q).toNat)
 case atStart=>exact⟨0,rfl,iT _,hR0,hB1⟩
 case round=>
  clear hR0 hB1 hR1;obtain⟨t,rfl,ht,hR,hB⟩:=hrel;by_cases hlt:t<n
  ·have d1:decide (t<n)=true:=pW hlt;have d2:decide ((t:Int)<(n:Int))=true:=pW (by omega);obtain⟨x,hx⟩:∃ x,l[t]? =some x:=⟨_,jB (by omega)⟩;obtain⟨g,o,hAe,hgl,hcell⟩:=HA.out.at_ t x hx;have cx:wr.cell? ⟨g,o+t,none⟩=some (.string x):=(hB.out.cell (p:=⟨g,o+t,none⟩) hgl).trans hcell;have hix:∀ wx,(Instr.indexAt 35 (.slice A n c) (.int .i64 t)).run Tryz.prog wx= .ok (.pointer (some ⟨g,o+t,none⟩)) wx:=fun wx=>by
    rw[hAe];exact qY wx g o n c t hlt
   have hxs:=HX.out x (zI hx);have HI2:=zh (y8 wr x (by omega));have hsn:=zh (EK l t x hx);have hlen:Hid ((dB (bl label)++iK (l.take t)).length+(dB (bl x)).length<100000000000):=by
    unfold Hid;have h1:=vW (l.take t) (fun y hy=>HX.out y (List.mem_of_mem_take hy));have h2:=jg (bl label);have h3:=jg (bl x);rw[kM];rw[ou] at h1;rw[aG] at h2 h3;omega
   have fG:=zh hlt;clear hx hcell hxs hAe;go_wp2_with (first
    | (go_at_call 120;refine HI2.out.mono ?_;rintro e w2 ⟨v2,rfl,hR2,hB2⟩;obtain⟨g2,c2,rfl,hg2,agA⟩:=hR2.slice (DT (bl x));have hRR:=zh (hR.out.below hB2);have agB:=zh hR2.nN;have yM:=zh (hB.out.trans (hB2.mono hB.out.size));clear hR2 hB2 hg2 agA)
    | (at_builtin;refine Ae rfl _ _ rfl w.heap.size _ (dB (bl label)++iK (l.take t)) rfl hRR.out g2 0 c2 (dB (bl x)) rfl agB.out hlen.out yM.out.size ?_;intro v' w' hP;rw[Em,<-hsn.out] at hP;have Ui:=zh hP;clear hP)
    | fail)
   refine⟨⟨t+1,by go_num,fG.out,Ui.out.row,Ui.out.bel _ _ (aF _) yM.out.size yM.out⟩,?_⟩;have:=fG.out;simp[intOf];omega
  ·have d1:decide (t<n)=false:=dF hlt;have d2:decide ((t:Int)<(n:Int))=false:=dF (by omega);have et:t=n:=zap ht (Ep hlt);have Qi:=hR.out;rw[et,<-hn,List.take_length] at Qi;have hcv:=jk Qi;have HM:Hid (Calls Tryz.prog 41 #[.string key,.string (txt (dB (bl label)++iK l))] wr fun e w'=>e= .returned (.string (txt (yZ (bl key) (bl label) l)))/\Below wr.heap.size wr w'):=by
    refine BI wr key (txt (dB (bl label)++iK l)) (HK.out.below hB.out) hk ?_;rw[fP,kM];have h1:=vW l HX.out;have h2:=jg (bl label);rw[aG] at h2;omega
   have hcv2:(convert 66 9 u7).run Tryz.prog wr= .ok (.string (txt (dB (bl label)++iK l))) wr:=hcv;clear Qi hcv et;generalize txt (dB (bl label)++iK l)=T at *;go_wp2_with (first | (go_at_call 41;refine HM.out.mono ?_;rintro e w2 ⟨rfl,hB2⟩;have yM:=zh (hB.out.trans (hB2.mono hB.out.size));clear hB2) | fail);go_ret;exact⟨rfl,yM.out⟩
end
section
open Go.Shelf Go.RowKit
theorem sizeBuilder:(Tryz.prog.info? 188).map (·.size)=some 2:=by kernel_rfl
theorem liesBuilder:liesAt Tryz.prog Tryz.prog.depth 188 (2/Tryz.prog.cellsOf 188) 0 188 1=true:=by kernel_rfl
theorem qW (b:Nat) (w:World) (h0:w.cell? ⟨b,0,none⟩=some (.pointer (some ⟨b,0,none⟩))):
  Calls Tryz.prog 161 #[.pointer (some ⟨b,0,none⟩)] w fun e w'=>e= .returned (.tuple #[])/\w'=w:=by
 obtain⟨j,hj,_⟩:=Option.map_eq_some_iff.1 sizeBuilder;go_enter Tryz.func161,Tryz.ntmps161
 go_wp2
 rw[Lib.run_neq_ptr_same w _ Tryz.underlying186 hj]
 go_wp2
 go_end0;exact⟨rfl,rfl⟩
theorem pO (b:Nat) (w:World) (h0:w.cell? ⟨b,0,none⟩=some (.pointer none)) (hsh:w.shape? b=some (188,2)) (hfz:w.frozen? ⟨b,0,none⟩=false):
  Calls Tryz.prog 161 #[.pointer (some ⟨b,0,none⟩)] w fun e w'=>e= .returned (.tuple #[])/\w'=w.setCell ⟨b,0,none⟩ (.pointer (some ⟨b,0,none⟩)):=by
 obtain⟨j,hj,hjs⟩:=Option.map_eq_some_iff.1 sizeBuilder;go_enter Tryz.func161,Tryz.ntmps161
 go_wp2
 rw[Lib.run_to_unsafe w ⟨b,0,none⟩ Tryz.underlying186 Tryz.underlying244 hj (by rw[hjs];decide) hsh (Nat.zero_lt_succ 1)];simp only[Result.andThen];rw[Oper.upon_value]
 go_wp2
 rw[run_callFunc_extern Tryz.func178 (by kernel_rfl) (by kernel_rfl) (by kernel_rfl) (e:=Extern.AbiNoEscape.same) (by kernel_rfl)];rw[Lib.run_noEscape];simp only[Result.andThen];rw[Oper.upon_value]
 go_wp2
 rw[Lib.run_from_unsafe w ⟨b,0,none⟩ Tryz.underlying244 Tryz.underlying186 hj hsh liesBuilder];simp only[Result.andThen];rw[Oper.upon_value]
 go_wp2
 go_end0;exact⟨rfl,rfl⟩
theorem tq (B b:Nat) (bs:List Value) (w:World) (h:Lib.IsBuilder 188 5 B b bs w):
  Calls Tryz.prog 161 #[.pointer (some ⟨b,0,none⟩)] w fun e w'=>e= .returned (.tuple #[])/\(Lib.BuilderAt 188 5 B b (.pointer (some ⟨b,0,none⟩)) bs w'/\Below B w w'):=by
 rcases h with h | h
 ·refine(pO b w h.cell0 h.shape h.frozen0).mono ?_;rintro e w' ⟨rfl,rfl⟩;exact⟨rfl,h.used _,(bK B w).setCell (p:=⟨b,0,none⟩) h.1 _⟩
 ·refine(qW b w h.cell0).mono ?_;rintro e w' ⟨rfl,rfl⟩;exact⟨rfl,h,bK B _⟩
theorem qX (B b:Nat) (bs:List Value) (s:ByteArray) (w:World) (h:Lib.IsBuilder 188 5 B b bs w) (hlen:bs.length+s.size<=140737488355328) (hBw:B<=w.heap.size):
  Calls Tryz.prog 132 #[.pointer (some ⟨b,0,none⟩),.string s] w fun e w'=>e= .returned (.tuple #[.int .i64 s.size,.nilIface])/\(Lib.BuilderAt 188 5 B b (.pointer (some ⟨b,0,none⟩)) (bs++Lib.strCells s) w'/\Below B w w'):=by
 obtain⟨i0,hi,hz0,hz1,hz2⟩:=info_parts FQ;go_enter Tryz.func132,Tryz.ntmps132;go_wp2_with (first | (go_at_call 161;refine(tq B b bs _ h).mono ?_;rintro e w1 ⟨rfl,h1,hb1⟩;obtain⟨hB,v,hbk,hown,hne⟩:=h1;have c0:w1.cell? ⟨b,0,none⟩=some (.pointer (some ⟨b,0,none⟩)):=(by rw[Lib.cell_of_heap hbk];rfl);have c1:w1.cell? ⟨b,1,none⟩=some v:=(by rw[Lib.cell_of_heap hbk];rfl)) | (at_builtin;refine Lib.wpList_append_own_string _ rfl _ _ 66 9 rfl B 5 i0 Tryz.underlying66 Tryz.underlying9 hi hz0 hz1 hz2 _ _ _ rfl hown s rfl ?c3 ?c4 ?c5 ?_))
 case c3=>unfold maxLen;omega
 case c4=>omega
 case c5=>have:=hb1.size;omega
 intro v' w2 hown' hgrow _;have hlt:b<w1.heap.size:=by
  rcases Nat.lt_or_ge b w1.heap.size with h' | h'
  ·exact h'
  ·simp[Array.getElem?_eq_none h'] at hbk
 have hb2:w2.heap[b]? =some (.cells #[.pointer (some ⟨b,0,none⟩),v] 188 (0,0)):=by
  rw[hgrow.block b hlt (fun e=>hne e.symm)];exact hbk
 have d0:w2.cell? ⟨b,0,none⟩=some (.pointer (some ⟨b,0,none⟩)):=by rw[Lib.cell_of_heap hb2];rfl
 have d1:w2.cell? ⟨b,1,none⟩=some v:=by rw[Lib.cell_of_heap hb2];rfl
 have f1:w2.frozen? ⟨b,1,none⟩=false:=Lib.frozen_of_heap hb2 1;obtain⟨ao,n',cap,rfl⟩:∃ ao n' cap,v'= .slice ao n' cap:=by
  rcases hown'.2 with⟨hv,_⟩ | ⟨g,cap,cur,hv,_⟩
  ·exact⟨_,_,_,hv⟩
  ·exact⟨_,_,_,hv⟩
 go_wp2
 go_ret2;refine⟨rfl,?_,?_⟩
 ·exact Lib.BuilderAt.put (T:=188) (e:=5) hB hb2 (bs':=bs++Lib.strCells s) (by simpa [Lib.strCells_length] using hown') (by decide)
 ·exact(hb1.grown hgrow (by have:=hb1.size;omega) (fun k hk=>(hown.lt k hk).1)).setCell (p:=⟨b,1,none⟩) hB _
end
section
open Go.RowKit Go.Shelf
attribute [local go_sem] Oper.semAt_some
def qh (l:List ByteArray):List UInt8:=l.flatMap bl
theorem KF (l:List ByteArray) (t:Nat) (x:ByteArray) (h:l[t]? =some x):qh (l.take (t+1))=qh (l.take t)++bl x:=by
 unfold qh;rw[FD,h,List.flatMap_append];simp
theorem Pq (l:List ByteArray) (h:∀ x ∈ l,x.size<=2000000):(qh l).length<=2000000*l.length:=by
 induction l with
 | nil=>exact iT _
 | cons a r ih=>
  have h1:=ih fun x hx=>h x (List.mem_cons_of_mem _ hx)
  have h3:=h a (List.mem_cons_self ..);unfold qh at h1 ⊢;rw[List.flatMap_cons,kM,AY,aG];omega
theorem Pv (x:ByteArray):Lib.strCells x=(bl x).map aK:=rfl
theorem aaz (w:World) (g n c:Nat) (l:List ByteArray) (hn:l.length=n) (h2:2<=n) (hnc:n<=c) (hl:n<=100) (hx:∀ x ∈ l,x.size<=2000000) (hA:sG w (some ⟨g,0,none⟩) l):
  Calls Tryz.prog 151 #[.slice (some ⟨g,0,none⟩) n c,.string ⟨#[]⟩] w fun e w'=>e= .returned (.string (txt (qh l)))/\Below w.heap.size w w':=by
 have HX:=zh hx;have HA:=zh hA;have SL:=zh hn;have k0:decide (n=0)=false:=dF (by omega);have k1:decide ((n:Int)=0)=false:=dF (by omega);have k2:((n:Int)==0)=false:=by rw[FI];omega
 have k3:((n:Int)==1)=false:=by rw[FI];omega
 clear hx hA hn;go_enter Tryz.func151,Tryz.ntmps151;go_wp2_with fail;go_loopw [5,41] (fun p q wr=>∃ t m:Nat,q= .int .i64 t/\p= .int .i64 m/\Hid (t<=n)/\Hid (m<=2000000*t)/\w=wr) (fun _ q _=>n-(intOf q).toNat)
 case atStart=>exact⟨0,0,rfl,rfl,iT _,iT _,rfl⟩
 case round=>
  obtain⟨t,m,rfl,rfl,ht,hm,rfl⟩:=hrel;by_cases hlt:t<n
  ·have d1:decide (t<n)=true:=pW hlt;have d2:decide ((t:Int)<(n:Int))=true:=pW (by omega);obtain⟨x,hx⟩:∃ x,l[t]? =some x:=⟨_,jB (by rw[SL.out];exact hlt)⟩;have hix:=fun wx=>qY wx g 0 n c t hlt
   have cx:w.cell? ⟨g,0+t,none⟩=some (.string x):=by
    obtain⟨g',o',he,_,hc⟩:=HA.out.at_ t x hx;cases he;exact hc
   rw[AZ] at cx;have hix2:∀ wx,(Instr.indexAt 35 (.slice (some ⟨g,0,none⟩) n c) (.int .i64 t)).run Tryz.prog wx= .ok (.pointer (some ⟨g,t,none⟩)) wx:=fun wx=>by
    rw[hix wx,AZ]
   have hxs:=HX.out x (zI hx);have hm1:m<=200000000:=by have:=hm;unfold Hid at this;omega
   obtain⟨M,hM⟩:∃ M:Nat,(9223372036854775807:Int)-(m:Int)=(M:Int):=⟨9223372036854775807-m,by omega⟩;have hMl:1000000000<=M:=by omega
   have e1:wrap64 (9223372036854775807-(m:Int))=(M:Int):=by
    rw[hM];exact pR M (by omega)
   have e2:decide ((M:Int)<(x.size:Int))=false:=dF (by omega);have e3:¬ (M:Int)<(x.size:Int):=by omega
   have e4:¬ M<x.size:=by omega
   have fG:=zh hlt;have hm2:Hid (m+x.size<=2000000*(t+1)):=by have:=hm;unfold Hid at this ⊢;omega
   clear hx hix hMl hxs;go_wp2_with fail;refine⟨⟨t+1,m+x.size,by go_num,by go_num,fG.out,hm2.out,trivial⟩,?_⟩;have:=fG.out;simp[intOf];omega
  ·have d1:decide (t<n)=false:=dF hlt;have d2:decide ((t:Int)<(n:Int))=false:=dF (by omega);have hm1:m<=281474976710656:=by have:=hm;unfold Hid at this;have:=ht;unfold Hid at this;omega
   have HGR:=zh (Tryz.Builder_Grow_fresh w.heap.size w.heap.size m (w.alloc (.cells #[.pointer none,.slice none 0 0] 188)) (aF _) (ak.new w _ _) (by rw[oz];exact wW _) hm1);obtain⟨x0,hx0⟩:∃ x,l[0]? =some x:=⟨_,jB (by have:=SL.out;omega)⟩;have aiR:Hid (∀ wx,Below w.heap.size w wx->wx.cell? ⟨g,0,none⟩=some (.string x0)):=fun wx hB=>by
    obtain⟨g',o',he,hgl,hc⟩:=HA.out.at_ 0 x0 hx0;cases he;rw[hB.cell (p:=⟨g,0,none⟩) hgl];exact hc
   have aiS:=zh (HX.out x0 (zI hx0));have h1n:(1:Int)<=(n:Int):=by omega
   have h1c:¬ c=1:=by omega
   have h0n:(0:Int)<(n:Int):=by omega
   have amB:=zh hm1;have hc1:Hid (qh (l.take 1)=bl x0):=by
    unfold Hid;rw[KF l 0 x0 hx0,List.take_zero];rfl
   clear hm1 hx0;go_upto_region 20 with(first | (go_at_call 131;refine HGR.out.mono ?_;rintro e w1 ⟨rfl,aiT,hB1⟩;have aiU:=zh aiT;have HB1:=zh (((bK w.heap.size w).alloc (aF _) _).trans hB1);clear aiT hB1) | fail);have hc0:=aiR.out w1 HB1.out;have hix0:∀ wx,(Instr.indexAt 35 (.slice (some ⟨g,0,none⟩) n c) (.int .i64 0)).run Tryz.prog wx= .ok (.pointer (some ⟨g,0,none⟩)) wx:=fun wx=>qY wx g 0 n c 0 (by omega)
   have HW0:=zh (qX w.heap.size w.heap.size [] x0 w1 (.inr aiU.out) (by have:=aiS.out;simp;omega) HB1.out.size)
   go_upto_block 3 with(first | (go_at_call 132;refine HW0.out.mono ?_;rintro e w2 ⟨rfl,aiV,hB2⟩;have Nr:=zh aiV;have HB2:=zh (HB1.out.trans hB2);clear aiV hB2) | fail)
   have hR0:Hid (Lib.BuilderAt 188 5 w.heap.size w.heap.size (.pointer (some ⟨w.heap.size,0,none⟩)) ((qh (l.take (0+1))).map aK) w2):=by
    unfold Hid;rw[hc1.out];exact Nr.out
   clear hc0 hix0 HW0 aiU HB1 HGR aiR aiS hc1 amB Nr;go_wp2_with fail;go_loopw [65] (fun q wr=>∃ t:Nat,q= .int .i64 t/\Hid (t+1<=n)/\Hid (Lib.BuilderAt 188 5 w.heap.size w.heap.size (.pointer (some ⟨w.heap.size,0,none⟩)) ((qh (l.take (t+1))).map aK) wr)/\Hid (Below w.heap.size w wr)) (fun q _=>n-(intOf q).toNat)
   case atStart=>exact⟨0,rfl,by unfold Hid;omega,hR0,HB2⟩
   case round=>
    clear hR0 HB2 hm;obtain⟨i,rfl,hi,hR,hB⟩:=hrel;by_cases hli:i<n-1
    ·have b1:decide (i<n-1)=true:=pW hli;have b2:decide ((i:Int)<(n:Int)-1)=true:=pW (by omega);have b3:decide ((i:Int)<((n-1:Nat):Int))=true:=pW (by omega);have b4:(i:Int)<((n-1:Nat):Int):=by omega
     obtain⟨x,hx⟩:∃ x,l[i+1]? =some x:=⟨_,jB (by rw[SL.out];omega)⟩;have cx:wr.cell? ⟨g,1+i,none⟩=some (.string x):=by
      obtain⟨g',o',he,hgl,hc⟩:=HA.out.at_ (i+1) x hx;cases he;rw[hB.out.cell (p:=⟨g,1+i,none⟩) hgl,show 1+i=0+(i+1) by omega];exact hc
     have hix:∀ wx,(Instr.indexAt 35 (.slice (some ⟨g,1,none⟩) (n-1) (c-1)) (.int .i64 i)).run Tryz.prog wx= .ok (.pointer (some ⟨g,1+i,none⟩)) wx:=fun wx=>qY wx g 1 (n-1) (c-1) i hli
     have hxs:=HX.out x (zI hx);have hsn:=KF l (i+1) x hx;have hlen:(qh (l.take (i+1))).length<=200000000:=by
      have h:=Pq (l.take (i+1)) (fun y hy=>HX.out y (List.mem_of_mem_take hy));rw[ou] at h;omega
     have HWa:=zh (qX w.heap.size w.heap.size _ ⟨#[]⟩ wr (.inr hR.out) (by rw[lq];show(qh (l.take (i+1))).length+0<=_;omega) hB.out.size);have HWb:Hid (∀ wx,Lib.BuilderAt 188 5 w.heap.size w.heap.size (.pointer (some ⟨w.heap.size,0,none⟩)) ((qh (l.take (i+1))).map aK++Lib.strCells ⟨#[]⟩) wx->w.heap.size<=wx.heap.size->Calls Tryz.prog 132 #[.pointer (some ⟨w.heap.size,0,none⟩),.string x] wx fun e w'=>e= .returned (.tuple #[.int .i64 x.size,.nilIface])/\(Lib.BuilderAt 188 5 w.heap.size w.heap.size (.pointer (some ⟨w.heap.size,0,none⟩)) ((qh (l.take (i+1+1))).map aK) w'/\Below w.heap.size wx w')):=fun wx h hb=>by
      have h2:=qX w.heap.size w.heap.size _ x wx (.inr h) (by rw[kM,lq,Lib.strCells_length];show(qh (l.take (i+1))).length+0+x.size<=_;omega) hb;rw[show Lib.strCells ⟨#[]⟩= [] from rfl,List.append_nil,Pv,<-Gh,<-hsn] at h2;exact h2
     have amC:=zh hli;clear hx hxs hsn hlen;go_wp2_with (first | (go_at_call 132;refine(HWb.out _ HBa.out ZQ.out.size).mono ?_;rintro e w4 ⟨rfl,aiW,hBb⟩;have HBb:=zh aiW;have HBC:=zh (ZQ.out.trans hBb);clear aiW hBb) | (go_at_call 132;refine HWa.out.mono ?_;rintro e w3 ⟨rfl,aiX,hBa⟩;have HBa:=zh aiX;have ZQ:=zh (hB.out.trans hBa);clear aiX hBa) | fail);have hi2:Hid (i+1+1<=n):=by have:=amC.out;unfold Hid;omega
     refine⟨⟨i+1,by go_num,hi2,HBb,HBC⟩,?_⟩;have:=hi2.out;simp[intOf];omega
    ·have b1:decide (i<n-1)=false:=dF hli;have b2:decide ((i:Int)<(n:Int)-1)=false:=dF (by omega);have b3:decide ((i:Int)<((n-1:Nat):Int))=false:=dF (by omega);have b4:¬ (i:Int)<((n-1:Nat):Int):=by omega
     have HF:=zh (Tryz.Builder_String_any w.heap.size w.heap.size (qh l) wr (.inr (by
      have h:=hR.out;have e:i+1=n:=by have:=hi;unfold Hid at this;omega
      rw[e,<-SL.out,List.take_length] at h;exact h)) hB.out.size)
     go_wp2_with (first | (go_at_call 134;refine HF.out.mono ?_;rintro e w3 ⟨rfl,hB3⟩;have HB3:=zh (hB.out.trans hB3);clear hB3) | fail);go_ret;exact⟨rfl,HB3.out⟩
end
def zH (l:List UInt8):UInt32:=Af (Af (Af (w8 (l.getD 0 0)) (gq (w8 (l.getD 1 0)) 8)) (gq (w8 (l.getD 2 0)) 16)) (gq (w8 (l.getD 3 0)) 24)
def le4 (x:UInt32):List UInt8:= [UInt8.ofNat x.toNat,UInt8.ofNat (x.toNat/256),UInt8.ofNat (x.toNat/65536),UInt8.ofNat (x.toNat/16777216)]
theorem adu (x:UInt32):(le4 x).length=4:=rfl
def jI (c:UInt32):List UInt32:= [1634760805,857760878,2036477234,1797285236,0,0,0,0,0,0,0,0,c,0,0,0]
def lK (k:List UInt8) (S:List UInt32):Nat->List UInt32
 | 0=>S
 | t+1=>(lK k S t).set (4+t) (zH (k.drop (4*t)))
def uq (k:List UInt8) (S:List UInt32):Nat->List UInt32
 | 0=>S
 | t+1=>(uq k S t).set (13+t) (zH (k.drop (4*t)))
theorem qI (k:List UInt8) (S:List UInt32):∀ t,(lK k S t).length=S.length
 | 0=>rfl
 | t+1=>by unfold lK;rw[List.length_set];exact qI k S t
theorem yJ (k:List UInt8) (S:List UInt32):∀ t,(uq k S t).length=S.length
 | 0=>rfl
 | t+1=>by unfold uq;rw[List.length_set];exact yJ k S t
def gu (k:List UInt8) (c:UInt32) (n:List UInt8):List UInt32:=uq n (lK k (jI c) 8) 3
theorem oI (k:List UInt8) (c:UInt32) (n:List UInt8):(gu k c n).length=16:=by unfold gu;rw[yJ,qI];rfl
def jl (S:List UInt32) (a b:Nat):List UInt32:=S.set a (aT (S.getD a 0) (S.getD b 0))
def jm (S:List UInt32) (d a k:Nat):List UInt32:=S.set d (rotl (dI (S.getD d 0) (S.getD a 0)) k)
theorem iY (S:List UInt32) (a b:Nat):(jl S a b).length=S.length:=List.length_set ..
theorem iZ (S:List UInt32) (d a k:Nat):(jm S d a k).length=S.length:=List.length_set ..
def JB (S:List UInt32) (a b c d:Nat):List UInt32:=jm (jl (jm (jl (jm (jl (jm (jl S a b) d a 16) c d) b c 12) a b) d a 8) c d) b c 7
theorem Ba (S:List UInt32) (a b c d:Nat):(JB S a b c d).length=S.length:=by
 unfold JB;rw[iZ,iY,iZ,iY,iZ,iY,iZ,iY]
def yF (S:List UInt32):Nat->List UInt32
 | 0=>S
 | i+1=>JB (yF S i) i (4+i) (8+i) (12+i)
def FH (S:List UInt32):Nat->List UInt32
 | 0=>S
 | i+1=>JB (FH S i) i (4+(i+1) % 4) (8+(i+2) % 4) (12+(i+3) % 4)
def jY (S:List UInt32):Nat->List UInt32
 | 0=>S
 | n+1=>FH (yF (jY S n) 4) 4
theorem Bc (S:List UInt32):∀ i,(yF S i).length=S.length
 | 0=>rfl
 | i+1=>by unfold yF;rw[Ba];exact Bc S i
theorem Gj (S:List UInt32):∀ i,(FH S i).length=S.length
 | 0=>rfl
 | i+1=>by unfold FH;rw[Ba];exact Gj S i
theorem oW (S:List UInt32):∀ n,(jY S n).length=S.length
 | 0=>rfl
 | n+1=>by unfold jY;rw[Gj,Bc];exact oW S n
def uw (S:List UInt32) (i:Nat):List UInt8:=(List.range i).flatMap fun j=>le4 (aT ((jY S 10).getD j 0) (S.getD j 0))
theorem Ag (S:List UInt32) (i:Nat):uw S (i+1)=uw S i++le4 (aT ((jY S 10).getD i 0) (S.getD i 0)):=by
 unfold uw;rw[List.range_succ,List.flatMap_append];simp
theorem yK (S:List UInt32):∀ i,(uw S i).length=4*i
 | 0=>rfl
 | i+1=>by rw[Ag,kM,yK S i,adu];omega
def iU (k:List UInt8) (c:UInt32) (n:List UInt8):List UInt8:=uw (gu k c n) 16
theorem Gl (k:List UInt8) (c:UInt32) (n:List UInt8):(iU k c n).length=64:=yK _ 16
def qc (c:UInt32):Nat->UInt32
 | 0=>c
 | q+1=>aT (qc c q) 1
def keyAt (k:List UInt8) (c:UInt32) (n:List UInt8) (i:Nat):UInt8:=(iU k (qc c (i/64)) n).getD (i % 64) 0
def lS (k:List UInt8) (c:UInt32) (n:List UInt8) (t:List UInt8):List UInt8:=t.mapIdx fun i x=>pK x (keyAt k c n i)
theorem lW (k:List UInt8) (c:UInt32) (n:List UInt8) (t:List UInt8):(lS k c n t).length=t.length:=List.length_mapIdx ..
theorem Tn (x y:UInt8):pK (pK x y) y=x:=by unfold pK;rw[UInt8.xor_assoc,UInt8.xor_self,UInt8.xor_zero]
theorem Tq (k:List UInt8) (c:UInt32) (n:List UInt8) (t:List UInt8):lS k c n (lS k c n t)=t:=by
 apply List.ext_getElem?;intro i;unfold lS;rw[List.getElem?_mapIdx,List.getElem?_mapIdx];cases t[i]? with
 | none=>rfl
 | some x=>exact congrArg some (Tn x _)
theorem Xj (a:UInt8):(w8 a).toNat<256:=by
 unfold w8;have h:=a.toNat_lt;rw[UInt32.toNat_ofNat'];omega
theorem UA (x y:UInt32) (s:Nat) (hs:s<32) (hx:x.toNat<2^s) (hy:x.toNat+2^s*y.toNat<4294967296):
  aT x (gq y s)=Af x (gq y s)/\(aT x (gq y s)).toNat=x.toNat+2^s*y.toNat:=by
 have h:=xq y s (by omega);have hl:(gq y s).toNat=2^s*y.toNat:=by
  rw[Gm (by omega)] at h;have h2:((2^s*y.toNat:Nat):Int)=(y.toNat:Int)*2^s:=by rw[Int.natCast_mul,Int.natCast_pow,Int.mul_comm];rfl
  rw[<-h2] at h;omega
 have ha:(aT x (gq y s)).toNat=x.toNat+2^s*y.toNat:=by
  unfold aT;rw[UInt32.toNat_add,hl];omega
 refine⟨?_,ha⟩;apply UInt32.toNat_inj.1;rw[ha];unfold Af;rw[UInt32.toNat_or,hl,Nat.or_comm,<-Nat.two_pow_add_eq_or_of_lt hx,Nat.add_comm]
theorem ad9 (a b c d:UInt8):aT (aT (aT (w8 a) (gq (w8 b) 8)) (gq (w8 c) 16)) (gq (w8 d) 24)=Af (Af (Af (w8 a) (gq (w8 b) 8)) (gq (w8 c) 16)) (gq (w8 d) 24):=by
 have ha:=Xj a;have hb:=Xj b;have hc:=Xj c;have hd:=Xj d;generalize w8 a=x at *;generalize w8 b=y at *;generalize w8 c=z at *;generalize w8 d=u at *;obtain⟨e1,n1⟩:=UA x y 8 (by omega) (by omega) (by omega);rw[<-e1];generalize aT x (gq y 8)=p at *;obtain⟨e2,n2⟩:=UA p z 16 (by omega) (by omega) (by omega);rw[<-e2];generalize aT p (gq z 16)=q at *;exact(UA q u 24 (by omega) (by omega) (by omega)).1
end Go.Proofs.YtpghocekofdpbaaGreatDoor
