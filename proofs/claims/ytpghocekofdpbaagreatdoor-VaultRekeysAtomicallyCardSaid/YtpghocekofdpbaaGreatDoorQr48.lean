import Derived.Test.YtpghocekofdpbaaGreatDoorQr47
import Derived.Test.YtpghocekofdpbaaGreatDoorQr28
set_option maxRecDepth 100000
set_option maxHeartbeats 1600000
namespace Go.Proofs.YtpghocekofdpbaaGreatDoor
open Go.RowKit Go.Shelf
attribute [local go_sem] Oper.semAt_some
theorem Qu (w:World) (n:Nat) (hn:n<9223372036854775808):
  Calls Tryz.prog 43 #[.int .i64 n] w fun e w'=>∃ v,e= .returned v/\dD w' w.heap.size v (fK n)/\Below w.heap.size w w':=by
 have q2:¬ (n:Int)<0:=by omega
 have q3:decide ((n:Int)<0)=false:=dF q2;have q4:decide ((n:Int)>=0)=true:=pW (by omega);have SL:=zh hn;clear hn;go_enter Tryz.func43,Tryz.ntmps43;have HR0:Hid (dD w w.heap.size (.slice none 0 0) (zJ n 0)):=um w _;have H0:Hid (n/2^(8*0)=n):=by unfold Hid;simp
 go_wp2_with fail;go_loopw [3,4] (fun p q wr=>∃ t m:Nat,p= .int .i64 m/\Hid (n/2^(8*t)=m)/\Hid (t<=F8 n)/\Hid (dD wr w.heap.size q (zJ n t))/\Hid (Below w.heap.size w wr)) (fun p _ _=>(intOf p).toNat)
 case atStart=>exact⟨0,n,rfl,H0,iT _,HR0,bK _ _⟩
 case round=>
  clear HR0 H0;obtain⟨t,m,rfl,hm,ht,hR,hB⟩:=hrel;by_cases h0:0<m
  ·have d1:decide (0<m)=true:=pW h0;have d2:decide ((0:Int)<(m:Int))=true:=pW (by omega);obtain⟨bx,hbx⟩:∃ bx,UInt8.ofNat m=bx:=⟨_,rfl⟩;have hv:Value.int IntKind.u8 ((m:Int) % 256)=aK bx:=by
    unfold aK;rw[<-hbx]
    congr 1
   have hvH:=zh hv;have hsn:Hid (zJ n (t+1)=zJ n t++ [bx]):=by unfold Hid;rw[Yx,hm.out,hbx]
   have hk1:Hid (t+1<=F8 n):=agK n t SL.out (by rw[hm.out];exact h0);have hk8:Hid (F8 n<=8):=NQ n;have hln:Hid ((zJ n t).length<99999999999):=by unfold Hid;rw[Qs];have h1:=hk1.out;have h2:=hk8.out;omega
   have hnx:Hid (n/2^(8*(t+1))=m/256):=by unfold Hid;rw[<-abd,hm.out]
   have hms:Hid (m/256<m):=Nat.div_lt_self h0 (by decide);have hmb:m<9223372036854775808:=by rw[<-hm.out];exact Nat.lt_of_le_of_lt (Nat.div_le_self _ _) SL.out
   have hdv:Hid (wrap64 ((m:Int)/256)=((m/256:Nat):Int)):=pR (m/256) (by omega);clear hmb;have hz:=zh hB.out.size;clear hv hbx;go_wp2_with (at_builtin;refine mF rfl _ _ rfl w.heap.size _ (zJ n t) rfl hR.out 1 bx hvH.out rfl hln.out hz.out ?_;intro v' w' hP;rw[<-hsn.out] at hP);have hB2:=zh (hP.bel _ _ (aF _) hz.out hB.out);have hR2:=zh hP.row;rw[hdv.out];exact⟨⟨t+1,m/256,rfl,hnx,hk1,hR2,hB2⟩,hms.out⟩
  ·have d1:decide (0<m)=false:=dF h0;have d2:decide ((0:Int)<(m:Int))=false:=dF (by omega);have hk:t=F8 n:=zap ht.out (ad1 n t (by rw[hm.out];omega));subst hk;obtain⟨wo,rfl⟩:∃ wo,wo=wr:=⟨_,rfl⟩;have hk8:=NQ n;have hL:Hid (fK n=UInt8.ofNat (128+F8 n)::zK n (F8 n)):=rfl;have hlow:Hid (∀ i,i<F8 n->(zJ n (F8 n))[i]? =some (UInt8.ofNat (n/2^(8*i)))):=fun i=>abb n _ i
   have hll:Hid ((zJ n (F8 n)).length=F8 n):=Qs n _;generalize zJ n (F8 n)=LL at *;generalize F8 n=k at *;obtain⟨A,cc,eA⟩:=hR.out.any;rw[hll.out] at eA;clear hm ht;subst eA;have hkH:=zh hk8;have hN0:Hid (dD wo wo.heap.size (.slice none 0 0) []):=um wo _;have hx:Value.int IntKind.u8 (128+(k:Int))=aK (UInt8.ofNat (128+k)):=by
    unfold aK;rw[UInt8.toNat_ofNat',Nat.mod_eq_of_lt (by omega)];rfl
   obtain⟨x0,hx0⟩:∃ x0,UInt8.ofNat (128+k)=x0:=⟨_,rfl⟩;rw[hx0] at hx hL;have hxH:=zh hx;clear hx hx0;have hl0:Hid (([]:List UInt8).length<99999999999):=by unfold Hid;decide
   go_wp2_with (at_builtin;refine mF rfl _ _ rfl wo.heap.size _ [] rfl hN0.out 1 x0 hxH.out rfl hl0.out (aF _) ?_;intro v1 w1 hP1);have hR1:=zh hP1.row;have hB1:=zh (hP1.bel wo.heap.size wo (aF _) (aF _) (bK _ _));have ajT:Hid (dD w1 wo.heap.size v1 (x0::(zK n k).take (k-k))):=by
    have h:=hR1.out;unfold Hid;rw[Nat.sub_self,List.take_zero];exact h
   clear hP1 hR1;go_loopw [6,7] (fun p q wr=>∃ j:Nat,q= .int .i64 ((j:Int)-1)/\Hid (j<=k)/\Hid (dD wr wo.heap.size p (x0::(zK n k).take (k-j)))/\Hid (Below wo.heap.size wo wr)) (fun _ q _=>(intOf q+1).toNat)
   case atStart=>exact⟨k,rfl,aF _,ajT,hB1⟩
   case round=>
    clear ajT hB1;obtain⟨j,rfl,hj,hO,hB2⟩:=hrel;cases j with
    | zero=>
     have Qi:dD wr w.heap.size u6 (fK n):=by
      have h:=hO.out;rw[Nat.sub_zero,uo (by rw[Ho];exact aF _)] at h;rw[hL.out];exact h.more hB.out.size
     have hBf:Below w.heap.size w wr:=hB.out.trans (hB2.out.mono hB.out.size);go_wp2_with fail;go_ret;exact⟨_,rfl,Qi,hBf⟩
    | succ i=>
     have hik:Hid (i<k):=hj.out;have hsn:=LD n k (k-(i+1)) (by have:=hik.out;omega);rw[show k-1-(k-(i+1))=i by(have:=hik.out;omega),show k-(i+1)+1=k-i by(have:=hik.out;omega)] at hsn;have hlo:=hlow.out i hik.out;obtain⟨bx,hbx⟩:∃ bx,UInt8.ofNat (n/2^(8*i))=bx:=⟨_,rfl⟩;rw[hbx] at hsn hlo;have xu:=zh hsn;have ZR:=hR.out.below hB2.out;obtain⟨g,c2,e2,_,hg⟩:=ZR.slice (by intro e;have h1:=hll.out;rw[e,zag] at h1;have h2:=hik.out;omega);rw[hll.out] at e2;injection e2 with eA _ eC
     subst eA eC;have cx:wr.cell? ⟨g,i,none⟩=some (aK bx):=ZR.cell i bx hlo;unfold aK at cx;have hln:Hid ((x0::(zK n k).take (k-(i+1))).length<99999999999):=by
      unfold Hid;rw[AY,ou];have:=hkH.out;omega
     have t1:i<k:=hik.out;have hsz:=zh hB2.out.size;clear hsn hbx hlo ZR;go_wp2_with (at_builtin;refine mF rfl _ _ rfl wo.heap.size _ (x0::(zK n k).take (k-(i+1))) rfl hO.out 1 bx rfl rfl hln.out hsz.out ?_;intro v' w' hP;rw[List.cons_append,<-xu.out] at hP);have hj2:Hid (i<=k):=Nat.le_of_lt hik.out;refine⟨⟨i,rfl,hj2,hP.row,hP.bel _ _ (aF _) hsz.out hB2.out⟩,?_⟩;simp[intOf]
theorem wu (w:World) (x:ByteArray) (hx:x.size<10000000000):
  Calls Tryz.prog 182 #[.string x] w fun e w'=>∃ v,e= .returned v/\dD w' w.heap.size v (dB (bl x))/\Below w.heap.size w w':=by
 have HI:=zh (Qu w x.size (by omega));have hxl:Hid ((bl x).length=x.size):=aG x;go_enter Tryz.func182,Tryz.ntmps182;have hlen:Hid ((fK x.size).length+x.size<100000000000):=by unfold Hid;have:=F6 x.size;omega
 have hcv:=fun w1=>Dq w1 x
 have amY:=zh hcv;clear hcv;go_wp2_with (first
  | (go_at_call 43;refine HI.out.mono ?_;rintro e w1 ⟨v,rfl,hR,hB⟩;obtain⟨cc,w2,hcv,hba,hbel,_⟩:=amY.out w1;rw[<-hxl.out] at hcv hlen;have hR1:=zh (hR.below hbel);have hB1:=zh (hB.trans (hbel.mono hB.size));have amZ:=zh hba;clear hR hB hba hbel)
  | (at_builtin;refine Ae rfl _ _ rfl w.heap.size v (fK x.size) rfl hR1.out _ 0 cc (bl x) rfl amZ.out hlen.out hB1.out.size ?_;intro v' w' hP;have Ui:=zh hP;clear hP)
  | fail)
 go_ret;refine⟨_,rfl,?_,Ui.out.bel _ _ (aF _) hB1.out.size hB1.out⟩;unfold dB;rw[aG];exact Ui.out.row
end Go.Proofs.YtpghocekofdpbaaGreatDoor
