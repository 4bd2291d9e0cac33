import Derived.Test.YtpghocekofdpbaaGreatDoorQr31
import Derived.Test.YtpghocekofdpbaaGreatDoorQr48
set_option maxRecDepth 100000
set_option maxHeartbeats 1600000
namespace Go.Proofs.YtpghocekofdpbaaGreatDoor
open Go.RowKit Go.Shelf
attribute [local go_sem] Oper.semAt_some
def DZ (label:List UInt8) (l:List ByteArray):List UInt8:=dB label++iK l
theorem UJ (label:ByteArray) (l:List ByteArray) (hx:∀ x ∈ l,x.size<=1000000) (hlb:label.size<=1000000) (hl:l.length<=100):(DZ (bl label) l).length<1000000000:=by
 unfold DZ;rw[kM];have h1:=vW l hx;have h2:=jg (bl label);rw[aG] at h2;omega
theorem UK (w:World) (label:ByteArray) (A:Option Addr) (n c:Nat) (l:List ByteArray) (hn:l.length=n) (hl:n<=100) (hx:∀ x ∈ l,x.size<=1000000) (hA:sG w A l) (hlb:label.size<=1000000):
  Calls Tryz.prog 165 #[.string label,.slice A n c] w fun e w'=>e= .returned (.string (txt (DZ (bl label) l)))/\Below w.heap.size w w':=by
 have akl:=zh hlb;have HX:=zh hx;have HA:=zh hA;have hBa:Hid (Below w.heap.size w (w.alloc (.cells #[] 5))):=(bK _ w).alloc (aF _) _;have hRa:Hid (dD (w.alloc (.cells #[] 5)) w.heap.size (.slice (some ⟨w.heap.size,0,none⟩) 0 0) []):=uj (base:=w.heap.size) w [] (aF _) (by decide);have hl1:Hid (([]:List UInt8).length+(dB (bl label)).length<100000000000):=by
  unfold Hid;have h2:=jg (bl label);rw[aG] at h2;rw[zag];omega
 clear hx hA hlb;go_enter Tryz.func165,Tryz.ntmps165;go_wp2_with (first
  | (go_at_call 182;refine(wu _ label (by have:=akl.out;omega)).mono ?_;rintro e w1 ⟨v,rfl,hR,hB⟩;obtain⟨g1,c1,rfl,hg1,anu⟩:=hR.slice (DT _);have hR1:=zh (hRa.out.below hB);have akm:=zh hR.nN;have hB1:=zh (hBa.out.trans (hB.mono hBa.out.size));clear hR hB hg1 anu)
  | (at_builtin;refine Ae rfl _ _ rfl w.heap.size _ [] rfl hR1.out g1 0 c1 (dB (bl label)) rfl akm.out hl1.out hB1.out.size ?_;intro v w2 hP;have Ui:=zh hP;clear hP)
  | fail)
 have hR0:Hid (dD w2 w.heap.size v (dB (bl label)++iK (l.take 0))):=by
  unfold Hid iK;rw[List.take_zero,List.flatMap_nil,List.append_nil];exact Ui.out.row
 have hB2:=zh (Ui.out.bel _ _ (aF _) hB1.out.size hB1.out);clear Ui hR1 akm hB1 hRa hBa;go_loopw [5,6] (fun p q wr=>∃ t:Nat,q= .int .i64 t/\Hid (t<=n)/\Hid (dD wr w.heap.size p (dB (bl label)++iK (l.take t)))/\Hid (Below w.heap.size w wr)) (fun _ q _=>n-(intOf q).toNat)
 case atStart=>exact⟨0,rfl,iT _,hR0,hB2⟩
 case round=>
  clear hR0 hB2;obtain⟨t,rfl,ht,hR,hB⟩:=hrel;by_cases hlt:t<n
  ·have d1:decide (t<n)=true:=pW hlt;have d2:decide ((t:Int)<(n:Int))=true:=pW (by omega);obtain⟨x,hx⟩:∃ x,l[t]? =some x:=⟨_,jB (by omega)⟩;obtain⟨g,o,hAe,hgl,hcell⟩:=HA.out.at_ t x hx;have cx:wr.cell? ⟨g,o+t,none⟩=some (.string x):=(hB.out.cell (p:=⟨g,o+t,none⟩) hgl).trans hcell;have hix:∀ wx,(Instr.indexAt 35 (.slice A n c) (.int .i64 t)).run Tryz.prog wx= .ok (.pointer (some ⟨g,o+t,none⟩)) wx:=fun wx=>by
    rw[hAe];exact qY wx g o n c t hlt
   have hxs:=HX.out x (zI hx);have HI2:=zh (wu wr x (by omega));have hsn:=zh (EK l t x hx);have hlen:Hid ((dB (bl label)++iK (l.take t)).length+(dB (bl x)).length<100000000000):=by
    unfold Hid;have h1:=vW (l.take t) (fun y hy=>HX.out y (List.mem_of_mem_take hy));have h2:=jg (bl label);have h3:=jg (bl x);have h4:=akl.out;rw[kM];rw[ou] at h1;rw[aG] at h2 h3;omega
   have fG:=zh hlt;clear hx hcell hxs hAe;go_wp2_with (first
    | (go_at_call 182;refine HI2.out.mono ?_;rintro e w2 ⟨v2,rfl,hR2,hB2⟩;obtain⟨g2,c2,rfl,hg2,agA⟩:=hR2.slice (DT (bl x));have hRR:=zh (hR.out.below hB2);have agB:=zh hR2.nN;have yM:=zh (hB.out.trans (hB2.mono hB.out.size));clear hR2 hB2 hg2 agA)
    | (at_builtin;refine Ae rfl _ _ rfl w.heap.size _ (dB (bl label)++iK (l.take t)) rfl hRR.out g2 0 c2 (dB (bl x)) rfl agB.out hlen.out yM.out.size ?_;intro v' w' hP;rw[Em,<-hsn.out] at hP;have Ui:=zh hP;clear hP)
    | fail)
   refine⟨⟨t+1,by go_num,fG.out,Ui.out.row,Ui.out.bel _ _ (aF _) yM.out.size yM.out⟩,?_⟩;have:=fG.out;simp[intOf];omega
  ·have d1:decide (t<n)=false:=dF hlt;have d2:decide ((t:Int)<(n:Int))=false:=dF (by omega);have et:t=n:=zap ht (Ep hlt);have Qi:=hR.out;rw[et,<-hn,List.take_length] at Qi;have hcv:(convert 66 9 u5).run Tryz.prog wr= .ok (.string (txt (dB (bl label)++iK l))) wr:=jk Qi;clear Qi et;obtain⟨T,hT⟩:∃ T,txt (dB (bl label)++iK l)=T:=⟨_,rfl⟩;rw[hT] at hcv;have hTH:Hid (txt (DZ (bl label) l)=T):=hT;clear hT;go_wp2_with fail;go_ret;exact⟨by rw[hTH.out];rfl,hB.out⟩
theorem QG (w:World) (key label:ByteArray) (A:Option Addr) (n c:Nat) (l:List ByteArray) (hn:l.length=n) (hl:n<=100) (hx:∀ x ∈ l,x.size<=1000000) (hA:sG w A l) (hK:lV w 0) (hk:key.size<1000000000) (hlb:label.size<=1000000):
  Calls Tryz.prog 143 #[.string key,.string label,.slice A n c] w fun e w'=>e= .returned (.string (txt (yZ (bl key) (bl label) l)))/\Below w.heap.size w w':=by
 have HI:=zh (UK w label A n c l hn hl hx hA hlb);have hil:=UJ label l hx hlb (by omega);have HM:Hid (∀ w1,Below w.heap.size w w1->Calls Tryz.prog 44 #[.string key,.string (txt (DZ (bl label) l))] w1 fun e w'=>e= .returned (.string (txt (yZ (bl key) (bl label) l)))/\Below w1.heap.size w1 w'):=fun w1 hB=>by
  have h:=yh w1 key (txt (DZ (bl label) l)) hk (by rw[fP];exact hil) (hK.below hB);rw[lU] at h;exact h
 clear hx hA hK hil;go_enter Tryz.func143,Tryz.ntmps143;go_wp2_with (first
  | (go_at_call 165;refine HI.out.mono ?_;rintro e w1 ⟨rfl,hB⟩;have hB1:=zh hB;clear hB)
  | (go_at_call 44;refine(HM.out _ hB1.out).mono ?_;rintro e w2 ⟨rfl,hB⟩;have hB2:=zh (hB1.out.trans (hB.mono hB1.out.size));clear hB)
  | fail)
 go_ret;exact⟨rfl,hB2.out⟩
end Go.Proofs.YtpghocekofdpbaaGreatDoor
