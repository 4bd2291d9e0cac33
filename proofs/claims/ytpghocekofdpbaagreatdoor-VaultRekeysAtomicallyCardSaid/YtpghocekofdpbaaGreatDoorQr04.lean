import Derived.Test.YtpghocekofdpbaaGreatDoorQr00
import Derived.Test.YtpghocekofdpbaaGreatDoorRows
import Derived.WalkSpells
import Derived.WalkLawsBesides
import Derived.BigQuiet
import Derived.StillTailTactics
set_option maxHeartbeats 4000000
namespace Go.Proofs.YtpghocekofdpbaaGreatDoor
open Go.RowKit
structure Sec where
 now:ByteArray
 before:ByteArray
 fresh:ByteArray
 dirty:Bool
 eX:Bool
instance:Inhabited Sec:=⟨⟨⟨#[]⟩,⟨#[]⟩,⟨#[]⟩,false,false⟩⟩
def jo (s:Sec):List Value:= [.string s.now,.string s.before,.string s.fresh,.bool s.dirty,.bool s.eX]
def cO (M:List Sec):List Value:=M.flatMap jo
theorem jF (s:Sec) (r:List Sec):cO (s::r)=jo s++cO r:=by simp[cO]
theorem vF (a b:List Sec):cO (a++b)=cO a++cO b:=by simp[cO]
theorem jV (s:Sec):(jo s).length=5:=rfl
theorem jS:∀ M:List Sec,(cO M).length=M.length*5
 | []=>rfl
 | s::r=>by rw[jF,kM,jV,jS r,AY];omega
theorem EL:∀ (M:List Sec) (i j:Nat) (s:Sec),M[i]? =some s->j<5->(cO M)[i*5+j]? =(jo s)[j]?
 | a::r,0,j,s,h,hj=>by
  simp at h;subst h
  rw[jF,Nat.zero_mul,AZ,List.getElem?_append_left (by rw[jV];exact hj)]
 | a::r,i+1,j,s,h,hj=>by
  have ih:=EL r i j s (by simpa using h) hj;rw[jF,ZP (by rw[jV];omega),jV,show(i+1)*5+j-5=i*5+j by omega];exact ih
theorem BJ:∀ (M:List Sec) (i j:Nat) (s s':Sec) (v:Value),M[i]? =some s->j<5->(jo s).set j v=jo s'->(cO M).set (i*5+j) v=cO (M.set i s')
 | a::r,0,j,s,s',v,h,hj,hs=>by
  simp at h;subst h
  rw[jF,Nat.zero_mul,AZ,List.set_append_left _ _ (by rw[jV];exact hj),hs,List.set_cons_zero,jF]
 | a::r,i+1,j,s,s',v,h,hj,hs=>by
  have ih:=BJ r i j s s' v (by simpa using h) hj hs;rw[jF,List.set_append_right _ _ (by rw[jV];omega),jV,show(i+1)*5+j-5=i*5+j by omega,ih,List.set_cons_succ,jF]
structure kD (tM tS:TypeId) (w:World) (b g:Nat) (M:List Sec):Prop where
 ne:b≠g
 pos:0<M.length
 body:∃ cap cur,ak w b tM #[.slice (some ⟨g,0,none⟩) M.length cap]/\ak w g tS cur/\M.length<=cap/\cap<=maxLen/\cur.size=cap*5/\cur.toList.take (M.length*5)=cO M
section
variable {tM tS:TypeId} {w w':World} {b g:Nat} {M:List Sec}
theorem kD.lt (h:kD tM tS w b g M):b<w.heap.size/\g<w.heap.size:=by
 obtain⟨cap,cur,h1,h2,_⟩:=h.body;exact⟨h1.lt,h2.lt⟩
theorem kD.head (h:kD tM tS w b g M):∃ cap,w.cell? ⟨b,0,none⟩=some (.slice (some ⟨g,0,none⟩) M.length cap)/\M.length<=cap/\cap<=maxLen:=by
 obtain⟨cap,cur,h1,_,h3,h4,_⟩:=h.body;exact⟨cap,by rw[h1.cell];rfl,h3,h4⟩
theorem kD.cellAt (h:kD tM tS w b g M) {i j:Nat} {s:Sec} (hs:M[i]? =some s) (hj:j<5):w.cell? ⟨g,i*5+j,none⟩=(jo s)[j]? :=by
 obtain⟨cap,cur,_,h2,_,_,h5,h6⟩:=h.body;have hi:=(List.getElem?_eq_some_iff.1 hs).1;rw[h2.cell,<-EL M i j s hs hj,<-h6,List.getElem?_take_of_lt (by omega),Array.getElem?_toList]
theorem kD.sec (h:kD tM tS w b g M) {i:Nat} {s:Sec} (hs:M[i]? =some s):
  w.cell? ⟨g,i*5,none⟩=some (.string s.now)/\w.cell? ⟨g,i*5+1,none⟩=some (.string s.before)/\w.cell? ⟨g,i*5+2,none⟩=some (.string s.fresh)/\w.cell? ⟨g,i*5+3,none⟩=some (.bool s.dirty)/\w.cell? ⟨g,i*5+4,none⟩=some (.bool s.eX):=
 ⟨h.cellAt (j:=0) hs (by omega),h.cellAt (j:=1) hs (by omega),h.cellAt (j:=2) hs (by omega),h.cellAt (j:=3) hs (by omega),h.cellAt (j:=4) hs (by omega)⟩
theorem kD.frozen (h:kD tM tS w b g M) (k:Nat):w.frozen? ⟨g,k,none⟩=false:=by
 obtain⟨cap,cur,_,h2,_⟩:=h.body;exact h2.frozen k
theorem kD.store (h:kD tM tS w b g M) {i j:Nat} {s s':Sec} {v:Value} (hs:M[i]? =some s) (hj:j<5) (hv:(jo s).set j v=jo s'):kD tM tS (w.setCell ⟨g,i*5+j,none⟩ v) b g (M.set i s'):=by
 obtain⟨cap,cur,h1,h2,h3,h4,h5,h6⟩:=h.body;have hi:=(List.getElem?_eq_some_iff.1 hs).1;refine⟨h.ne,by rw[List.length_set];exact h.pos,cap,_,?_,h2.aB (i*5+j) v,by rw[List.length_set];exact h3,h4,by rw[Array.size_setIfInBounds];exact h5,?_⟩
 ·rw[List.length_set];exact h1.other (a:=⟨g,i*5+j,none⟩) h.ne v
 ·rw[List.length_set,Array.toList_setIfInBounds,List.take_set,h6,BJ M i j s s' v hs hj hv]
theorem kD.grown {row:Option Nat} (h:kD tM tS w b g M) (hg:w.grownBy w' row) (h1:some b≠row) (h2:some g≠row):kD tM tS w' b g M:=by
 obtain⟨cap,cur,k1,k2,k3⟩:=h.body;exact⟨h.ne,h.pos,cap,cur,k1.grown hg h1,k2.grown hg h2,k3⟩
theorem kD.below (h:kD tM tS w b g M) {B:Nat} (hb:Below B w w') (h1:b<B) (h2:g<B):kD tM tS w' b g M:=by
 obtain⟨cap,cur,k1,k2,k3⟩:=h.body;exact⟨h.ne,h.pos,cap,cur,k1.below hb h1,k2.below hb h2,k3⟩
end
theorem au (w:World) (g k:Nat) (v:Value):w.grownBy (w.setCell ⟨g,k,none⟩ v) (some g):=
 ⟨rfl,rfl,rfl,by simp[World.setCell],fun j _ hne=>Below.heap_setCell w ⟨g,k,none⟩ v j (fun e=>hne (by rw[e]))⟩
theorem bG {a b c:World} {row:Option Nat} (h:a.grownBy b row) (k:b.grownBy c row):a.grownBy c row:=
 ⟨k.os.trans h.os,k.tape.trans h.tape,k.output.trans h.output,fU h.size k.size,fun j hj hne=>(k.block j (rY hj h.size) hne).trans (h.block j hj hne)⟩
theorem grown_drewN (w:World) (n:Nat) (row:Option Nat):w.grownBy (w.drewN n) row:=⟨rfl,rfl,rfl,aF _,fun _ _ _=>rfl⟩
theorem iJ (w:World) (row:Option Nat):w.grownBy w row:=⟨rfl,rfl,rfl,aF _,fun _ _ _=>rfl⟩
theorem grown_below {B:Nat} {w w':World} (h:Below B w w') (hB:w.heap.size<=B) (row:Option Nat):w.grownBy w' row:=
 ⟨h.os,h.tape,h.output,h.size,fun k hk _=>h.block k (by omega)⟩
theorem below_grown {w w':World} (h:w.grownBy w' none):Below w.heap.size w w':=⟨h.os,h.tape,h.output,h.size,fun k hk=>h.block k hk (by simp)⟩
theorem qo {k:IntKind} {a b:Int} (h:a=b):Ending.returned (.int k a)= .returned (.int k b):=by rw[h]
theorem aaQ {a b:Int} (h:a=b):(a==b)=true:=beq_iff_eq.2 h
theorem lM {a b:Int} (h:a≠b):(a==b)=false:=FI.2 h
theorem nX {a b:Int} (h:a≠b):(a !=b)=true:=bne_iff_ne.2 h
theorem PY {a b:Int} (h:a=b):(a !=b)=false:=by rw[h];simp
abbrev jP:=kD 137 139
abbrev DV:=kD 225 227
section
variable {w:World} {b g:Nat} {M:List Sec}
theorem at_in (h:jP w b g M) (i:Nat) (hi:i<M.length):
  Calls Tryz.prog 128 #[.pointer (some ⟨b,0,none⟩),.int .i64 i] w fun e w'=>e= .returned (.pointer (some ⟨g,i*5,none⟩))/\w=w':=by
 obtain⟨cap,hc,hcap,hm⟩:=h.head;unfold maxLen at hm;go_enter Tryz.func128,Tryz.ntmps128;go_wp2_with fail;go_ret;exact⟨rfl,rfl⟩
theorem at_out (h:jP w b g M) (i:Int) (hi:i<0\/(M.length:Int)<=i):
  Calls Tryz.prog 128 #[.pointer (some ⟨b,0,none⟩),.int .i64 i] w fun e w'=>e= .returned (.pointer none)/\w=w':=by
 obtain⟨cap,hc,hcap,hm⟩:=h.head;unfold maxLen at hm;by_cases h0:i<0
 ·clear hi;go_enter Tryz.func128,Tryz.ntmps128;go_wp2_with fail;go_ret;exact⟨rfl,rfl⟩
 ·have h1:(M.length:Int)<=i:=by omega
  clear hi;go_enter Tryz.func128,Tryz.ntmps128;go_wp2_with fail;go_ret;exact⟨rfl,rfl⟩
theorem len_any (h:jP w b g M):
  Calls Tryz.prog 145 #[.pointer (some ⟨b,0,none⟩)] w fun e w'=>e= .returned (.int .i64 M.length)/\w=w':=by
 obtain⟨cap,hc,hcap,hm⟩:=h.head;unfold maxLen at hm;go_enter Tryz.func145,Tryz.ntmps145;go_wp2_with fail;go_ret;exact⟨rfl,rfl⟩
def Sec.seen (s:Sec):ByteArray:=if s.dirty then s.fresh else s.now
theorem adD (h:jP w b g M) (i:Nat) (s:Sec) (hs:M[i]? =some s):
  Calls Tryz.prog 146 #[.pointer (some ⟨b,0,none⟩),.int .i64 i] w fun e w'=>e= .returned (.tuple #[.string s.seen,.int .i64 0])/\w=w':=by
 have hi:=(List.getElem?_eq_some_iff.1 hs).1;obtain⟨c0,c1,c2,c3,c4⟩:=h.sec hs;have Lc:=zh (at_in h i hi);obtain⟨now,before,fresh,dirty,eX⟩:=s;dsimp only at c0 c1 c2 c3 c4;clear hs;cases dirty
 ·go_enter Tryz.func146,Tryz.ntmps146;go_wp2_with (go_at_call 128;refine Lc.out.mono ?_;rintro e w' ⟨rfl,rfl⟩);go_ret2;exact⟨rfl,rfl⟩
 ·go_enter Tryz.func146,Tryz.ntmps146;go_wp2_with (go_at_call 128;refine Lc.out.mono ?_;rintro e w' ⟨rfl,rfl⟩);go_ret2;exact⟨rfl,rfl⟩
theorem aao (h:jP w b g M) (i:Int) (hi:i<0\/(M.length:Int)<=i):
  Calls Tryz.prog 146 #[.pointer (some ⟨b,0,none⟩),.int .i64 i] w fun e w'=>e= .returned (.tuple #[.string ⟨#[]⟩,.int .i64 1])/\w=w':=by
 have Lc:=zh (at_out h i hi);clear hi;go_enter Tryz.func146,Tryz.ntmps146;go_wp2_with (go_at_call 128;refine Lc.out.mono ?_;rintro e w' ⟨rfl,rfl⟩);go_ret2;exact⟨rfl,rfl⟩
def Sec.write (s:Sec) (t:ByteArray):Sec:=if s.eX then s else { s with fresh:=t,dirty:=true }
theorem aam (h:jP w b g M) (i:Nat) (s:Sec) (t:ByteArray) (hs:M[i]? =some s) (ht:t.size=64):
  Calls Tryz.prog 156 #[.pointer (some ⟨b,0,none⟩),.int .i64 i,.string t] w fun e w'=>e= .returned (.int .i64 0)/\jP w' b g (M.set i (s.write t))/\w.grownBy w' (some g):=by
 have hi:=(List.getElem?_eq_some_iff.1 hs).1;obtain⟨c0,c1,c2,c3,c4⟩:=h.sec hs;have Lc:=zh (at_in h i hi);have f2:=h.frozen (i*5+2);have f3:=h.frozen (i*5+3);have t64:((t.size:Int) !=64)=false:=PY (by omega);have Hs:=zh hs;obtain⟨now,before,fresh,dirty,eX⟩:=s;dsimp only at c0 c1 c2 c3 c4;clear hs ht;cases eX
 ·have h1:=h.store (i:=i) (j:=2) (s':=⟨now,before,t,dirty,false⟩) (v:= .string t) Hs.out (by omega) rfl;have h2:=zh (h1.store (i:=i) (j:=3) (s:=⟨now,before,t,dirty,false⟩) (s':=⟨now,before,t,true,false⟩) (v:= .bool true) (by rw[List.getElem?_set_self hi]) (by omega) rfl);clear h1;go_enter Tryz.func156,Tryz.ntmps156;go_wp2_with (go_at_call 128;refine Lc.out.mono ?_;rintro e w' ⟨rfl,rfl⟩);go_ret;refine⟨rfl,?_,bG (au _ _ _ _) (au _ _ _ _)⟩;have:=h2.out;rw[List.set_set] at this;exact this
 ·go_enter Tryz.func156,Tryz.ntmps156;go_wp2_with (go_at_call 128;refine Lc.out.mono ?_;rintro e w' ⟨rfl,rfl⟩);go_ret;refine⟨rfl,?_,iJ _ _⟩;have:M.set i (Sec.write ⟨now,before,fresh,dirty,true⟩ t)=M:=by
   have e:Sec.write ⟨now,before,fresh,dirty,true⟩ t=⟨now,before,fresh,dirty,true⟩:=rfl;rw[e];have:=List.getElem?_eq_some_iff.1 Hs.out;obtain⟨_,hq⟩:=this;rw[<-hq,List.set_getElem_self]
  rw[this];exact h
theorem X3 (h:jP w b g M) (i:Int) (t:ByteArray) (hi:(i<0\/(M.length:Int)<=i)\/t.size≠64):
  Calls Tryz.prog 156 #[.pointer (some ⟨b,0,none⟩),.int .i64 i,.string t] w fun e w'=>e= .returned (.int .i64 1)/\w=w':=by
 by_cases hin:i<0\/(M.length:Int)<=i
 ·have Lc:=zh (at_out h i hin);clear hi hin;go_enter Tryz.func156,Tryz.ntmps156;go_wp2_with (go_at_call 128;refine Lc.out.mono ?_;rintro e w' ⟨rfl,rfl⟩);go_ret;exact⟨rfl,rfl⟩
 ·obtain⟨k,rfl⟩:=Int.eq_ofNat_of_zero_le (show 0<=i by omega);have Lc:=zh (at_in h k (by omega));have t64:((t.size:Int) !=64)=true:=nX (by omega);clear hi hin;go_enter Tryz.func156,Tryz.ntmps156;go_wp2_with (go_at_call 128;refine Lc.out.mono ?_;rintro e w' ⟨rfl,rfl⟩);go_ret;exact⟨rfl,rfl⟩
end
def Sec.settle (s:Sec) (n:Nat):Sec:=
 if 0<n then { s with now:=s.fresh.extract 0 n++s.now.extract n s.now.size,before:=s.now,fresh:=⟨#[]⟩,dirty:=false }
 else { s with fresh:=⟨#[]⟩,dirty:=false }
section
variable {w:World} {b g:Nat} {M:List Sec}
theorem Ur (h:jP w b g M) (i:Nat) (s:Sec) (n:Nat) (hs:M[i]? =some s) (hn:0<n) (h1:n<=s.fresh.size) (h2:n<=s.now.size) (h3:s.fresh.size<=64) (h4:s.now.size<=64):
  Calls Tryz.prog 98 #[.pointer (some ⟨g,i*5,none⟩),.int .i64 n] w fun e w'=>e= .returned (.tuple #[])/\jP w' b g (M.set i (s.settle n))/\w.grownBy w' (some g):=by
 have hi:=(List.getElem?_eq_some_iff.1 hs).1;obtain⟨c0,c1,c2,c3,c4⟩:=h.sec hs;have f0:=h.frozen (i*5);have f1:=h.frozen (i*5+1);have f2:=h.frozen (i*5+2);have f3:=h.frozen (i*5+3);have Hs:=zh hs;obtain⟨now,before,fresh,dirty,eX⟩:=s;dsimp only at c0 c1 c2 c3 c4 h1 h2 h3 h4;clear hs;go_enter Tryz.func98,Tryz.ntmps98;go_wp2_with fail
 go_region
 go_wp2_with fail;go_end0;have e:Sec.settle ⟨now,before,fresh,dirty,eX⟩ n=⟨fresh.extract 0 n++now.extract n now.size,now,⟨#[]⟩,false,eX⟩:=by unfold Sec.settle;rw[if_pos hn]
 rw[e];have g1:=h.store (i:=i) (j:=0) (s':=⟨fresh.extract 0 n++now.extract n now.size,before,fresh,dirty,eX⟩) (v:= .string (fresh.extract 0 n++now.extract n now.size)) Hs.out (by omega) rfl;have g2:=g1.store (i:=i) (j:=1) (s:=⟨fresh.extract 0 n++now.extract n now.size,before,fresh,dirty,eX⟩) (s':=⟨fresh.extract 0 n++now.extract n now.size,now,fresh,dirty,eX⟩) (v:= .string now) (List.getElem?_set_self hi) (by omega) rfl;have g3:=g2.store (i:=i) (j:=2) (s:=⟨fresh.extract 0 n++now.extract n now.size,now,fresh,dirty,eX⟩) (s':=⟨fresh.extract 0 n++now.extract n now.size,now,⟨#[]⟩,dirty,eX⟩) (v:= .string ⟨#[]⟩) (List.getElem?_set_self (by simpa using hi)) (by omega) rfl;have g4:=g3.store (i:=i) (j:=3) (s:=⟨fresh.extract 0 n++now.extract n now.size,now,⟨#[]⟩,dirty,eX⟩) (s':=⟨fresh.extract 0 n++now.extract n now.size,now,⟨#[]⟩,false,eX⟩) (v:= .bool false) (List.getElem?_set_self (by simpa using hi)) (by omega) rfl;rw[List.set_set,List.set_set,List.set_set] at g4;exact⟨rfl,g4.grown (grown_drewN _ 1 none) (by simp) (by simp),bG (bG (bG (bG (au _ _ _ _) (au _ _ _ _)) (au _ _ _ _)) (au _ _ _ _)) (grown_drewN _ 1 _)⟩
theorem Qk (h:jP w b g M) (i:Nat) (s:Sec) (hs:M[i]? =some s):
  Calls Tryz.prog 98 #[.pointer (some ⟨g,i*5,none⟩),.int .i64 0] w fun e w'=>e= .returned (.tuple #[])/\jP w' b g (M.set i (s.settle 0))/\w.grownBy w' (some g):=by
 have hi:=(List.getElem?_eq_some_iff.1 hs).1;obtain⟨c0,c1,c2,c3,c4⟩:=h.sec hs;have f2:=h.frozen (i*5+2);have f3:=h.frozen (i*5+3);have Hs:=zh hs;obtain⟨now,before,fresh,dirty,eX⟩:=s;dsimp only at c0 c1 c2 c3 c4;clear hs;go_enter Tryz.func98,Tryz.ntmps98;go_wp2_with fail;go_end0;have e:Sec.settle ⟨now,before,fresh,dirty,eX⟩ 0=⟨now,before,⟨#[]⟩,false,eX⟩:=rfl;rw[e];have g3:=h.store (i:=i) (j:=2) (s':=⟨now,before,⟨#[]⟩,dirty,eX⟩) (v:= .string ⟨#[]⟩) Hs.out (by omega) rfl;have g4:=g3.store (i:=i) (j:=3) (s:=⟨now,before,⟨#[]⟩,dirty,eX⟩) (s':=⟨now,before,⟨#[]⟩,false,eX⟩) (v:= .bool false) (List.getElem?_set_self hi) (by omega) rfl;rw[List.set_set] at g4;exact⟨rfl,g4,bG (au _ _ _ _) (au _ _ _ _)⟩
end
end Go.Proofs.YtpghocekofdpbaaGreatDoor
