import Derived.Test.YtpghocekofdpbaaGreatDoorQr28
set_option maxRecDepth 100000
set_option maxHeartbeats 3200000
namespace Go.Proofs.YtpghocekofdpbaaGreatDoor
open Go.RowKit Go.Shelf
section
attribute [local go_sem] Oper.semAt_some Tt
theorem iq (w:World) (s:ByteArray) (i:Nat) (x:UInt8) (h:(bl s)[i]? =some x):(Instr.index 9 (.string s) (.int .i64 (i:Int))).run Tryz.prog w= .ok (.int .u8 (x.toNat:Int)) w:=by
 have hi:i<s.size:=by
  rw[<-aG];exact(List.getElem?_eq_some_iff.1 h).1
 rw[run_index_string w 9 s .i64 i Tryz.underlying9,dif_pos ⟨by omega,by omega⟩];have e:s[(i:Int).toNat]'(by omega)=x:=by
  have h2:=(List.getElem?_eq_some_iff.1 h).2;rw[<-h2];rfl
 rw[e]
theorem Z4 (a:UInt32):(a.toNat:Int)*65536 % 4294967296=((gq a 16).toNat:Int):=xq a 16 (by decide)
theorem Z5 (a:UInt32):(a.toNat:Int)*16777216 % 4294967296=((gq a 24).toNat:Int):=xq a 24 (by decide)
theorem get_any (w:World) (s:ByteArray) (h:4<=s.size):
  Calls Tryz.prog 172 #[.string s] w fun e w'=>e= .returned (ah (zH (bl s)))/\w'=w.drew:=by
 have hl:4<=(bl s).length:=by rw[aG];exact h
 obtain⟨b0,e0⟩:∃ x,(bl s)[0]? =some x:=⟨_,jB (by omega)⟩;obtain⟨b1,e1⟩:∃ x,(bl s)[1]? =some x:=⟨_,jB (by omega)⟩;obtain⟨b2,e2⟩:∃ x,(bl s)[2]? =some x:=⟨_,jB (by omega)⟩;obtain⟨b3,e3⟩:∃ x,(bl s)[3]? =some x:=⟨_,jB (by omega)⟩;have i0:∀ wx,(Instr.index 9 (.string s) (.int .i64 0)).run Tryz.prog wx= .ok (.int .u8 (b0.toNat:Int)) wx:=fun wx=>iq wx s 0 b0 e0
 have i1:∀ wx,(Instr.index 9 (.string s) (.int .i64 1)).run Tryz.prog wx= .ok (.int .u8 (b1.toNat:Int)) wx:=fun wx=>iq wx s 1 b1 e1
 have i2:∀ wx,(Instr.index 9 (.string s) (.int .i64 2)).run Tryz.prog wx= .ok (.int .u8 (b2.toNat:Int)) wx:=fun wx=>iq wx s 2 b2 e2
 have i3:∀ wx,(Instr.index 9 (.string s) (.int .i64 3)).run Tryz.prog wx= .ok (.int .u8 (b3.toNat:Int)) wx:=fun wx=>iq wx s 3 b3 e3
 have hW:Hid (zH (bl s)=Af (Af (Af (w8 b0) (gq (w8 b1) 8)) (gq (w8 b2) 16)) (gq (w8 b3) 24)):=by
  unfold Hid zH;simp only[En,e0,e1,e2,e3,Option.getD_some]
 have c0:=gZ b0;have c1:=gZ b1;have c2:=gZ b2;have c3:=gZ b3;have d0:=gy b0;have d1:=gy b1;have d2:=gy b2;have d3:=gy b3;have s1:=af4 (w8 b1);have s2:=Z4 (w8 b2);have s3:=Z5 (w8 b3);clear hl e0 e1 e2 e3;go_enter Tryz.func172,Tryz.ntmps172;go_wp2_with fail
 go_region
 go_wp2_with fail;go_ret;exact⟨by rw[hW.out];rfl,rfl⟩
theorem amo (x:UInt32):Value.int IntKind.u8 ((x.toNat:Int) % 256)=aK (UInt8.ofNat x.toNat):=by
 unfold aK;rw[byte_of]
theorem af5 (x:UInt32) (n:Nat):Value.int IntKind.u8 ((x.toNat:Int)/(n:Int) % 256)=aK (UInt8.ofNat (x.toNat/n)):=by
 unfold aK;rw[<-byte_of,Int.natCast_ediv]
theorem O1 (x:UInt32): #[Value.int IntKind.u8 ((x.toNat:Int) % 256),Value.int IntKind.u8 ((x.toNat:Int)/256 % 256),Value.int IntKind.u8 ((x.toNat:Int)/65536 % 256),Value.int IntKind.u8 ((x.toNat:Int)/16777216 % 256)]=((le4 x).map aK).toArray:=by
 have h0:=amo x;have h1:=af5 x 256;have h2:=af5 x 65536;have h3:=af5 x 16777216;show #[Value.int IntKind.u8 ((x.toNat:Int) % 256),Value.int IntKind.u8 ((x.toNat:Int)/((256:Nat):Int) % 256),Value.int IntKind.u8 ((x.toNat:Int)/((65536:Nat):Int) % 256),Value.int IntKind.u8 ((x.toNat:Int)/((16777216:Nat):Int) % 256)]=_
 rw[h0,h1,h2,h3];rfl
theorem put_any (w:World) (base:Nat) (v:Value) (l:List UInt8) (x:UInt32) (hR:dD w base v l) (hb:base<=w.heap.size) (hl:l.length<1000000):
  Calls Tryz.prog 174 #[v,ah x] w fun e w'=>∃ v',e= .returned v'/\Pushed w w' base v v' (l++le4 x):=by
 have hRH:=zh hR;have hvs:=zh (O1 x);have hlH:Hid (l.length+4<99999999999):=by unfold Hid;omega
 have hbH:=zh hb;clear hR hl hb;go_enter Tryz.func174,Tryz.ntmps174;go_wp2_with (at_builtin;refine ZY rfl _ _ rfl base v l rfl hRH.out 4 4 (le4 x) hvs.out rfl rfl hlH.out hbH.out ?_;intro v' w' hP);go_ret;exact⟨_,rfl,hP⟩
end
section
attribute [local go_sem] Oper.semAt_some zQ mW jC
theorem bg {w:World} {g:Nat} {t:TypeId} {S:List UInt32} (h:ak w g t (S.map ah).toArray) {a:Nat} (ha:a<S.length):w.cell? ⟨g,a,none⟩=some (ah (S.getD a 0)):=by
 rw[h.cell,Ti,sD,En,jB ha];rfl
theorem fV {w:World} {g:Nat} {t:TypeId} {S:List UInt32} (h:ak w g t (S.map ah).toArray) (a:Nat) (v:UInt32):ak (w.setCell ⟨g,a,none⟩ (ah v)) g t ((S.set a v).map ah).toArray:=by
 have h1:=h.aB a (ah v);rw[List.setIfInBounds_toArray,<-List.map_set] at h1;exact h1
theorem bY (w:World) (row:Option Nat):w.grownBy w.drew row:=⟨rfl,rfl,rfl,aF _,fun _ _ _=>rfl⟩
theorem Eo (W0:World) (g a b c d:Nat) (t:TypeId) (S0:List UInt32) (hl:S0.length=16) (ha:a<16) (hb:b<16) (hc:c<16) (hd:d<16) (hB:ak W0 g t (S0.map ah).toArray):
  Calls Tryz.prog 188 #[.pointer (some ⟨g,a,none⟩),.pointer (some ⟨g,b,none⟩),.pointer (some ⟨g,c,none⟩),.pointer (some ⟨g,d,none⟩)] W0 fun e w'=>e= .returned (.tuple #[])/\ak w' g t ((JB S0 a b c d).map ah).toArray/\W0.grownBy w' (some g):=by
 have HB0:=zh hB;have HG0:Hid (W0.grownBy W0 (some g)):=⟨rfl,rfl,rfl,aF _,fun _ _ _=>rfl⟩;have hl0:=zh hl;have h1:=zh ha;have h2:=zh hb;have h3:=zh hc;have h4:=zh hd;clear hB hl ha hb hc hd
 rename Hid (a<16)=>ha
 rename Hid (b<16)=>hb
 rename Hid (c<16)=>hc
 rename Hid (d<16)=>hd
 go_enter Tryz.func188,Tryz.ntmps188;go_wp2_with fail;obtain⟨x0,hx0⟩:∃ x,S0.getD a 0=x:=⟨_,rfl⟩;obtain⟨y0,hy0⟩:∃ y,S0.getD b 0=y:=⟨_,rfl⟩;have p0:W0.cell? ⟨g,a,none⟩=some (ah x0):=by rw[<-hx0];exact bg HB0.out (by rw[hl0.out];exact ha.out)
 have q0:W0.cell? ⟨g,b,none⟩=some (ah y0):=by rw[<-hy0];exact bg HB0.out (by rw[hl0.out];exact hb.out)
 have f0:=HB0.out.frozen a;refine bJ (S:=(fun w'=>w'.cell? ⟨g,a,none⟩=some (ah x0)/\w'.cell? ⟨g,b,none⟩=some (ah y0))) 8 (by kernel_rfl) ⟨p0,q0⟩ (fun zs=>?_);refine' tl 0 rfl zs ?_;refine' tl 1 rfl zs ?_;refine' tl 2 rfl zs ?_;refine' tl 3 rfl zs ?_;refine' tl 4 rfl zs ?_;refine' tl 5 rfl zs ?_;refine' tl 6 rfl zs ?_;refine' tl 7 rfl zs ?_;refine aN (rs:= [8]) (by kernel_rfl) (by simp) ?_;refine aI.last rfl (fun K hK=>?_);go_simp;refine hK.out _ _ ?_;clear hK K;try simp only[sA,gA]
 refine bZ (by kernel_rfl) ?_ _;clear zs;go_wp2_with fail;refine aX (P:=fun W=>Code.wp _ _ _ _ W) (fun W1 hW1=>?_);have hB1:ak W1 g t ((S0.set a (aT x0 y0)).map ah).toArray:=by rw[<-hW1];exact fV HB0.out a (aT x0 y0)
 have hG1:W0.grownBy W1 (some g):=by rw[<-hW1];exact aZ HG0.out (aZ (bC W0 g a (ah (aT x0 y0))) (bY _ _))
 clear hW1;have hn0:S0.set a (aT x0 y0)=jl S0 a b:=by rw[<-hx0,<-hy0];rfl
 rw[hn0] at hB1;have hl1:Hid ((jl S0 a b).length=16):=by unfold Hid;rw[iY];exact hl0.out
 obtain⟨S1,hS1⟩:∃ S,jl S0 a b=S:=⟨_,rfl⟩;rw[hS1] at hB1 hl1;have HB1:=zh hB1;have MZ:=zh hG1;have FU:=zh hS1;clear p0 q0 f0 hx0 hy0 hB1 hG1 hS1 hn0 HB0 HG0 hl0;obtain⟨x1,hx1⟩:∃ x,S1.getD d 0=x:=⟨_,rfl⟩;obtain⟨y1,hy1⟩:∃ y,S1.getD a 0=y:=⟨_,rfl⟩;have p1:W1.cell? ⟨g,d,none⟩=some (ah x1):=by rw[<-hx1];exact bg HB1.out (by rw[hl1.out];exact hd.out)
 have q1:W1.cell? ⟨g,a,none⟩=some (ah y1):=by rw[<-hy1];exact bg HB1.out (by rw[hl1.out];exact ha.out)
 have f1:=HB1.out.frozen d;refine bJ (S:=(fun w'=>w'.cell? ⟨g,d,none⟩=some (ah x1)/\w'.cell? ⟨g,a,none⟩=some (ah y1))) 10 (by kernel_rfl) ⟨p1,q1⟩ (fun zs=>?_);refine' tl 0 rfl zs ?_;refine' tl 1 rfl zs ?_;refine' tl 2 rfl zs ?_;refine' tl 3 rfl zs ?_;refine' tl 4 rfl zs ?_;refine' tl 5 rfl zs ?_;refine' tl 6 rfl zs ?_;refine' tl 7 rfl zs ?_;refine aN (rs:= [8]) (by kernel_rfl) (by simp) ?_;refine aI.cons rfl (fun K hK=>?_) aI.nil;go_simp;go_at_call 171;refine(nO _ (dI x1 y1) 16 16 (by decide) (by decide) (by decide)).mono ?_;rintro e w9 ⟨rfl,rfl⟩;go_wp2_with fail;refine hK.out _ _ (⟨p1,q1⟩) (fun zs=>?_);clear hK K;try simp only[sA,gA]
 refine' tl 9 rfl zs ?_;refine aN (rs:= [10]) (by kernel_rfl) (by simp) ?_;refine aI.last rfl (fun K hK=>?_);go_simp;refine hK.out _ _ ?_;clear hK K;try simp only[sA,gA]
 refine bZ (by kernel_rfl) ?_ _;clear zs;go_wp2_with fail;refine aX (P:=fun W=>Code.wp _ _ _ _ W) (fun W2 hW2=>?_);have hB2:ak W2 g t ((S1.set d (rotl (dI x1 y1) 16)).map ah).toArray:=by rw[<-hW2];exact fV HB1.out d (rotl (dI x1 y1) 16)
 have hG2:W0.grownBy W2 (some g):=by rw[<-hW2];exact aZ MZ.out (aZ (bC W1 g d (ah (rotl (dI x1 y1) 16))) (bY _ _))
 clear hW2;have hn1:S1.set d (rotl (dI x1 y1) 16)=jm S1 d a 16:=by rw[<-hx1,<-hy1];rfl
 rw[hn1] at hB2;have hl2:Hid ((jm S1 d a 16).length=16):=by unfold Hid;rw[iZ];exact hl1.out
 obtain⟨S2,hS2⟩:∃ S,jm S1 d a 16=S:=⟨_,rfl⟩;rw[hS2] at hB2 hl2;have HB2:=zh hB2;have HG2:=zh hG2;have HS2:=zh hS2;clear p1 q1 f1 hx1 hy1 hB2 hG2 hS2 hn1 HB1 MZ hl1;obtain⟨x2,hx2⟩:∃ x,S2.getD c 0=x:=⟨_,rfl⟩;obtain⟨y2,hy2⟩:∃ y,S2.getD d 0=y:=⟨_,rfl⟩;have p2:W2.cell? ⟨g,c,none⟩=some (ah x2):=by rw[<-hx2];exact bg HB2.out (by rw[hl2.out];exact hc.out)
 have q2:W2.cell? ⟨g,d,none⟩=some (ah y2):=by rw[<-hy2];exact bg HB2.out (by rw[hl2.out];exact hd.out)
 have f2:=HB2.out.frozen c;refine bJ (S:=(fun w'=>w'.cell? ⟨g,c,none⟩=some (ah x2)/\w'.cell? ⟨g,d,none⟩=some (ah y2))) 8 (by kernel_rfl) ⟨p2,q2⟩ (fun zs=>?_);refine' tl 0 rfl zs ?_;refine' tl 1 rfl zs ?_;refine' tl 2 rfl zs ?_;refine' tl 3 rfl zs ?_;refine' tl 4 rfl zs ?_;refine' tl 5 rfl zs ?_;refine' tl 6 rfl zs ?_;refine' tl 7 rfl zs ?_;refine aN (rs:= [8]) (by kernel_rfl) (by simp) ?_;refine aI.last rfl (fun K hK=>?_);go_simp;refine hK.out _ _ ?_;clear hK K;try simp only[sA,gA]
 refine bZ (by kernel_rfl) ?_ _;clear zs;go_wp2_with fail;refine aX (P:=fun W=>Code.wp _ _ _ _ W) (fun W3 hW3=>?_);have hB3:ak W3 g t ((S2.set c (aT x2 y2)).map ah).toArray:=by rw[<-hW3];exact fV HB2.out c (aT x2 y2)
 have hG3:W0.grownBy W3 (some g):=by rw[<-hW3];exact aZ HG2.out (aZ (bC W2 g c (ah (aT x2 y2))) (bY _ _))
 clear hW3;have hn2:S2.set c (aT x2 y2)=jl S2 c d:=by rw[<-hx2,<-hy2];rfl
 rw[hn2] at hB3;have hl3:Hid ((jl S2 c d).length=16):=by unfold Hid;rw[iY];exact hl2.out
 obtain⟨S3,hS3⟩:∃ S,jl S2 c d=S:=⟨_,rfl⟩;rw[hS3] at hB3 hl3;have HB3:=zh hB3;have XM:=zh hG3;have Du:=zh hS3;clear p2 q2 f2 hx2 hy2 hB3 hG3 hS3 hn2 HB2 HG2 hl2;obtain⟨x3,hx3⟩:∃ x,S3.getD b 0=x:=⟨_,rfl⟩;obtain⟨y3,hy3⟩:∃ y,S3.getD c 0=y:=⟨_,rfl⟩;have p3:W3.cell? ⟨g,b,none⟩=some (ah x3):=by rw[<-hx3];exact bg HB3.out (by rw[hl3.out];exact hb.out)
 have q3:W3.cell? ⟨g,c,none⟩=some (ah y3):=by rw[<-hy3];exact bg HB3.out (by rw[hl3.out];exact hc.out)
 have f3:=HB3.out.frozen b;refine bJ (S:=(fun w'=>w'.cell? ⟨g,b,none⟩=some (ah x3)/\w'.cell? ⟨g,c,none⟩=some (ah y3))) 10 (by kernel_rfl) ⟨p3,q3⟩ (fun zs=>?_);refine' tl 0 rfl zs ?_;refine' tl 1 rfl zs ?_;refine' tl 2 rfl zs ?_;refine' tl 3 rfl zs ?_;refine' tl 4 rfl zs ?_;refine' tl 5 rfl zs ?_;refine' tl 6 rfl zs ?_;refine' tl 7 rfl zs ?_;refine aN (rs:= [8]) (by kernel_rfl) (by simp) ?_;refine aI.cons rfl (fun K hK=>?_) aI.nil;go_simp;go_at_call 171;refine(nO _ (dI x3 y3) 12 12 (by decide) (by decide) (by decide)).mono ?_;rintro e w9 ⟨rfl,rfl⟩;go_wp2_with fail;refine hK.out _ _ (⟨p3,q3⟩) (fun zs=>?_);clear hK K;try simp only[sA,gA]
 refine' tl 9 rfl zs ?_;refine aN (rs:= [10]) (by kernel_rfl) (by simp) ?_;refine aI.last rfl (fun K hK=>?_);go_simp;refine hK.out _ _ ?_;clear hK K;try simp only[sA,gA]
 refine bZ (by kernel_rfl) ?_ _;clear zs;go_wp2_with fail;refine aX (P:=fun W=>Code.wp _ _ _ _ W) (fun W4 Na=>?_);have hB4:ak W4 g t ((S3.set b (rotl (dI x3 y3) 12)).map ah).toArray:=by rw[<-Na];exact fV HB3.out b (rotl (dI x3 y3) 12)
 have hG4:W0.grownBy W4 (some g):=by rw[<-Na];exact aZ XM.out (aZ (bC W3 g b (ah (rotl (dI x3 y3) 12))) (bY _ _))
 clear Na;have hn3:S3.set b (rotl (dI x3 y3) 12)=jm S3 b c 12:=by rw[<-hx3,<-hy3];rfl
 rw[hn3] at hB4;have hl4:Hid ((jm S3 b c 12).length=16):=by unfold Hid;rw[iZ];exact hl3.out
 obtain⟨S4,hS4⟩:∃ S,jm S3 b c 12=S:=⟨_,rfl⟩;rw[hS4] at hB4 hl4;have HB4:=zh hB4;have HG4:=zh hG4;have Nb:=zh hS4;clear p3 q3 f3 hx3 hy3 hB4 hG4 hS4 hn3 HB3 XM hl3;obtain⟨x4,hx4⟩:∃ x,S4.getD a 0=x:=⟨_,rfl⟩;obtain⟨y4,hy4⟩:∃ y,S4.getD b 0=y:=⟨_,rfl⟩;have p4:W4.cell? ⟨g,a,none⟩=some (ah x4):=by rw[<-hx4];exact bg HB4.out (by rw[hl4.out];exact ha.out)
 have q4:W4.cell? ⟨g,b,none⟩=some (ah y4):=by rw[<-hy4];exact bg HB4.out (by rw[hl4.out];exact hb.out)
 have f4:=HB4.out.frozen a;refine bJ (S:=(fun w'=>w'.cell? ⟨g,a,none⟩=some (ah x4)/\w'.cell? ⟨g,b,none⟩=some (ah y4))) 8 (by kernel_rfl) ⟨p4,q4⟩ (fun zs=>?_);refine' tl 0 rfl zs ?_;refine' tl 1 rfl zs ?_;refine' tl 2 rfl zs ?_;refine' tl 3 rfl zs ?_;refine' tl 4 rfl zs ?_;refine' tl 5 rfl zs ?_;refine' tl 6 rfl zs ?_;refine' tl 7 rfl zs ?_;refine aN (rs:= [8]) (by kernel_rfl) (by simp) ?_;refine aI.last rfl (fun K hK=>?_);go_simp;refine hK.out _ _ ?_;clear hK K;try simp only[sA,gA]
 refine bZ (by kernel_rfl) ?_ _;clear zs;go_wp2_with fail;refine aX (P:=fun W=>Code.wp _ _ _ _ W) (fun W5 Dv=>?_);have oZ:ak W5 g t ((S4.set a (aT x4 y4)).map ah).toArray:=by rw[<-Dv];exact fV HB4.out a (aT x4 y4)
 have hG5:W0.grownBy W5 (some g):=by rw[<-Dv];exact aZ HG4.out (aZ (bC W4 g a (ah (aT x4 y4))) (bY _ _))
 clear Dv;have hn4:S4.set a (aT x4 y4)=jl S4 a b:=by rw[<-hx4,<-hy4];rfl
 rw[hn4] at oZ;have hl5:Hid ((jl S4 a b).length=16):=by unfold Hid;rw[iY];exact hl4.out
 obtain⟨S5,hS5⟩:∃ S,jl S4 a b=S:=⟨_,rfl⟩;rw[hS5] at oZ hl5;have uh:=zh oZ;have HG5:=zh hG5;have HS5:=zh hS5;clear p4 q4 f4 hx4 hy4 oZ hG5 hS5 hn4 HB4 HG4 hl4;obtain⟨x5,hx5⟩:∃ x,S5.getD d 0=x:=⟨_,rfl⟩;obtain⟨y5,hy5⟩:∃ y,S5.getD a 0=y:=⟨_,rfl⟩;have p5:W5.cell? ⟨g,d,none⟩=some (ah x5):=by rw[<-hx5];exact bg uh.out (by rw[hl5.out];exact hd.out)
 have q5:W5.cell? ⟨g,a,none⟩=some (ah y5):=by rw[<-hy5];exact bg uh.out (by rw[hl5.out];exact ha.out)
 have f5:=uh.out.frozen d;refine bJ (S:=(fun w'=>w'.cell? ⟨g,d,none⟩=some (ah x5)/\w'.cell? ⟨g,a,none⟩=some (ah y5))) 10 (by kernel_rfl) ⟨p5,q5⟩ (fun zs=>?_);refine' tl 0 rfl zs ?_;refine' tl 1 rfl zs ?_;refine' tl 2 rfl zs ?_;refine' tl 3 rfl zs ?_;refine' tl 4 rfl zs ?_;refine' tl 5 rfl zs ?_;refine' tl 6 rfl zs ?_;refine' tl 7 rfl zs ?_;refine aN (rs:= [8]) (by kernel_rfl) (by simp) ?_;refine aI.cons rfl (fun K hK=>?_) aI.nil;go_simp;go_at_call 171;refine(nO _ (dI x5 y5) 8 8 (by decide) (by decide) (by decide)).mono ?_;rintro e w9 ⟨rfl,rfl⟩;go_wp2_with fail;refine hK.out _ _ (⟨p5,q5⟩) (fun zs=>?_);clear hK K;try simp only[sA,gA]
 refine' tl 9 rfl zs ?_;refine aN (rs:= [10]) (by kernel_rfl) (by simp) ?_;refine aI.last rfl (fun K hK=>?_);go_simp;refine hK.out _ _ ?_;clear hK K;try simp only[sA,gA]
 refine bZ (by kernel_rfl) ?_ _;clear zs;go_wp2_with fail;refine aX (P:=fun W=>Code.wp _ _ _ _ W) (fun W6 hW6=>?_);have pJ:ak W6 g t ((S5.set d (rotl (dI x5 y5) 8)).map ah).toArray:=by rw[<-hW6];exact fV uh.out d (rotl (dI x5 y5) 8)
 have hG6:W0.grownBy W6 (some g):=by rw[<-hW6];exact aZ HG5.out (aZ (bC W5 g d (ah (rotl (dI x5 y5) 8))) (bY _ _))
 clear hW6;have Z7:S5.set d (rotl (dI x5 y5) 8)=jm S5 d a 8:=by rw[<-hx5,<-hy5];rfl
 rw[Z7] at pJ;have OT:Hid ((jm S5 d a 8).length=16):=by unfold Hid;rw[iZ];exact hl5.out
 obtain⟨S6,hS6⟩:∃ S,jm S5 d a 8=S:=⟨_,rfl⟩;rw[hS6] at pJ OT;have oq:=zh pJ;have HG6:=zh hG6;have HS6:=zh hS6;clear p5 q5 f5 hx5 hy5 pJ hG6 hS6 Z7 uh HG5 hl5;obtain⟨x6,hx6⟩:∃ x,S6.getD c 0=x:=⟨_,rfl⟩;obtain⟨y6,hy6⟩:∃ y,S6.getD d 0=y:=⟨_,rfl⟩;have p6:W6.cell? ⟨g,c,none⟩=some (ah x6):=by rw[<-hx6];exact bg oq.out (by rw[OT.out];exact hc.out)
 have q6:W6.cell? ⟨g,d,none⟩=some (ah y6):=by rw[<-hy6];exact bg oq.out (by rw[OT.out];exact hd.out)
 have f6:=oq.out.frozen c;refine bJ (S:=(fun w'=>w'.cell? ⟨g,c,none⟩=some (ah x6)/\w'.cell? ⟨g,d,none⟩=some (ah y6))) 8 (by kernel_rfl) ⟨p6,q6⟩ (fun zs=>?_);refine' tl 0 rfl zs ?_;refine' tl 1 rfl zs ?_;refine' tl 2 rfl zs ?_;refine' tl 3 rfl zs ?_;refine' tl 4 rfl zs ?_;refine' tl 5 rfl zs ?_;refine' tl 6 rfl zs ?_;refine' tl 7 rfl zs ?_;refine aN (rs:= [8]) (by kernel_rfl) (by simp) ?_;refine aI.last rfl (fun K hK=>?_);go_simp;refine hK.out _ _ ?_;clear hK K;try simp only[sA,gA]
 refine bZ (by kernel_rfl) ?_ _;clear zs;go_wp2_with fail;refine aX (P:=fun W=>Code.wp _ _ _ _ W) (fun W7 Z8=>?_);have qQ:ak W7 g t ((S6.set c (aT x6 y6)).map ah).toArray:=by rw[<-Z8];exact fV oq.out c (aT x6 y6)
 have hG7:W0.grownBy W7 (some g):=by rw[<-Z8];exact aZ HG6.out (aZ (bC W6 g c (ah (aT x6 y6))) (bY _ _))
 clear Z8;have hn6:S6.set c (aT x6 y6)=jl S6 c d:=by rw[<-hx6,<-hy6];rfl
 rw[hn6] at qQ;have Z9:Hid ((jl S6 c d).length=16):=by unfold Hid;rw[iY];exact OT.out
 obtain⟨S7,hS7⟩:∃ S,jl S6 c d=S:=⟨_,rfl⟩;rw[hS7] at qQ Z9;have wP:=zh qQ;have HG7:=zh hG7;have HS7:=zh hS7;clear p6 q6 f6 hx6 hy6 qQ hG7 hS7 hn6 oq HG6 OT;obtain⟨x7,hx7⟩:∃ x,S7.getD b 0=x:=⟨_,rfl⟩;obtain⟨y7,hy7⟩:∃ y,S7.getD c 0=y:=⟨_,rfl⟩;have p7:W7.cell? ⟨g,b,none⟩=some (ah x7):=by rw[<-hx7];exact bg wP.out (by rw[Z9.out];exact hb.out)
 have q7:W7.cell? ⟨g,c,none⟩=some (ah y7):=by rw[<-hy7];exact bg wP.out (by rw[Z9.out];exact hc.out)
 have f7:=wP.out.frozen b;refine bJ (S:=(fun w'=>w'.cell? ⟨g,b,none⟩=some (ah x7)/\w'.cell? ⟨g,c,none⟩=some (ah y7))) 10 (by kernel_rfl) ⟨p7,q7⟩ (fun zs=>?_);refine' tl 0 rfl zs ?_;refine' tl 1 rfl zs ?_;refine' tl 2 rfl zs ?_;refine' tl 3 rfl zs ?_;refine' tl 4 rfl zs ?_;refine' tl 5 rfl zs ?_;refine' tl 6 rfl zs ?_;refine' tl 7 rfl zs ?_;refine aN (rs:= [8]) (by kernel_rfl) (by simp) ?_;refine aI.cons rfl (fun K hK=>?_) aI.nil;go_simp;go_at_call 171;refine(nO _ (dI x7 y7) 7 7 (by decide) (by decide) (by decide)).mono ?_;rintro e w9 ⟨rfl,rfl⟩;go_wp2_with fail;refine hK.out _ _ (⟨p7,q7⟩) (fun zs=>?_);clear hK K;try simp only[sA,gA]
 refine' tl 9 rfl zs ?_;refine aN (rs:= [10]) (by kernel_rfl) (by simp) ?_;refine aI.last rfl (fun K hK=>?_);go_simp;refine hK.out _ _ ?_;clear hK K;try simp only[sA,gA]
 refine bZ (by kernel_rfl) ?_ _;clear zs;go_wp2_with fail;refine aX (P:=fun W=>bodyPost _ _ _ _ _ W) (fun W8 hW8=>?_);have Dw:ak W8 g t ((S7.set b (rotl (dI x7 y7) 7)).map ah).toArray:=by rw[<-hW8];exact fV wP.out b (rotl (dI x7 y7) 7)
 have hG8:W0.grownBy W8 (some g):=by rw[<-hW8];exact aZ HG7.out (aZ (bC W7 g b (ah (rotl (dI x7 y7) 7))) (bY _ _))
 clear hW8;have hn7:S7.set b (rotl (dI x7 y7) 7)=jm S7 b c 7:=by rw[<-hx7,<-hy7];rfl
 rw[hn7] at Dw;have hl8:Hid ((jm S7 b c 7).length=16):=by unfold Hid;rw[iZ];exact Z9.out
 obtain⟨S8,hS8⟩:∃ S,jm S7 b c 7=S:=⟨_,rfl⟩;rw[hS8] at Dw hl8;have XO:=zh Dw;have HG8:=zh hG8;have OU:=zh hS8;clear p7 q7 f7 hx7 hy7 Dw hG8 hS8 hn7 wP HG7 Z9;go_end0;refine⟨rfl,?_,HG8.out⟩;have hq:JB S0 a b c d=S8:=by
  unfold JB;rw[FU.out,HS2.out,Du.out,Nb.out,HS5.out,HS6.out,HS7.out,OU.out]
 rw[hq];exact XO.out
end
section
attribute [local go_sem] Oper.semAt_some
theorem bP (w:World) (g j:Nat) (hj:j<16) (z:Int) (hz:z=(j:Int)):(Instr.indexAt 211 (.pointer (some ⟨g,0,none⟩)) (.int .i64 z)).run Tryz.prog w= .ok (.pointer (some ⟨g,j,none⟩)) w:=by
 subst hz;have d1:(0:Int)<=(j:Int):=by omega
 have d2:(j:Int)<16:=by omega
 simp[go_sem,d1,d2]
theorem i64_is (n:Nat) (h:n<9223372036854775808):IntKind.i64.wrap (n:Int)=(n:Int):=by rw[IntKind.wrap_i64];omega
theorem qg (a b:Nat) (h:a+b<9223372036854775808):IntKind.i64.wrap ((a:Int)+(b:Int))=(a:Int)+(b:Int):=i64_is (a+b) h
theorem jH:(Tryz.prog.info? 211).map (·.size)=some 16:=by kernel_rfl
theorem lX:∃ a,Tryz.prog.info? 211=some a/\a.size=16:=Option.map_eq_some_iff.1 jH
theorem jZ (l:List UInt32):∀ v ∈ l.map ah,v.oneCell'=true:=by
 intro v hv;obtain⟨x,_,rfl⟩:=List.mem_map.1 hv;rfl
def Kt:Array Value:=Array.replicate 16 (.int .u32 0)
structure kN (w wr:World) (S:List UInt32):Prop where
 st:ak wr w.heap.size 211 (S.map ah).toArray
 res:∃ cs,ak wr (w.heap.size+1) 211 cs/\cs.size=16
 bel:Below w.heap.size w wr
theorem kN.next {w wr w':World} {S S':List UInt32} (h:kN w wr S) (hB:ak w' w.heap.size 211 (S'.map ah).toArray) (hG:wr.grownBy w' (some w.heap.size)):kN w w' S':=by
 obtain⟨cs,h1,h2⟩:=h.res;exact⟨hB,⟨cs,h1.grown hG (by simp),h2⟩,h.bel.grown hG h.bel.size (fun k e=>by cases e;exact aF _)⟩
theorem Tv (w:World) (S:List UInt32) (hS:S.length=16):
  Calls Tryz.prog 173 #[.agg (S.map ah).toArray] w fun e w'=>e= .returned (.agg ((jY S 10).map ah).toArray)/\Below w.heap.size w w':=by
 go_enter Tryz.func173,Tryz.ntmps173;go_upto_region 1 with fail;refine aX (P:=fun W=>Code.wp _ _ _ _ W) (fun W1 hW1=>?_);have H0:Hid (kN w W1 (jY S 0)):=by
  have b1:=(bK _ w).alloc (aF _) (Obj.cells (S.map ah).toArray 211);have hres:∃ cs,ak W1 (w.heap.size+1) 211 cs/\cs.size=16:=by rw[<-hW1];exact⟨Kt,uy _ _ _ _,rfl⟩
  refine⟨?_,hres,?_⟩
  ·rw[<-hW1];exact(ak.new w _ _).alloc _
  ·rw[<-hW1];exact b1.alloc b1.size _
 have XP:=zh hS;clear hW1 hS;go_wp2_with fail;go_loopw [5] (fun q wr=>∃ n:Nat,q= .int .i64 n/\Hid (n<=10)/\Hid (kN w wr (jY S n))) (fun q _=>10-(intOf q).toNat)
 case atStart=>exact⟨0,rfl,iT _,H0⟩
 case round=>
  clear H0;obtain⟨n,rfl,hn,hA⟩:=hrel;by_cases hlt:n<10
  ·have d1:decide (n<10)=true:=pW hlt;have d2:decide ((n:Int)<10)=true:=pW (by omega);have SL:=zh hlt;obtain⟨T,hT⟩:∃ T,jY S n=T:=⟨_,rfl⟩;have hTl:Hid (T.length=16):=by unfold Hid;rw[<-hT,oW];exact XP.out
   have hTH:=zh hT;rw[hT] at hA;clear hT;go_wp2_with fail;have hA0:Hid (kN w wr (yF T 0)):=hA;clear hA;go_loopw [7] (fun q wr=>∃ i:Nat,q= .int .i64 i/\Hid (i<=4)/\Hid (kN w wr (yF T i))) (fun q _=>4-(intOf q).toNat)
   case atStart=>exact⟨0,rfl,iT _,hA0⟩
   case round=>
    clear hA0;obtain⟨i,rfl,hi,hA⟩:=hrel;by_cases h4:i<4
    ·have e1:decide (i<4)=true:=pW h4;have e2:decide ((i:Int)<4)=true:=pW (by omega);have hi0:Hid (i<16):=by unfold Hid;omega
     have hi1:Hid (4+i<16):=by unfold Hid;omega
     have hi2:Hid (8+i<16):=by unfold Hid;omega
     have hi3:Hid (12+i<16):=by unfold Hid;omega
     have x0:=fun wx=>bP wx w.heap.size i hi0.out (i:Int) rfl
     have x1:=fun wx=>bP wx w.heap.size (4+i) hi1.out (4+(i:Int)) (by omega)
     have x2:=fun wx=>bP wx w.heap.size (8+i) hi2.out (8+(i:Int)) (by omega)
     have x3:=fun wx=>bP wx w.heap.size (12+i) hi3.out (12+(i:Int)) (by omega)
     have y1:IntKind.i64.wrap (4+(i:Int))=4+(i:Int):=qg 4 i (by omega);have y2:IntKind.i64.wrap (8+(i:Int))=8+(i:Int):=qg 8 i (by omega);have y3:IntKind.i64.wrap (12+(i:Int))=12+(i:Int):=qg 12 i (by omega);have hSl:Hid ((yF T i).length=16):=by unfold Hid;rw[Bc];exact hTl.out
     have hB:=zh hA.out.st;have h4H:=zh h4;go_wp2_with fail;refine yD (S:=(fun _=>True)) (by kernel_rfl) trivial (fun zs=>?_);refine' tk 0 rfl zs ?_;refine' tk 1 rfl zs ?_;refine' tk 2 rfl zs ?_;refine' tk 3 rfl zs ?_;refine' tk 4 rfl zs ?_;refine' tk 5 rfl zs ?_;refine' tk 6 rfl zs ?_;refine' tk 7 rfl zs ?_;refine' tk 8 rfl zs ?_;refine' tk 9 rfl zs ?_;refine' tk 10 rfl zs ?_;refine td 11 rfl (fun K hK=>?_);go_simp;go_at_call 188;refine(Eo _ w.heap.size i (4+i) (8+i) (12+i) 211 _ hSl.out hi0.out hi1.out hi2.out hi3.out (hB.out.drew)).mono ?_;rintro e w9 ⟨rfl,oC,hG9⟩;have JC:=zh oC;have HG9:=zh (aZ (bY wr _) hG9);clear oC hG9;go_wp2_with fail;refine hK.out _ _ (trivial) (fun zs=>?_);clear hK K;try simp only[sA,gA]
     refine wZ (by kernel_rfl) ?_ _;clear zs;go_wp2_with fail;refine⟨⟨i+1,by go_num,h4H.out,hA.out.next JC.out HG9.out⟩,?_⟩;have:=h4H.out;simp[intOf];omega
    ·have e1:decide (i<4)=false:=dF h4;have e2:decide ((i:Int)<4)=false:=dF (by omega);have hi4:i=4:=zap hi (Ep h4);have hA1:Hid (kN w wr (FH (yF T 4) 0)):=by rw[hi4] at hA;exact hA
     have hUl:Hid ((yF T 4).length=16):=by unfold Hid;rw[Bc];exact hTl.out
     have hfin:Hid (jY S (n+1)=FH (yF T 4) 4):=by unfold Hid;rw[<-hTH.out];rfl
     generalize yF T 4=U at *;clear hi4 hA;go_wp2_with fail;go_loopw [23] (fun q wr=>∃ i:Nat,q= .int .i64 i/\Hid (i<=4)/\Hid (kN w wr (FH U i))) (fun q _=>4-(intOf q).toNat)
     case atStart=>exact⟨0,rfl,iT _,hA1⟩
     case round=>
      clear hA1 h4 e1 e2 hi;obtain⟨t,rfl,ht,hA⟩:=hrel;by_cases h4:t<4
      ·have e1:decide (t<4)=true:=pW h4;have e2:decide ((t:Int)<4)=true:=pW (by omega);obtain⟨j1,hj1⟩:∃ j,(t+1) % 4=j:=⟨_,rfl⟩;obtain⟨j2,hj2⟩:∃ j,(t+2) % 4=j:=⟨_,rfl⟩;obtain⟨j3,hj3⟩:∃ j,(t+3) % 4=j:=⟨_,rfl⟩;have hi0:Hid (t<16):=by unfold Hid;omega
       have hi1:Hid (4+j1<16):=by unfold Hid;omega
       have hi2:Hid (8+j2<16):=by unfold Hid;omega
       have hi3:Hid (12+j3<16):=by unfold Hid;omega
       have m1:((t:Int)+1).tmod 4=(j1:Int):=by rw[Int.tmod_eq_emod_of_nonneg (by omega)];omega
       have m2:((t:Int)+2).tmod 4=(j2:Int):=by rw[Int.tmod_eq_emod_of_nonneg (by omega)];omega
       have m3:((t:Int)+3).tmod 4=(j3:Int):=by rw[Int.tmod_eq_emod_of_nonneg (by omega)];omega
       have n1:IntKind.i64.wrap ((t:Int)+1)=(t:Int)+1:=qg t 1 (by omega);have n2:IntKind.i64.wrap ((t:Int)+2)=(t:Int)+2:=qg t 2 (by omega);have n3:IntKind.i64.wrap ((t:Int)+3)=(t:Int)+3:=qg t 3 (by omega);have y1:IntKind.i64.wrap (4+(j1:Int))=4+(j1:Int):=qg 4 j1 (by have:=hi1.out;omega);have y2:IntKind.i64.wrap (8+(j2:Int))=8+(j2:Int):=qg 8 j2 (by have:=hi2.out;omega);have y3:IntKind.i64.wrap (12+(j3:Int))=12+(j3:Int):=qg 12 j3 (by have:=hi3.out;omega);have x0:=fun wx=>bP wx w.heap.size t hi0.out (t:Int) rfl
       have x1:=fun wx=>bP wx w.heap.size (4+j1) hi1.out (4+(j1:Int)) (by omega)
       have x2:=fun wx=>bP wx w.heap.size (8+j2) hi2.out (8+(j2:Int)) (by omega)
       have x3:=fun wx=>bP wx w.heap.size (12+j3) hi3.out (12+(j3:Int)) (by omega)
       have hSl:Hid ((FH U t).length=16):=by unfold Hid;rw[Gj];exact hUl.out
       have hsn:Hid (FH U (t+1)=JB (FH U t) t (4+j1) (8+j2) (12+j3)):=by unfold Hid;rw[<-hj1,<-hj2,<-hj3];rfl
       have hB:=zh hA.out.st;have h4H:=zh h4;clear hj1 hj2 hj3;go_wp2_with fail;refine yD (S:=(fun _=>True)) (by kernel_rfl) trivial (fun zs=>?_);refine' tk 0 rfl zs ?_;refine' tk 1 rfl zs ?_;refine' tk 2 rfl zs ?_;refine' tk 3 rfl zs ?_;refine' tk 4 rfl zs ?_;refine' tk 5 rfl zs ?_;refine' tk 6 rfl zs ?_;refine' tk 7 rfl zs ?_;refine' tk 8 rfl zs ?_;refine' tk 9 rfl zs ?_;refine' tk 10 rfl zs ?_;refine' tk 11 rfl zs ?_;refine' tk 12 rfl zs ?_;refine' tk 13 rfl zs ?_;refine' tk 14 rfl zs ?_;refine' tk 15 rfl zs ?_;refine' tk 16 rfl zs ?_;refine td 17 rfl (fun K hK=>?_);go_simp;go_at_call 188;refine(Eo _ w.heap.size t (4+j1) (8+j2) (12+j3) 211 _ hSl.out hi0.out hi1.out hi2.out hi3.out (hB.out.drew)).mono ?_;rintro e w9 ⟨rfl,oC,hG9⟩;have JC:=zh oC;have HG9:=zh (aZ (bY wr _) hG9);clear oC hG9;go_wp2_with fail;refine hK.out _ _ (trivial) (fun zs=>?_);clear hK K;try simp only[sA,gA]
       refine wZ (by kernel_rfl) ?_ _;clear zs;go_wp2_with fail;have hA9:=hA.out.next JC.out HG9.out;rw[<-hsn.out] at hA9;refine⟨⟨t+1,by go_num,h4H.out,hA9⟩,?_⟩;have:=h4H.out;simp[intOf];omega
      ·have e1:decide (t<4)=false:=dF h4;have e2:decide ((t:Int)<4)=false:=dF (by omega);have ht4:t=4:=zap ht (Ep h4);have hA2:Hid (kN w wr (jY S (n+1))):=by rw[ht4] at hA;unfold Hid;rw[hfin.out];exact hA
       clear ht4 hA;go_wp2_with fail;refine⟨⟨n+1,by go_num,SL.out,hA2⟩,?_⟩;have:=SL.out;simp[intOf];omega
  ·have d1:decide (n<10)=false:=dF hlt;have d2:decide ((n:Int)<10)=false:=dF (by omega);have aad:n=10:=zap hn (Ep hlt);have hA1:Hid (kN w wr (jY S 10)):=by rw[aad] at hA;exact hA
   have hRl:Hid (((jY S 10).map ah).length=16):=by unfold Hid;rw[lq,oW];exact XP.out
   have hRo:Hid (∀ v ∈ (jY S 10).map ah,v.oneCell'=true):=jZ _;have hst:=hA1.out.st;obtain⟨cs,hr,hrs⟩:=hA1.out.res;have O4:=zh hrs;have Tz:=zh hr;have hbel:=zh hA1.out.bel;clear aad hA hA1 hr hrs;generalize hD:(jY S 10).map ah=D at *;have VZ:=zh hD;have hrg:=dZ hst;clear hD hst;go_wp2_with (first | (refine wpList_load_mid rfl 211 _ rfl w.heap.size 0 rfl D _ hrg Tryz.underlying211 rfl ?hI1 ?_) | (refine wpList_store_mid rfl 211 _ _ rfl (w.heap.size+1) 0 D.toArray rfl rfl ?hI2 ?Dx ?SN ?_) | fail)
   case hI1=>rw[hRl.out];exact lX
   case hI2=>rw[hRl.out];exact aU (o:=0) Tz.out (by rw[O4.out];exact aF _)
   case Dx=>rw[hRl.out];exact lX
   case SN=>exact hRo.out
   have hL:=aW Tz.out D (by rw[hRl.out,O4.out]);have hBL:=below_setCells (g:=w.heap.size+1) (wW _) D 0 _ hbel.out;rw[VZ.out];exact bU (bF (P:=Tryz.prog) rfl _ _ (w.heap.size+1) 211 D.toArray _ rfl hL Tryz.underlying211 rfl (by rw[mG,hRl.out];exact jH)) rfl ⟨rfl,hBL⟩
end
section
attribute [local go_sem] Oper.semAt_some
structure Dy (w wr:World) (S:List UInt32):Prop where
 st:ak wr w.heap.size 211 (S.map ah).toArray
 bel:Below w.heap.size w wr
theorem Dy.put {w wr:World} {S:List UInt32} (h:Dy w wr S) (a:Nat) (v:UInt32):Dy w (wr.setCell ⟨w.heap.size,a,none⟩ (ah v)) (S.set a v):=
 ⟨fV h.st a v,h.bel.setCell (p:=⟨w.heap.size,a,none⟩) (aF _) _⟩
theorem Dy.drew {w wr:World} {S:List UInt32} (h:Dy w wr S):Dy w wr.drew S:=⟨h.st.drew,h.bel.drew⟩
theorem Ku (w:World) (key aY:ByteArray) (c:UInt32) (hk:key.size=32) (hn:aY.size=12):
  Calls Tryz.prog 152 #[.string key,ah c,.string aY] w fun e w'=>e= .returned (.tuple #[.agg ((gu (bl key) c (bl aY)).map ah).toArray,.int .i64 0])/\Below w.heap.size w w':=by
 have hkH:=zh hk;have SL:=zh hn;go_enter Tryz.func152,Tryz.ntmps152;go_upto_region 1 with fail;refine aX (P:=fun W=>Code.wp _ _ _ _ W) (fun W1 hW1=>?_);have hB1:Hid (ak W1 w.heap.size 211 Kt):=by unfold Hid;rw[<-hW1];exact ak.new w _ _
 have afe:Hid (Below w.heap.size w W1):=by unfold Hid;rw[<-hW1];exact(bK _ w).alloc (aF _) _
 clear hW1;have hth:=zh (aU (o:=0) (n:=16) hB1.out (by decide));have hone:=zh (all_oneCell_toArray (jZ (jI c)));go_upto_region 4 with(first | (refine wpList_store_mid rfl 211 _ _ rfl w.heap.size 0 ((jI c).map ah).toArray rfl rfl hth.out jH hone.out ?_) | fail);try simp only[Act.put]
 refine aX (P:=fun W=>Code.wp _ _ _ _ W) (fun W2 hW2=>?_);have hS0:Hid (Dy w W2 (lK (bl key) (jI c) 0)):=by
  refine⟨?_,?_⟩
  ·rw[<-hW2];exact aW hB1.out ((jI c).map ah) rfl
  ·rw[<-hW2];exact below_setCells (aF _) _ 0 _ afe.out
 clear hW2 hB1 afe hth hone;go_wp2_with fail;go_loopw [21] (fun q wr=>∃ t:Nat,q= .int .i64 t/\Hid (t<=8)/\Hid (Dy w wr (lK (bl key) (jI c) t))) (fun q _=>8-(intOf q).toNat)
 case atStart=>exact⟨0,rfl,iT _,hS0⟩
 case round=>
  clear hS0;obtain⟨t,rfl,ht,hA⟩:=hrel;by_cases hlt:t<8
  ·have d1:decide (t<8)=true:=pW hlt;have d2:decide ((t:Int)<8)=true:=pW (by omega);have x1:=fun wx=>bP wx w.heap.size (4+t) (by omega) (4+(t:Int)) (by omega)
   have e1:bl (key.extract (4*t) 32)=(bl key).drop (4*t):=by
    have h:=jD key (4*t) (by omega);rw[hk] at h;exact h
   have HG:Hid (∀ wx,Calls Tryz.prog 172 #[.string (key.extract (4*t) 32)] wx fun e w'=>e= .returned (ah (zH ((bl key).drop (4*t))))/\w'=wx.drew):=fun wx=>by
    have h:=get_any wx (key.extract (4*t) 32) (by rw[<-aG,e1,rX,aG,hk];omega);rw[e1] at h;exact h
   have hfr:=hA.out.st.frozen (4+t);have hce:=bg hA.out.st (a:=4+t) (by rw[qI];show 4+t<16;omega);have hN:Hid (Dy w (wr.setCell ⟨w.heap.size,4+t,none⟩ (ah (zH ((bl key).drop (4*t))))).drew (lK (bl key) (jI c) (t+1))):=(hA.out.put (4+t) _).drew;have fG:=zh hlt;clear e1;go_wp2_with (first | (go_at_call 172;refine(HG.out _).mono ?_;rintro e w9 ⟨rfl,rfl⟩) | fail);refine⟨⟨t+1,by go_num,fG.out,hN⟩,?_⟩;have:=fG.out;simp[intOf];omega
  ·have d1:decide (t<8)=false:=dF hlt;have d2:decide ((t:Int)<8)=false:=dF (by omega);have e8:t=8:=zap ht (Ep hlt);have hS1:Hid (Dy w wr (uq (bl aY) (lK (bl key) (jI c) 8) 0)):=by rw[e8] at hA;exact hA
   have hfin:Hid (gu (bl key) c (bl aY)=uq (bl aY) (lK (bl key) (jI c) 8) 3):=rfl;have hUl:Hid ((lK (bl key) (jI c) 8).length=16):=by unfold Hid;rw[qI];rfl
   generalize lK (bl key) (jI c) 8=U at *;clear e8 hA;go_wp2_with fail;go_loopw [33] (fun q wr=>∃ i:Nat,q= .int .i64 i/\Hid (i<=3)/\Hid (Dy w wr (uq (bl aY) U i))) (fun q _=>3-(intOf q).toNat)
   case atStart=>exact⟨0,rfl,iT _,hS1⟩
   case round=>
    clear hS1 ht hlt d1 d2;obtain⟨i,rfl,hi,hA⟩:=hrel;by_cases hlt:i<3
    ·have d1:decide (i<3)=true:=pW hlt;have d2:decide ((i:Int)<3)=true:=pW (by omega);have x1:=fun wx=>bP wx w.heap.size (13+i) (by omega) (13+(i:Int)) (by omega)
     have e1:bl (aY.extract (4*i) 12)=(bl aY).drop (4*i):=by
      have h:=jD aY (4*i) (by omega);rw[hn] at h;exact h
     have HG:Hid (∀ wx,Calls Tryz.prog 172 #[.string (aY.extract (4*i) 12)] wx fun e w'=>e= .returned (ah (zH ((bl aY).drop (4*i))))/\w'=wx.drew):=fun wx=>by
      have h:=get_any wx (aY.extract (4*i) 12) (by rw[<-aG,e1,rX,aG,hn];omega);rw[e1] at h;exact h
     have hfr:=hA.out.st.frozen (13+i);have hce:=bg hA.out.st (a:=13+i) (by rw[yJ,hUl.out];omega);have hN:Hid (Dy w (wr.setCell ⟨w.heap.size,13+i,none⟩ (ah (zH ((bl aY).drop (4*i))))).drew (uq (bl aY) U (i+1))):=(hA.out.put (13+i) _).drew;have fG:=zh hlt;clear e1;go_wp2_with (first | (go_at_call 172;refine(HG.out _).mono ?_;rintro e w9 ⟨rfl,rfl⟩) | fail);refine⟨⟨i+1,by go_num,fG.out,hN⟩,?_⟩;have:=fG.out;simp[intOf];omega
    ·have d1:decide (i<3)=false:=dF hlt;have d2:decide ((i:Int)<3)=false:=dF (by omega);have e3:i=3:=zap hi (Ep hlt);have hA1:Hid (Dy w wr (gu (bl key) c (bl aY))):=by rw[e3] at hA;unfold Hid;rw[hfin.out];exact hA
     have hRl:Hid (((gu (bl key) c (bl aY)).map ah).length=16):=by unfold Hid;rw[lq,oI]
     have hRo:Hid (∀ v ∈ (gu (bl key) c (bl aY)).map ah,v.oneCell'=true):=jZ _;have hst:=hA1.out.st;have hbel:=zh hA1.out.bel;clear e3 hA hA1 hfin;generalize hD:(gu (bl key) c (bl aY)).map ah=D at *;have VZ:=zh hD;have hrg:=dZ hst;have TA:=zh hst;clear hD hst;go_wp2_with (first | (refine wpList_load_mid rfl 211 _ rfl w.heap.size 0 rfl D _ hrg Tryz.underlying211 rfl ?hI1 ?_) | (refine wpList_store_mid rfl 211 _ _ rfl w.heap.size 0 D.toArray rfl rfl ?hI2 ?Dx ?SN ?_) | fail)
     case hI1=>rw[hRl.out];exact lX
     case hI2=>rw[hRl.out];exact aU (o:=0) TA.out (by rw[mG,hRl.out];exact aF _)
     case Dx=>rw[hRl.out];exact lX
     case SN=>exact hRo.out
     have hL:=aW TA.out D (by rw[mG]);have hBL:=below_setCells (g:=w.heap.size) (aF _) D 0 _ hbel.out;rw[VZ.out];exact bU (v:= .tuple #[.agg D.toArray,.int .i64 0]) (dA (p:=6) (q:=7) rfl _ _ w.heap.size 211 D.toArray _ rfl hL Tryz.underlying211 rfl (by rw[mG,hRl.out];exact jH)) rfl ⟨rfl,hBL⟩
end
section
attribute [local go_sem] Oper.semAt_some mW jC
theorem adw (w:World):(Instr.makeSlice 66 (.int .i64 0) (.int .i64 64)).run Tryz.prog w= .ok (.slice (some ⟨w.heap.size,0,none⟩) 0 64) (w.alloc (.cells (Array.replicate 64 (.int .u8 0)) 5)):=by kernel_rfl
theorem XQ (w:World):dD (w.alloc (.cells (Array.replicate 64 (.int .u8 0)) 5)) w.heap.size (.slice (some ⟨w.heap.size,0,none⟩) 0 64) []:=
 World.ownsRow_made w (Array.replicate 64 (.int .u8 0)) 64 (aF _) (by decide) (by simp)
theorem XR (w:World) (S:List UInt32) (t:Nat) (h:t<16) (hS:S.length=16):(Instr.index 211 (.agg (S.map ah).toArray) (.int .i64 t)).run Tryz.prog w= .ok (ah (S.getD t 0)) w:=by
 obtain⟨i0,hi,hz0,hz1,hz2⟩:=info_parts V3;have e:(S.map ah).toArray[t]? =some (ah (S.getD t 0)):=by
  rw[Ti,sD,En,jB (by omega:t<S.length)];rfl
 have hs:(0:Int)<=(t:Int)/\(t:Int)<((16:Nat):Int):=⟨by omega,by omega⟩;generalize (S.map ah).toArray=V at *;unfold Instr.index;simp[run_underlying Tryz.underlying211,go_sem,sizeOf,typeInfo,hi,hz1,h,part,e]
theorem XT (w:World) (key aY:ByteArray) (c:UInt32) (hk:key.size=32) (hn:aY.size=12):
  Calls Tryz.prog 153 #[.string key,ah c,.string aY] w fun e w'=>e= .returned (.tuple #[.string (txt (iU (bl key) c (bl aY))),.int .i64 0])/\Below w.heap.size w w':=by
 have HST:=zh (Ku w key aY c hk hn);have hSl:Hid ((gu (bl key) c (bl aY)).length=16):=oI _ _ _;have hfin:Hid (iU (bl key) c (bl aY)=uw (gu (bl key) c (bl aY)) 16):=rfl;clear hk hn;generalize gu (bl key) c (bl aY)=S at *;have hDl:Hid ((S.map ah).length=16):=by unfold Hid;rw[lq];exact hSl.out
 have hDo:Hid (∀ v ∈ S.map ah,v.oneCell'=true):=jZ _;have hone:=zh (all_oneCell_toArray hDo.out);go_enter Tryz.func153,Tryz.ntmps153;go_upto_region 2 with(first | (go_at_call 152;refine HST.out.mono ?_;rintro e w1 ⟨rfl,hB1⟩;have HB1:=zh hB1;clear hB1) | (refine wpList_store_mid rfl 211 _ _ rfl w1.heap.size 0 (S.map ah).toArray rfl rfl (aU (o:=0) (ak.new w1 211 Kt) (by rw[mG,hDl.out];exact aF _)) (by rw[mG,hDl.out];exact jH) hone.out ?_) | fail);try simp only[Act.put,zq]
 refine aX (P:=fun W=>Code.wp _ _ _ _ W) (fun W2 hW2=>?_);have hst:Hid (ak W2 w1.heap.size 211 (S.map ah).toArray):=by unfold Hid;rw[<-hW2];exact aW (ak.new w1 211 Kt) (S.map ah) (by rw[hDl.out];rfl)
 have hbel:Hid (Below w.heap.size w W2):=by unfold Hid;rw[<-hW2];exact below_setCells HB1.out.size _ 0 _ (HB1.out.alloc HB1.out.size _)
 have hge:Hid (w.heap.size<=w1.heap.size):=HB1.out.size;obtain⟨sb,hsb⟩:∃ sb,w1.heap.size=sb:=⟨_,rfl⟩;rw[hsb] at hst hge ⊢;clear hW2 hsb HB1 HST hone;have hmk:=adw;have hrg:=dZ hst.out;have aiN:∀ o,(W2.alloc o).rangeAt sb 0 (S.map ah):=fun o=>by
  have h:=dZ (hst.out.alloc o);exact h
 have HR:Hid (Calls Tryz.prog 173 #[.agg (S.map ah).toArray] (W2.alloc (.cells (Array.replicate 64 (.int .u8 0)) 5)) fun e w'=>e= .returned (.agg ((jY S 10).map ah).toArray)/\Below (W2.alloc (.cells (Array.replicate 64 (.int .u8 0)) 5)).heap.size (W2.alloc (.cells (Array.replicate 64 (.int .u8 0)) 5)) w'):=Tv _ S hSl.out;have hrow0:=zh (XQ W2);have agc:=zh (hst.out.alloc (.cells (Array.replicate 64 (.int .u8 0)) 5));have hbel0:=zh (hbel.out.alloc hbel.out.size (.cells (Array.replicate 64 (.int .u8 0)) 5));have hlts:=zh hst.out.lt;have hbs:Hid (w.heap.size<=W2.heap.size):=hbel.out.size;have aae:Hid (W2.heap.size<=(W2.alloc (.cells (Array.replicate 64 (.int .u8 0)) 5)).heap.size):=by unfold Hid;rw[oz];exact wW _
 clear hst hbel
 go_upto_block 1 with(first | (go_at_call 173;refine HR.out.mono ?_;rintro e w4 ⟨rfl,hB4⟩;have hrow4:=zh (hrow0.out.below hB4);have JD:=zh (agc.out.below hB4 agc.out.lt);have Kv:=zh (hbel0.out.trans (hB4.mono hbel0.out.size));have aaf:=zh (fU aae.out hB4.size);clear hB4) | (refine wpList_load_mid rfl 211 _ rfl sb 0 rfl (S.map ah) _ (aiN _) Tryz.underlying211 rfl (by rw[hDl.out];exact jH) ?_) | fail)
 clear hrow0 agc hbel0 aae HR hrg aiN hmk;go_loopw [10,26] (fun p q wr=>∃ i:Nat,q= .int .i64 i/\Hid (i<=16)/\Hid (dD wr W2.heap.size p (uw S i))/\Hid (ak wr sb 211 (S.map ah).toArray)/\Hid (Below w.heap.size w wr)/\Hid (W2.heap.size<=wr.heap.size)) (fun _ q _=>16-(intOf q).toNat)
 case atStart=>exact⟨0,rfl,iT _,hrow4,JD,Kv,aaf⟩
 case round=>
  clear hrow4 JD Kv aaf;obtain⟨i,rfl,hi,hR,hst,hbel,hbase⟩:=hrel;by_cases hlt:i<16
  ·have d1:decide (i<16)=true:=pW hlt;have d2:decide ((i:Int)<16)=true:=pW (by omega);have x0:=fun wx=>bP wx sb i hlt (i:Int) rfl
   have x1:=fun wx=>XR wx (jY S 10) i hlt (by rw[oW];exact hSl.out)
   have c0:=bg hst.out (a:=i) (by rw[hSl.out];exact hlt);obtain⟨X,hX⟩:∃ X,(jY S 10).getD i 0=X:=⟨_,rfl⟩;obtain⟨Y,hY⟩:∃ Y,S.getD i 0=Y:=⟨_,rfl⟩;have hsn:=Ag S i;rw[hX,hY] at hsn;rw[hX] at x1;rw[hY] at c0;have HP:=zh (put_any wr W2.heap.size u10 (uw S i) (aT X Y) hR.out hbase.out (by rw[yK];omega));have xu:=zh hsn;have fG:=zh hlt;clear hX hY hsn;go_wp2_with (first | (go_at_call 174;refine HP.out.mono ?_;rintro e w9 ⟨v9,rfl,hP9⟩;rw[<-xu.out] at hP9;have SQ:=zh hP9;clear hP9) | fail);refine⟨⟨i+1,by go_num,fG.out,SQ.out.row,hst.out.below (SQ.out.bel _ wr (aF _) hbase.out (bK _ _)) hlts.out,SQ.out.bel _ _ hbs.out hbase.out hbel.out,fU hbase.out SQ.out.grown.size⟩,?_⟩;have:=fG.out;simp[intOf];omega
  ·have d1:decide (i<16)=false:=dF hlt;have d2:decide ((i:Int)<16)=false:=dF (by omega);have e16:i=16:=zap hi (Ep hlt);have hcv:(convert 66 9 u10).run Tryz.prog wr= .ok (.string (txt (iU (bl key) c (bl aY)))) wr:=by
    have h:=jk hR.out;rw[e16] at h;rw[hfin.out];exact h
   clear e16 hlt hfin;generalize hT:txt (iU (bl key) c (bl aY))=T at *;have hTH:=zh hT;clear hT;go_wp2_with fail;go_ret2;exact⟨by rw[hTH.out];rfl,hbel.out⟩
end
def OV (w:World) (g:Nat) (L:List UInt8):Prop:=∃ cs t fz,w.heap[g]? =some (.cells cs t fz)/\L.length<=fz.1/\∀ (j:Nat) (x:UInt8),L[j]? =some x->cs[j]? =some (aK x)
section
variable {w w':World} {g:Nat} {L:List UInt8}
theorem OV.lt (h:OV w g L):g<w.heap.size:=by
 obtain⟨cs,t,fz,h1,_⟩:=h;exact(Array.getElem?_eq_some_iff.1 h1).1
theorem OV.cell (h:OV w g L) (j:Nat) (x:UInt8) (hx:L[j]? =some x):w.cell? ⟨g,j,none⟩=some (aK x):=by
 obtain⟨cs,t,fz,h1,_,h3⟩:=h;have:=h3 j x hx;simp[World.cell?,h1,this]
theorem OV.frozen (h:OV w g L) (j:Nat) (hj:j<L.length):w.frozen? ⟨g,j,none⟩=false:=by
 obtain⟨cs,t,fz,h1,h2,_⟩:=h;simp[World.frozen?,h1];omega
theorem OV.nN (h:OV w g L):BytesAt w g 0 L:=⟨h.lt,fun i x hx=>by rw[AZ];exact h.cell i x hx⟩
theorem OV.below (h:OV w g L) (hB:Below w.heap.size w w'):OV w' g L:=by
 have hl:=h.lt;obtain⟨cs,t,fz,h1,h2,h3⟩:=h;exact⟨cs,t,fz,(hB.block g hl).trans h1,h2,h3⟩
theorem OV.aB (h:OV w g L) (j:Nat) (hj:j<L.length) (y:UInt8):OV (w.setCell ⟨g,j,none⟩ (aK y)) g (L.set j y):=by
 obtain⟨cs,t,fz,h1,h2,h3⟩:=h;have hc:j<cs.size:=by
  have:=h3 j L[j] (jB hj);exact(Array.getElem?_eq_some_iff.1 this).1
 refine⟨cs.setIfInBounds j (aK y),t,fz,?_,by rw[List.length_set];exact h2,fun i x hx=>?_⟩
 ·simp[World.setCell,Array.getElem?_modify,h1]
 ·rw[Array.getElem?_setIfInBounds];by_cases e:j=i
  ·subst e;rw[List.getElem?_set_self hj] at hx;cases hx;rw[if_pos rfl,if_pos hc]
  ·rw[List.getElem?_set_ne e] at hx;rw[if_neg e];exact h3 i x hx
end
theorem XU {L1 L2:List UInt8} {i:Nat} (hl:L1.length=L2.length) (x:UInt8) (hx:L1[i]? =some x):(L1.take i++L2.drop i).set i x=L1.take (i+1)++L2.drop (i+1):=by
 have hi:i<L1.length:=(List.getElem?_eq_some_iff.1 hx).1;have hl2:(L1.take i).length=i:=by rw[ou];omega
 rw[List.set_append_right _ _ (Nat.le_of_eq hl2),hl2,Nat.sub_self,List.drop_eq_getElem_cons (by omega:i<L2.length),List.set_cons_zero,FD,hx,Em];rfl
theorem ady {L1 L2:List UInt8} {i:Nat} (hl:L1.length=L2.length) (x:UInt8) (hx:L2[i]? =some x):(L1.take i++L2.drop i)[i]? =some x:=by
 have hi:i<L2.length:=(List.getElem?_eq_some_iff.1 hx).1;rw[ZP (by rw[ou];omega),ou,Gm (by omega),Nat.sub_self,Nc,Nat.add_zero,hx]
theorem TB (w:World) (x:ByteArray):∃ c w',(convert 9 66 (.string x)).run Tryz.prog w= .ok (.slice (some ⟨w.heap.size,0,none⟩) x.size c) w'/\OV w' w.heap.size (bl x)/\Below w.heap.size w w'/\w'.heap.size=w.heap.size+1:=by
 refine⟨_,_,Lib.run_convert_string_bytes (P:=Tryz.prog) w 9 66 5 x Tryz.underlying9 Tryz.underlying66 Tryz.underlying5,⟨_,_,_,Lib.bytesWorld_at_new w 5 x,?_,?_⟩,Lib.bytesWorld_below _ _ _,Lib.bytesWorld_size _ _ _⟩
 ·unfold Lib.bytesCells bl;rw[Array.size_append,Array.size_map,Di];omega
 ·intro j y hy;have hj:j<x.data.size:=by
   have:=(List.getElem?_eq_some_iff.1 hy).1;unfold bl at this;rw[Di] at this;exact this
  unfold Lib.bytesCells;rw[Array.getElem?_append_left (by rw[Array.size_map];exact hj),Array.getElem?_map];unfold bl at hy;rw[Array.getElem?_toList] at hy;rw[hy];rfl
attribute [local go_sem] Oper.semAt_some mW jC lu
theorem V4 (k:List UInt8) (c:UInt32) (n t:List UInt8) (i:Nat) (x:UInt8) (h:t[i]? =some x):(lS k c n t)[i]? =some (pK x ((iU k (qc c (i/64)) n).getD (i % 64) 0)):=by
 unfold lS;rw[List.getElem?_mapIdx,h];rfl
theorem O5 (w:World) (g n c t:Nat) (h:t<n):(Instr.indexAt 66 (.slice (some ⟨g,0,none⟩) n c) (.int .i64 t)).run Tryz.prog w= .ok (.pointer (some ⟨g,t,none⟩)) w:=by
 have d1:(0:Int)<=(t:Int):=by omega
 have d2:(t:Int)<(n:Int):=by omega
 simp[go_sem,d1,d2]
theorem V5 (w:World) (key aY text:ByteArray) (c:UInt32) (hk:key.size=32) (hn:aY.size=12) (ht:text.size<10000000000):
  Calls Tryz.prog 122 #[.string key,ah c,.string aY,.string text] w fun e w'=>e= .returned (.tuple #[.string (txt (lS (bl key) c (bl aY) (bl text))),.int .i64 0])/\Below w.heap.size w w':=by
 have HST:=zh (Ku w key aY c hk hn);have HBL:Hid (∀ wx C,Calls Tryz.prog 153 #[.string key,ah C,.string aY] wx fun e w'=>e= .returned (.tuple #[.string (txt (iU (bl key) C (bl aY))),.int .i64 0])/\Below wx.heap.size wx w'):=fun wx C=>XT wx key aY C hk hn
 have hSl:Hid ((gu (bl key) c (bl aY)).length=16):=oI _ _ _;clear hk hn;generalize gu (bl key) c (bl aY)=S at *;have hDl:Hid ((S.map ah).length=16):=by unfold Hid;rw[lq];exact hSl.out
 have hone:=zh (all_oneCell_toArray (jZ S));go_enter Tryz.func122,Tryz.ntmps122;go_upto_region 4 with(first | (go_at_call 152;refine HST.out.mono ?_;rintro e w1 ⟨rfl,hB1⟩;have HB1:=zh hB1;clear hB1) | (refine wpList_store_mid rfl 211 _ _ rfl w1.heap.size 0 (S.map ah).toArray rfl rfl (aU (o:=0) (ak.new w1 211 Kt) (by rw[mG,hDl.out];exact aF _)) (by rw[mG,hDl.out];exact jH) hone.out ?_) | fail);try simp only[sA]
 refine aX (P:=fun W=>Code.wp _ _ _ _ W) (fun W2 hW2=>?_);have hbel:Hid (Below w.heap.size w W2):=by unfold Hid;rw[<-hW2];exact below_setCells HB1.out.size _ 0 _ (HB1.out.alloc HB1.out.size _)
 clear hW2 HB1 HST hone hDl hSl;obtain⟨cc,W3,hcv,hX,hB3,hs3⟩:=TB W2 text;have Kw:=zh (hbel.out.trans (hB3.mono hbel.out.size));have hXH:Hid (OV W3 W2.heap.size ((lS (bl key) c (bl aY) (bl text)).take 0++(bl text).drop 0)):=hX;have hge:Hid (w.heap.size<=W2.heap.size):=hbel.out.size;clear hX hB3 hs3;obtain⟨n,hn⟩:∃ n,text.size=n:=⟨_,rfl⟩;rw[hn] at hcv ht;have SL:=zh hn;go_wp2_with fail;obtain⟨ob,hob⟩:∃ ob,W2.heap.size=ob:=⟨_,rfl⟩;rw[hob] at hXH hge ⊢;have hl2:Hid ((bl text).length=n):=by unfold Hid;rw[aG];exact hn
 have hl1:Hid ((lS (bl key) c (bl aY) (bl text)).length=n):=by unfold Hid;rw[lW];exact hl2.out
 have hat:Hid (∀ i x,(bl text)[i]? =some x->(lS (bl key) c (bl aY) (bl text))[i]? =some (pK x ((iU (bl key) (qc c (i/64)) (bl aY)).getD (i % 64) 0))):=fun i x h=>V4 _ _ _ _ i x h
 generalize hL1:lS (bl key) c (bl aY) (bl text)=L1 at *;generalize hL2:bl text=L2 at *;have amv:=zh hL2;have agd:=zh hL1;clear hob hL1 hn hcv hL2;go_loopw [1,13,29] (fun cv bv q wr=>∃ (t:Nat) (b:ByteArray),q= .int .i64 t/\cv=ah (qc c ((t+63)/64))/\bv= .string b/\Hid (t<=n)/\Hid (t % 64≠0->bl b=iU (bl key) (qc c (t/64)) (bl aY))/\Hid (OV wr ob (L1.take t++L2.drop t))/\Hid (Below w.heap.size w wr)) (fun _ _ q _=>n-(intOf q).toNat)
 case atStart=>exact⟨0,⟨#[]⟩,rfl,rfl,rfl,iT _,fun h=>absurd rfl h,hXH,Kw⟩
 case round=>
  clear hXH Kw;obtain⟨t,b,rfl,rfl,rfl,htn,hb,hX,hB⟩:=hrel;by_cases hlt:t<n
  ·have d1:decide (t<n)=true:=pW hlt;have d2:decide ((t:Int)<(n:Int))=true:=pW (by omega);obtain⟨r,hr⟩:∃ r,t % 64=r:=⟨_,rfl⟩;have m1:(t:Int) % 64=(r:Int):=by omega
   have hrl:r<64:=by omega
   have fG:=zh hlt;have Tz:=zh hr;obtain⟨C,hC⟩:∃ C,qc c ((t+63)/64)=C:=⟨_,rfl⟩;have hCH:=zh hC;rw[hC];clear hr hC;go_upto_if 34 with fail
   go_cut [1,13] from 32 to 43 (fun cv bv wx=>∃ (b2:ByteArray),cv=ah (qc c ((t+1+63)/64))/\bv= .string b2/\Hid (bl b2=iU (bl key) (qc c (t/64)) (bl aY))/\Hid (Below wr.heap.size wr wx))
   case first=>
    by_cases h0:r=0
    ·have e0:((r:Int)==0)=true:=by rw[h0];rfl
     have hC2:Hid (qc c (t/64)=C):=by
      have h1:=Tz.out;have h2:=hCH.out;unfold Hid;rw[<-h2]
      congr 1
      omega
     have Jv:Hid (aT C 1=qc c ((t+1+63)/64)):=by
      have h1:=Tz.out;unfold Hid;rw[show(t+1+63)/64=t/64+1 by omega];show aT C 1=aT (qc c (t/64)) 1
      rw[hC2.out]
     have ha:=mW C 1;have ha':=jC C 1;go_wp2_with (first | (go_at_call 153;refine(HBL.out _ C).mono ?_;rintro e w9 ⟨rfl,oC⟩;have JC:=zh oC;clear oC) | fail);have hv:Value.int IntKind.u32 (((C.toNat:Int)+1) % 4294967296)=ah (qc c ((t+1+63)/64)):=by
      rw[<-Jv.out];exact congrArg _ (jC C 1)
     have hb2:Hid (bl (txt (iU (bl key) C (bl aY)))=iU (bl key) (qc c (t/64)) (bl aY)):=by unfold Hid;rw[hC2.out];rfl
     go_meet;exact⟨_,hv,rfl,hb2,JC⟩
    ·have e0:((r:Int)==0)=false:=by rw[FI];omega
     have Jv:Hid (C=qc c ((t+1+63)/64)):=by
      have h1:=Tz.out;have h2:=hCH.out;unfold Hid;rw[<-h2]
      congr 1
      omega
     have hb2:Hid (bl b=iU (bl key) (qc c (t/64)) (bl aY)):=hb.out (by rw[Tz.out];exact h0);go_wp2_with fail;have hv:ah C=ah (qc c ((t+1+63)/64)):=by rw[<-Jv.out]
     go_meet;exact⟨_,hv,rfl,hb2,(bK wr.heap.size wr)⟩
   case rest=>
    obtain⟨b2,rfl,rfl,hb2,hB2⟩:=hcut;have hXc:=zh (hX.out.below hB2.out);have hBc:=zh (hB.out.trans (hB2.out.mono hB.out.size));clear hX hB hb hB2;obtain⟨y,hy⟩:∃ y,L2[t]? =some y:=⟨_,jB (by rw[hl2.out];exact hlt)⟩;have cy:wc.cell? ⟨ob,t,none⟩=some (.int .u8 (y.toNat:Int)):=hXc.out.cell t y (ady (by rw[hl1.out,hl2.out]) y hy);have fy:=hXc.out.frozen t (by rw[kM,ou,rX,hl1.out,hl2.out];omega);obtain⟨z,hz⟩:∃ z,(bl b2)[r]? =some z:=⟨_,jB (by rw[hb2.out,Gl];exact hrl)⟩;have hti:=fun wx=>iq wx b2 r z hz
    have hbi:=fun wx=>O5 wx ob n cc t hlt
    have m2:(t:Int).tmod 64=(r:Int):=by rw[Int.tmod_eq_emod_of_nonneg (by omega)];exact m1
    have hxz:L1[t]? =some (pK y z):=by
     rw[hat.out t y hy,Tz.out,<-hb2.out,En,hz];rfl
    have hXn:Hid (OV (wc.setCell ⟨ob,t,none⟩ (aK (pK y z))) ob (L1.take (t+1)++L2.drop (t+1))):=by
     have h:=hXc.out.aB t (by rw[kM,ou,rX,hl1.out,hl2.out];omega) (pK y z);rw[XU (by rw[hl1.out,hl2.out]) _ hxz] at h;exact h
    have hBn:=zh (hBc.out.setCell (p:=⟨ob,t,none⟩) hge.out (aK (pK y z)) |>.drew);have hbn:Hid ((t+1) % 64≠0->bl b2=iU (bl key) (qc c ((t+1)/64)) (bl aY)):=fun h=>by
     rw[hb2.out];have:=Tz.out;rw[show(t+1)/64=t/64 by omega]
    have hxf:=lu y z;clear hy hz hxz hXc hBc hb2;go_wp2_with fail;refine bJ (S:=(fun w'=>w'.cell? ⟨ob,t,none⟩=some (.int .u8 (y.toNat:Int)))) 10 (by kernel_rfl) cy (fun zs=>?_);refine' tl 0 rfl zs ?_;refine' tl 1 rfl zs ?_;refine' tl 2 rfl zs ?_;refine' tl 3 rfl zs ?_;refine' tl 4 rfl zs ?_;refine' tl 5 rfl zs ?_;refine' tl 6 rfl zs ?_;refine' tl 7 rfl zs ?_;refine' tl 8 rfl zs ?_;refine' tl 9 rfl zs ?_;refine aN (rs:= [10]) (by kernel_rfl) (by simp) ?_;refine aI.last rfl (fun K hK=>?_);go_simp;refine hK.out _ _ ?_;clear hK K;try simp only[sA,gA]
    refine bZ (by kernel_rfl) ?_ _;clear zs;go_wp2_with fail;refine⟨⟨t+1,b2,by go_num,rfl,rfl,fG.out,hbn,hXn,hBn⟩,?_⟩;have:=fG.out;simp[intOf];omega
  ·have d1:decide (t<n)=false:=dF hlt;have d2:decide ((t:Int)<(n:Int))=false:=dF (by omega);have en:t=n:=zap htn (Ep hlt);have hcv:(convert 66 9 (.slice (some ⟨ob,0,none⟩) n cc)).run Tryz.prog wr= .ok (.string (txt L1)) wr:=by
    have h:=hX.out;rw[en,uo (Nat.le_of_eq hl1.out),List.drop_of_length_le (Nat.le_of_eq hl2.out),List.append_nil] at h;have h2:=mM (c:=cc) h.nN;rw[hl1.out] at h2;exact h2
   clear en hlt hX;go_wp2_with fail;go_ret2;exact⟨by rw[amv.out,agd.out];rfl,hB.out⟩
end Go.Proofs.YtpghocekofdpbaaGreatDoor
