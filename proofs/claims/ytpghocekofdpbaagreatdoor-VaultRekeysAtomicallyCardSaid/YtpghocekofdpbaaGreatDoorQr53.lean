/-
 For every input, VaultRekeysAtomically of layer 26 returns true, and its arguments read afterwards as they read before; the listed variables are tied to the program's own text. No other condition.
-/
import Derived.Test.YtpghocekofdpbaaGreatDoorQr52
import Derived.Test.YtpghocekofdpbaaGreatDoorCards
set_option maxRecDepth 100000
namespace Go.Proofs.YtpghocekofdpbaaGreatDoor
open Go.ChangeShapes Go.WideShapes Go.ChangeAt Go.RowKit
open Go.ChangeMaps (open_string shut_string)
theorem iM (os:Os) (started:os.Started) (H:Type) (enc:TypeId×Value->H):
  ReturnsInHanded {} Tryz.checked os 5 .any (fun w args=>(Rows.vaultRekeysAtomicallySpec.pre enc Tryz.prog Tryz.f5 [] false w args/\laidMetH Tryz.prog IV w)/\sizedMet enc Tryz.prog Tryz.f5 (OpenSpec.ofChange Rows.vaultRekeysAtomicallySpec) false w args)
   (Rows.vaultRekeysAtomicallySpec.post enc Tryz.prog Tryz.f5 false true false false):=by
 refine returnsInHanded_of_change_and (C:=Tryz.checked) (X:=fun w _=>laidMetH Tryz.prog IV w) (fun _ _ _ hh h=>h.of_heap hh) Tryz.own started (by kernel_rfl) Tryz.func5
  (ChangeSpec.witness_shaped (enc:=enc) (C:=Tryz.checked) (os:=os) (X:=fun w _=>laidMetH Tryz.prog IV w) false (World.laidAll Tryz.prog os IV) #[.int .i64 0,.slice none 0 0,.agg #[.int .u8 0,.int .u8 0],.slice none 0 0] 8 (World.laidAll_os _ _ _)
   (World.shaped_of_ZipB (by kernel_rfl) (by kernel_rfl)) (by kernel_rfl) (by kernel_rfl) (by kernel_rfl) (Y4 os _)) ?_
 intro W base args ds gs before hval0 hW _ _ hL _;have hval:∀ (j:Nat) t v,Tryz.f5.params[j]? =some t->args[j]? =some v->Value.okWide Tryz.prog W .any base t v:=hval0;have hW':=hW;obtain⟨p,q,hA0,hV0,rfl,hfz,hnd⟩:=hW;have hA:DataW.TrodAll enc Tryz.prog W 0 (fun _=>true) true Tryz.f5.params.toList args.toList ds p:=hA0;have hV:DataW.TrodVars enc Tryz.prog W (fun _=>true) [] gs q:=hV0;rw[Tryz.params5] at hA hval;have hlt:∀ x ∈ p,x.block<W.heap.size:=fun x hx=>hW'.lt x (by simp[hx])
 have hA1:=hA;obtain⟨v0,vs0,d0,ds0,p0,q0,hv0,hd0,hp0,h0,hr0⟩:=trodAll_cons hA1;obtain⟨v1,vs1,d1,ds1,p1,q1,hv1,hd1,hp1,h1,hr1⟩:=trodAll_cons hr0;obtain⟨v2,vs2,d2,ds2,p2,q2,hv2,hd2,hp2,h2,hr2⟩:=trodAll_cons hr1;obtain⟨v3,vs3,d3,ds3,p3,q3,hv3,hd3,hp3,h3,hr3⟩:=trodAll_cons hr2;obtain⟨hvn,hdn,_⟩:=trodAll_nil hr3;subst hvn;subst hdn;subst hv3;subst hd3;subst hv2;subst hd2;subst hv1;subst hd1;obtain rfl:args= #[v0,v1,v2,v3]:=Array.ext' hv0;subst hd0;clear hv0;obtain⟨rfl,rfl⟩:gs= []/\q= []:=by
  cases gs with
  | nil=>exact⟨rfl,hV⟩
  | cons g r=>exact absurd hV (by intro h;cases h)
 clear hA0 hval0;obtain⟨n0,rfl,hn0⟩:=Ve (hval 0 3 v0 rfl rfl) h0;obtain⟨l1,hl1,ho1⟩:=Vf (hval 1 22 v1 rfl rfl) h1;obtain⟨b2,e2,rfl,_⟩:=ab1 (hval 2 50 v2 rfl rfl) h2;obtain⟨P3,hP3⟩:=Vh (hval 3 30 v3 rfl rfl) h3;have hKA:=J7 hL;refine(Vo hKA n0 v1 l1 hl1 ho1 b2 e2 v3 P3 hP3).mono fun e W' ⟨he,hb⟩=>?_
 subst he;refine⟨_,rfl,_,_,_,[],p,[],hW',?_,?_,?_,hb.frame _,fun h=>by cases h⟩
 ·exact trodAll_mk1 (shut_bool Tryz.underlying4 true)
 ·exact J8 Tryz.laidOut hb (by kernel_rfl) hA hlt
 ·rfl
theorem kX:Rows.VaultRekeysAtomicallySaid:=
 OpenClaim.holds_of_wide 5 Tryz.f5 rfl rfl rfl rfl rfl rfl rfl ⟨rfl,rfl,rfl,rfl,rfl⟩ rfl rfl rfl rfl rfl (by kernel_rfl) Tryz.func5 (by kernel_rfl)
  (of_decide_eq_true (by kernel_rfl)) (by unfold Func.isWrapper;rw[if_neg (of_decide_eq_false (by kernel_rfl))];exact⟨rfl,rfl⟩)
  (fun os started H enc _=>iM os started H enc)
theorem vaultRekeysAtomically_holds:Rows.VaultRekeysAtomicallyCardSaid:=
 Claim7.holds_tied_plain_at .later [] [.data,.data,.data,.pinned] true (true, "af638b9934bddc7e7d1e45758cb1265001ec38fbf2b7c7bbb0f265a17b476702") false
  kX (fun _ h=>by cases h) (by kernel_rfl) (fun _ h=>by cases h) vaultRekeysAtomically_row_tie rfl ⟨rfl,rfl⟩ (by kernel_rfl) rfl
  (fun f fn hf hfn=>by
   obtain rfl:f=5:=Option.some.inj ((show Tryz.prog.funcNamed "custody/custodylaw26.VaultRekeysAtomically" =some 5 by kernel_rfl).symm.trans hf) |>.symm;obtain rfl:fn=Tryz.f5:=(Option.some.inj (Tryz.func5.symm.trans hfn)).symm;exact⟨by kernel_rfl,fun j t ht=>by
    rw[Tryz.params5] at ht;have hm:t ∈ [3,22,50,30]:=by simpa using Array.mem_of_getElem? ht
    have hall:([3,22,50,30].all fun u=> !Tryz.prog.wantsStandIn u)=true:=by kernel_rfl
    exact(show Tryz.prog.wantsStandIn t=false by simpa using List.all_eq_true.1 hall t hm)⟩)
  (by kernel_rfl)
#print axioms vaultRekeysAtomically_holds
end Go.Proofs.YtpghocekofdpbaaGreatDoor
