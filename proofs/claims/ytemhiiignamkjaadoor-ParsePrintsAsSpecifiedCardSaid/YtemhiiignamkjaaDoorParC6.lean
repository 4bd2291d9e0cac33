/-
  For every input, ParsePrintsAsSpecified of layer 12 returns true, and its arguments read afterwards as they read before; the listed variables are tied to the program's own text. No other condition.
-/
import Derived.Test.YtemhiiignamkjaaDoorMC
import Derived.Test.YtemhiiignamkjaaDoorMG
import Derived.Test.YtemhiiignamkjaaDoorCards
namespace Go.Proofs.YtemhiiignamkjaaDoor
open Go.ChangeShapes Go.WideShapes Go.ChangeAt Go.RowKit LexP ParP
open Go.ChangeMaps (open_string shut_string)

set_option maxRecDepth 100000 in
theorem parsePrintsAsSpecified_lifted (os : Os) (started : os.Started) (H : Type) (enc : TypeId × Value → H) :
    ReturnsInHanded {} Tryd.checked os 4 .any (fun w args => (Rows.parsePrintsAsSpecifiedSpec.pre enc Tryd.prog Tryd.f4 [] false w args ∧ laidMetH Tryd.prog laidP w) ∧ sizedMet enc Tryd.prog Tryd.f4 (OpenSpec.ofChange Rows.parsePrintsAsSpecifiedSpec) false w args)
      (Rows.parsePrintsAsSpecifiedSpec.post enc Tryd.prog Tryd.f4 false true false false) := by
  refine returnsInHanded_of_change_and (C := Tryd.checked) (X := fun w _ => laidMetH Tryd.prog laidP w) (fun _ _ _ hh h => h.of_heap hh) Tryd.own started (by kernel_rfl) Tryd.func4
    (ChangeSpec.witness_shaped (enc := enc) (C := Tryd.checked) (os := os) (X := fun w _ => laidMetH Tryd.prog laidP w) false (World.laidAll Tryd.prog os laidP) #[.agg #[.string ⟨#[]⟩, .slice none 0 0, .slice none 0 0, .slice none 0 0], .int .i64 0, .string ⟨#[]⟩] 8 (World.laidAll_os _ _ _)
      (World.shaped_of_ZipB (by kernel_rfl) (by kernel_rfl)) (by kernel_rfl) (by kernel_rfl) (by kernel_rfl) (laidP_met os _)) ?_
  intro W base args ds gs before hval0 hW _ _ hL _
  have hval : ∀ (j : Nat) t v, Tryd.f4.params[j]? = some t → args[j]? = some v → Value.okWide Tryd.prog W .any base t v := hval0
  have hW' := hW
  obtain ⟨p, q, hA0, hV0, rfl, hfz, hnd⟩ := hW
  have hA : DataW.TrodAll enc Tryd.prog W 0 (fun _ => true) true Tryd.f4.params.toList args.toList ds p := hA0
  have hV : DataW.TrodVars enc Tryd.prog W (fun _ => true) [] gs q := hV0
  rw [Tryd.params4] at hA hval
  have hlt : ∀ x ∈ p, x.block < W.heap.size := fun x hx => hW'.lt x (by simp [hx])
  have hA1 := hA
  obtain ⟨v0, vs0, d0, ds0, p0, q0, hv0, hd0, hp0, h0, hr0⟩ := trodAll_cons hA1
  obtain ⟨v1, vs1, d1, ds1, p1, q1, hv1, hd1, hp1, h1, hr1⟩ := trodAll_cons hr0
  obtain ⟨v2, vs2, d2, ds2, p2, q2, hv2, hd2, hp2, h2, hr2⟩ := trodAll_cons hr1
  obtain ⟨hvn, hdn, _⟩ := trodAll_nil hr2
  subst hvn
  subst hdn
  subst hv2
  subst hd2
  subst hv1
  subst hd1
  obtain rfl : args = #[v0, v1, v2] := Array.ext' hv0
  subst hd0
  clear hv0
  obtain ⟨rfl, rfl⟩ : gs = [] ∧ q = [] := by
    cases gs with
    | nil => exact ⟨rfl, hV⟩
    | cons g r => exact absurd hV (by intro h; cases h)
  clear hA0 hval0
  obtain ⟨hT, hP⟩ := tabs_laid hL
  obtain ⟨p0, hp0, hi0⟩ := open_policy (hval 0 27 v0 rfl rfl) h0
  obtain ⟨a1, rfl, ha1⟩ := open_num (hval 1 3 v1 rfl rfl) h1
  obtain ⟨s2, rfl, _, _, hs2⟩ := open_string Tryd.underlying9 (hval 2 9 v2 rfl rfl) h2
  refine (law_prints p0 v0 a1 s2 W hp0 hi0 ha1 hs2 hT hP).mono fun e W' ⟨he, hb⟩ => ?_
  subst he
  refine ⟨_, rfl, _, _, _, [], p, [], hW', ?_, ?_, ?_, hb.frame _, fun h => by cases h⟩
  · exact trodAll_mk1 (shut_bool Tryd.underlying4 true)
  · exact trodAll_belowP Tryd.laidOut hb (by kernel_rfl) hA hlt
  · rfl

theorem parsePrintsAsSpecified_row : Rows.ParsePrintsAsSpecifiedSaid :=
  OpenClaim.holds_of_wide 4 Tryd.f4 rfl rfl rfl rfl rfl rfl rfl ⟨rfl, rfl, rfl, rfl, rfl⟩ rfl rfl rfl rfl rfl (by kernel_rfl) Tryd.func4 (by kernel_rfl)
    (of_decide_eq_true (by kernel_rfl)) (by unfold Func.isWrapper; rw [if_neg (of_decide_eq_false (by kernel_rfl))]; exact ⟨rfl, rfl⟩)
    (fun os started H enc _ => parsePrintsAsSpecified_lifted os started H enc)

theorem parsePrintsAsSpecified_holds : Rows.ParsePrintsAsSpecifiedCardSaid :=
  Claim7.holds_tied_plain_at .later [] [.data, .data, .data, .data, .widerDeep, .widerDeep, .widerDeep] true (true, "bed374089f9d9ea1d70856d5b5c55379d7179a61ec8355f592a864ce660fe484") true
    parsePrintsAsSpecified_row (fun _ h => by cases h) (by kernel_rfl) (fun _ h => by cases h) parsePrintsAsSpecified_row_tie rfl ⟨rfl, rfl⟩ (by kernel_rfl) rfl
    (fun f fn hf hfn => by
      obtain rfl : f = 4 := Option.some.inj ((show Tryd.prog.funcNamed "custody/custodylaw12.ParsePrintsAsSpecified" = some 4 by kernel_rfl).symm.trans hf) |>.symm
      obtain rfl : fn = Tryd.f4 := (Option.some.inj (Tryd.func4.symm.trans hfn)).symm
      exact ⟨by kernel_rfl, fun j t ht => by
        rw [Tryd.params4] at ht
        have hm : t ∈ [27, 3, 9] := by simpa using Array.mem_of_getElem? ht
        have hall : ([27, 3, 9].all fun u => !Tryd.prog.wantsStandIn u) = true := by kernel_rfl
        exact (show Tryd.prog.wantsStandIn t = false by simpa using List.all_eq_true.1 hall t hm)⟩)
    (by kernel_rfl)
#print axioms parsePrintsAsSpecified_holds
end Go.Proofs.YtemhiiignamkjaaDoor
