/-
  For every input, ScriptMatchesSpec of layer 46 returns true, and its arguments read afterwards as they read before; the listed variables are tied to the program's own text. No other condition.
-/
import Derived.Test.YtldkfhimpkiigaaGreatDoorScrOpen
import Derived.Test.YtldkfhimpkiigaaGreatDoorScrW20
import Derived.Test.YtldkfhimpkiigaaGreatDoorScrL5
import Derived.Test.YtldkfhimpkiigaaGreatDoorCards
namespace Go.Proofs.YtldkfhimpkiigaaGreatDoor
open Go.ChangeShapes Go.WideShapes Go.ChangeAt Go.RowKit ScrP

set_option maxRecDepth 100000 in
theorem scriptMatchesSpec_lifted (os : Os) (started : os.Started) (H : Type) (enc : TypeId × Value → H) :
    ReturnsInHanded {} Tryz.checked os 3 .any (fun w args => (Rows.scriptMatchesSpecSpec.pre enc Tryz.prog Tryz.f3 [] false w args ∧ laidMetH Tryz.prog laidS w) ∧ sizedMet enc Tryz.prog Tryz.f3 (OpenSpec.ofChange Rows.scriptMatchesSpecSpec) false w args)
      (Rows.scriptMatchesSpecSpec.post enc Tryz.prog Tryz.f3 false true false false) := by
  refine change_and_shaped (C := Tryz.checked) (X := fun w _ => laidMetH Tryz.prog laidS w) (fun _ _ _ hh h => h.of_heap hh) Tryz.own started (by kernel_rfl) Tryz.func3
    (ChangeSpec.witness_shaped (enc := enc) (C := Tryz.checked) (os := os) (X := fun w _ => laidMetH Tryz.prog laidS w) false (World.laidAll Tryz.prog os laidS) #[.agg #[.slice none 0 0, .slice none 0 0], .agg #[.slice none 0 0, .slice none 0 0], .int .i64 0, .string ⟨#[]⟩, .string ⟨#[]⟩] 8 (World.laidAll_os _ _ _)
      (World.shaped_of_ZipB (by kernel_rfl) (by kernel_rfl)) (by kernel_rfl) (by kernel_rfl) (by kernel_rfl) (laidS_met os _)) ?_
  intro W base args ds gs before hval0 hW hZ0 hL hSh
  have hval : ∀ (j : Nat) t v, Tryz.f3.params[j]? = some t → args[j]? = some v → Value.okWide Tryz.prog W .any base t v := hval0
  have hW' := hW
  obtain ⟨p, q, hA0, hV0, rfl, hfz, hnd⟩ := hW
  have hA : DataW.TrodAll enc Tryz.prog W 0 (fun _ => true) true Tryz.f3.params.toList args.toList ds p := hA0
  have hV : DataW.TrodVars enc Tryz.prog W (fun _ => true) [] gs q := hV0
  rw [Tryz.params3] at hA hval
  have hlt : ∀ x ∈ p, x.block < W.heap.size := fun x hx => hW'.lt x (by simp [hx])
  have hA1 := hA
  obtain ⟨v0, vs0, d0, ds0, p0, q0, hv0, hd0, hp0, h0, hr0⟩ := trodAll_cons hA1
  obtain ⟨v1, vs1, d1, ds1, p1, q1, hv1, hd1, hp1, h1, hr1⟩ := trodAll_cons hr0
  obtain ⟨v2, vs2, d2, ds2, p2, q2, hv2, hd2, hp2, h2, hr2⟩ := trodAll_cons hr1
  obtain ⟨v3, vs3, d3, ds3, p3, q3, hv3, hd3, hp3, h3, hr3⟩ := trodAll_cons hr2
  obtain ⟨v4, vs4, d4, ds4, p4, q4, hv4, hd4, hp4, h4, hr4⟩ := trodAll_cons hr3
  obtain ⟨hvn, hdn, _⟩ := trodAll_nil hr4
  subst hvn
  subst hdn
  subst hv4
  subst hd4
  subst hv3
  subst hd3
  subst hv2
  subst hd2
  subst hv1
  subst hd1
  obtain rfl : args = #[v0, v1, v2, v3, v4] := Array.ext' hv0
  subst hd0
  clear hv0
  obtain ⟨rfl, rfl⟩ : gs = [] ∧ q = [] := by
    cases gs with
    | nil => exact ⟨rfl, hV⟩
    | cons g r => exact absurd hV (by intro h; cases h)
  clear hA0 hval0
  rw [Tryz.params3] at hZ0
  have hZ : ∀ n ∈ DataW.weightsEach Tryz.prog [25, 25, 3, 9, 9] [d0, d1, d2, d3, d4], n ≤ reachBytes := fun n hn => of_decide_eq_true (List.all_eq_true.1 hZ0 n hn)
  obtain ⟨hK, hLi⟩ := lib_laid hL hSh
  have hSan : ∀ w, Below W.heap.size W w → Calls Tryz.prog 10 #[] w fun e w' => e = .returned (.bool true) ∧ Below w.heap.size w w' := fun w hb => sanity_any w (hK.below hb) (hLi.below hb)
  obtain ⟨p0, hp0, hi0⟩ := open_script (hval 0 25 v0 rfl rfl) h0 (each_small hZ (j := 0) rfl rfl)
  obtain ⟨p1, hp1, hi1⟩ := open_script (hval 1 25 v1 rfl rfl) h1 (each_small hZ (j := 1) rfl rfl)
  obtain ⟨a2, rfl, ha2⟩ := open_num (hval 2 3 v2 rfl rfl) h2
  obtain ⟨s3, rfl, hs3⟩ := open_text (hval 3 9 v3 rfl rfl) h3 (each_small hZ (j := 3) rfl rfl)
  obtain ⟨s4, rfl, hs4⟩ := open_text (hval 4 9 v4 rfl rfl) h4 (each_small hZ (j := 4) rfl rfl)
  refine (matches_any p0 p1 v0 v1 a2 s3 s4 W.heap.size W hp0 hp1 (Nat.le_refl _) hi0 hi1 ha2 hs3 hs4 hK hLi hSan).mono fun e W' ⟨he, hb⟩ => ?_
  subst he
  refine ⟨_, rfl, _, _, _, [], p, [], hW', ?_, ?_, ?_, hb.frame _, fun h => by cases h⟩
  · exact trodAll_mk1 (shut_bool Tryz.underlying4 true)
  · exact trodAll_belowP Tryz.laidOut hb (by kernel_rfl) hA hlt
  · rfl

theorem scriptMatchesSpec_row : Rows.ScriptMatchesSpecSaid :=
  OpenClaim.holds_of_wide 3 Tryz.f3 rfl rfl rfl rfl rfl rfl rfl ⟨rfl, rfl, rfl, rfl, rfl⟩ rfl rfl rfl rfl rfl (by kernel_rfl) Tryz.func3 (by kernel_rfl)
    (of_decide_eq_true (by kernel_rfl)) (by unfold Func.isWrapper; rw [if_neg (of_decide_eq_false (by kernel_rfl))]; exact ⟨rfl, rfl⟩)
    (fun os started H enc _ => scriptMatchesSpec_lifted os started H enc)

theorem scriptMatchesSpec_holds : Rows.ScriptMatchesSpecCardSaid :=
  Claim7.holds_tied_plain_at .later [] [.data, .data, .data, .data, .sentinel, .sentinel, .widerDeep, .pinned] true (true, "ad7c0275d3467059640af8eb64ab55470f2f14a834829cc045baf1bac781c333") true
    scriptMatchesSpec_row (fun _ h => by cases h) (by kernel_rfl) (fun _ h => by cases h) scriptMatchesSpec_row_tie rfl ⟨rfl, rfl⟩ (by kernel_rfl) rfl
    (fun f fn hf hfn => by
      obtain rfl : f = 3 := Option.some.inj ((show Tryz.prog.funcNamed "custody/custodylaw46.ScriptMatchesSpec" = some 3 by kernel_rfl).symm.trans hf) |>.symm
      obtain rfl : fn = Tryz.f3 := (Option.some.inj (Tryz.func3.symm.trans hfn)).symm
      exact ⟨by kernel_rfl, fun j t ht => by
        rw [Tryz.params3] at ht
        have hm : t ∈ [25, 25, 3, 9, 9] := by simpa using Array.mem_of_getElem? ht
        have hall : ([25, 25, 3, 9, 9].all fun u => !Tryz.prog.wantsStandIn u) = true := by kernel_rfl
        exact (show Tryz.prog.wantsStandIn t = false by simpa using List.all_eq_true.1 hall t hm)⟩)
    (by kernel_rfl)
#print axioms scriptMatchesSpec_holds
end Go.Proofs.YtldkfhimpkiigaaGreatDoor
