/-
  For every input, ScriptParsesAsSpecified of layer 46 returns true, and its arguments read afterwards as they read before; the listed variables are tied to the program's own text. No other condition.
-/
import Derived.Test.YtldkfhimpkiigaaGreatDoorScrOpen
import Derived.Test.YtldkfhimpkiigaaGreatDoorScrW20
import Derived.Test.YtldkfhimpkiigaaGreatDoorScrL6
import Derived.Test.YtldkfhimpkiigaaGreatDoorCards
namespace Go.Proofs.YtldkfhimpkiigaaGreatDoor
open Go.ChangeShapes Go.WideShapes Go.ChangeAt Go.RowKit ScrP

set_option maxRecDepth 100000 in
theorem scriptParsesAsSpecified_lifted (os : Os) (started : os.Started) (H : Type) (enc : TypeId × Value → H) :
    ReturnsInHanded {} Tryz.checked os 4 .any (fun w args => (Rows.scriptParsesAsSpecifiedSpec.pre enc Tryz.prog Tryz.f4 [] false w args ∧ laidMetH Tryz.prog laidS w) ∧ sizedMet enc Tryz.prog Tryz.f4 (OpenSpec.ofChange Rows.scriptParsesAsSpecifiedSpec) false w args)
      (Rows.scriptParsesAsSpecifiedSpec.post enc Tryz.prog Tryz.f4 false true false false) := by
  refine change_and_shaped (C := Tryz.checked) (X := fun w _ => laidMetH Tryz.prog laidS w) (fun _ _ _ hh h => h.of_heap hh) Tryz.own started (by kernel_rfl) Tryz.func4
    (ChangeSpec.witness_shaped (enc := enc) (C := Tryz.checked) (os := os) (X := fun w _ => laidMetH Tryz.prog laidS w) false (World.laidAll Tryz.prog os laidS) #[.string ⟨#[]⟩] 8 (World.laidAll_os _ _ _)
      (World.shaped_of_ZipB (by kernel_rfl) (by kernel_rfl)) (by kernel_rfl) (by kernel_rfl) (by kernel_rfl) (laidS_met os _)) ?_
  intro W base args ds gs before hval0 hW hZ0 hL hSh
  have hval : ∀ (j : Nat) t v, Tryz.f4.params[j]? = some t → args[j]? = some v → Value.okWide Tryz.prog W .any base t v := hval0
  have hW' := hW
  obtain ⟨p, q, hA0, hV0, rfl, hfz, hnd⟩ := hW
  have hA : DataW.TrodAll enc Tryz.prog W 0 (fun _ => true) true Tryz.f4.params.toList args.toList ds p := hA0
  have hV : DataW.TrodVars enc Tryz.prog W (fun _ => true) [] gs q := hV0
  rw [Tryz.params4] at hA hval
  have hlt : ∀ x ∈ p, x.block < W.heap.size := fun x hx => hW'.lt x (by simp [hx])
  have hA1 := hA
  obtain ⟨v0, vs0, d0, ds0, p0, q0, hv0, hd0, hp0, h0, hr0⟩ := trodAll_cons hA1
  obtain ⟨hvn, hdn, _⟩ := trodAll_nil hr0
  subst hvn
  subst hdn
  obtain rfl : args = #[v0] := Array.ext' hv0
  subst hd0
  clear hv0
  obtain ⟨rfl, rfl⟩ : gs = [] ∧ q = [] := by
    cases gs with
    | nil => exact ⟨rfl, hV⟩
    | cons g r => exact absurd hV (by intro h; cases h)
  clear hA0 hval0
  rw [Tryz.params4] at hZ0
  have hZ : ∀ n ∈ DataW.weightsEach Tryz.prog [9] [d0], n ≤ reachBytes := fun n hn => of_decide_eq_true (List.all_eq_true.1 hZ0 n hn)
  obtain ⟨hK, hLi⟩ := lib_laid hL hSh
  have hSan : ∀ w, Below W.heap.size W w → Calls Tryz.prog 10 #[] w fun e w' => e = .returned (.bool true) ∧ Below w.heap.size w w' := fun w hb => sanity_any w (hK.below hb) (hLi.below hb)
  obtain ⟨s0, rfl, hs0⟩ := open_text (hval 0 9 v0 rfl rfl) h0 (each_small hZ (j := 0) rfl rfl)
  refine (parses_any s0 W hs0 hK hLi hSan).mono fun e W' ⟨he, hb⟩ => ?_
  subst he
  refine ⟨_, rfl, _, _, _, [], p, [], hW', ?_, ?_, ?_, hb.frame _, fun h => by cases h⟩
  · exact trodAll_mk1 (shut_bool Tryz.underlying4 true)
  · exact trodAll_belowP Tryz.laidOut hb (by kernel_rfl) hA hlt
  · rfl

theorem scriptParsesAsSpecified_row : Rows.ScriptParsesAsSpecifiedSaid :=
  OpenClaim.holds_of_wide 4 Tryz.f4 rfl rfl rfl rfl rfl rfl rfl ⟨rfl, rfl, rfl, rfl, rfl⟩ rfl rfl rfl rfl rfl (by kernel_rfl) Tryz.func4 (by kernel_rfl)
    (of_decide_eq_true (by kernel_rfl)) (by unfold Func.isWrapper; rw [if_neg (of_decide_eq_false (by kernel_rfl))]; exact ⟨rfl, rfl⟩)
    (fun os started H enc _ => scriptParsesAsSpecified_lifted os started H enc)

theorem scriptParsesAsSpecified_holds : Rows.ScriptParsesAsSpecifiedCardSaid :=
  Claim7.holds_tied_plain_at .later [] [.data, .data, .data, .data, .sentinel, .sentinel, .widerDeep, .pinned] true (true, "ad7c0275d3467059640af8eb64ab55470f2f14a834829cc045baf1bac781c333") true
    scriptParsesAsSpecified_row (fun _ h => by cases h) (by kernel_rfl) (fun _ h => by cases h) scriptParsesAsSpecified_row_tie rfl ⟨rfl, rfl⟩ (by kernel_rfl) rfl
    (fun f fn hf hfn => by
      obtain rfl : f = 4 := Option.some.inj ((show Tryz.prog.funcNamed "custody/custodylaw46.ScriptParsesAsSpecified" = some 4 by kernel_rfl).symm.trans hf) |>.symm
      obtain rfl : fn = Tryz.f4 := (Option.some.inj (Tryz.func4.symm.trans hfn)).symm
      exact ⟨by kernel_rfl, fun j t ht => by
        rw [Tryz.params4] at ht
        have hm : t ∈ [9] := by simpa using Array.mem_of_getElem? ht
        have hall : ([9].all fun u => !Tryz.prog.wantsStandIn u) = true := by kernel_rfl
        exact (show Tryz.prog.wantsStandIn t = false by simpa using List.all_eq_true.1 hall t hm)⟩)
    (by kernel_rfl)
#print axioms scriptParsesAsSpecified_holds
end Go.Proofs.YtldkfhimpkiigaaGreatDoor
