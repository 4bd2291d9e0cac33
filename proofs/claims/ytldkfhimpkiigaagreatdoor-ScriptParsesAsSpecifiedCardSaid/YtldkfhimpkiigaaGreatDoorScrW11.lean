/-
  Layer 46 (script): a script under way in memory.
-/
import Derived.Test.YtldkfhimpkiigaaGreatDoorScrW10
import Derived.Test.YtldkfhimpkiigaaGreatDoorScrP4
namespace Go.Proofs.YtldkfhimpkiigaaGreatDoor
open Go.RowKit ScrP
attribute [local go_sem] Oper.semAt_some

/-- A script that is read: its box, its rows, the rows of its steps' arguments. -/
structure PSt (w : World) (B sb : Nat) (s : Scr) (vt vs : Value) (us : List Value) : Prop where
  blk : Blk w sb 25 #[vt, vs]
  txt : w.ownsRow B 9 1 vt s.texts.length (strsC s.texts)
  stp : w.ownsRow B 53 3 vs s.steps.length (stepsC s.steps us)
  ul : us.length = s.steps.length
  arg : ∀ (i : Nat) (x : Stp) (u : Value), s.steps[i]? = some x → us[i]? = some u → w.ownsRow B 3 1 u x.args.length (intsC x.args)
theorem own_set {w : World} {B g n c j : Nat} {e : TypeId} {k : Nat} {xs : List Value} (h : w.ownsRow B e k (.slice (some ⟨g, 0, none⟩) n c) n xs) (_hj : j < n * k) (u : Value) : (w.setCell ⟨g, j, none⟩ u).ownsRow B e k (.slice (some ⟨g, 0, none⟩) n c) n (xs.set j u) := by
  rcases h.2 with ⟨hv, _⟩ | ⟨g', cap, cur, hv, hb, hg, h1, h2, h3, h4⟩
  · cases hv
  · cases hv
    refine ⟨by rw [List.length_set]; exact h.1, .inr ⟨g, c, cur.setIfInBounds j u, rfl, hb, Blk.set_ hg j u, h1, h2, by simpa using h3, ?_⟩⟩
    rw [← h4, Array.toList_setIfInBounds, List.take_set]
section
variable {w w' : World} {B sb : Nat} {s : Scr} {vt vs : Value} {us : List Value}
theorem own_keepB {e : TypeId} {k n : Nat} {v : Value} {xs : List Value} (h : w.ownsRow B e k v n xs) (hb : Below w.heap.size w w') : w'.ownsRow B e k v n xs :=
  h.kept (grown_ofBelow hb none) (by cases v.ownBlock with | none => exact .inl rfl | some c => exact .inr (fun e => by cases e))
theorem PSt.below (h : PSt w B sb s vt vs us) (hb : Below w.heap.size w w') : PSt w' B sb s vt vs us :=
  ⟨h.blk.below hb h.blk.lt, own_keepB h.txt hb, own_keepB h.stp hb, h.ul, fun i x u hx hu => own_keepB (h.arg i x u hx hu) hb⟩
theorem setCell_grown (w : World) (g i : Nat) (u : Value) : w.grownBy (w.setCell ⟨g, i, none⟩ u) (some g) :=
  ⟨rfl, rfl, rfl, by rw [show (w.setCell ⟨g, i, none⟩ u).heap.size = w.heap.size by simp [World.setCell]]; exact Nat.le_refl _, fun j hj hne2 => Below.heap_setCell _ _ _ _ (fun e => hne2 (by rw [e]))⟩
/-- A store into a block of another kind than all rows'. -/
theorem PSt.other (h : PSt w B sb s vt vs us) {g : Nat} {t : TypeId} {cs : Array Value} (hg : Blk w g t cs) (h1 : 9 ≠ t) (h2 : 53 ≠ t) (h3 : 3 ≠ t) (hne : g ≠ sb) (i : Nat) (u : Value) : PSt (w.setCell ⟨g, i, none⟩ u) B sb s vt vs us :=
  ⟨h.blk.other (a := ⟨g, i, none⟩) (Ne.symm hne) u, h.txt.kept (setCell_grown w g i u) (.inr (own_blk_ne h.txt hg h1)), h.stp.kept (setCell_grown w g i u) (.inr (own_blk_ne h.stp hg h2)), h.ul,
   fun j x v hx hv => (h.arg j x v hx hv).kept (setCell_grown w g i u) (.inr (own_blk_ne (h.arg j x v hx hv) hg h3))⟩
/-- A new row of texts, its slice stored. -/
theorem PSt.texts (h : PSt w B sb s vt vs us) {ts : List ByteArray} {v' : Value} (hG : w.grownBy w' vt.ownBlock) (hrow : w'.ownsRow B 9 1 v' ts.length (strsC ts)) : PSt (w'.setCell ⟨sb, 0, none⟩ v') B sb ⟨ts, s.steps⟩ v' vs us := by
  have hb : Blk w' sb 25 #[vt, vs] := h.blk.grown hG (Ne.symm (own_blk_ne h.txt h.blk (by decide)))
  have hs := h.stp.kept hG (own_own_ne h.stp h.txt (by decide))
  refine ⟨hb.set_ 0 _, hrow.kept (setCell_grown w' sb 0 v') (.inr (own_blk_ne hrow hb (by decide))), hs.kept (setCell_grown w' sb 0 v') (.inr (own_blk_ne hs hb (by decide))), h.ul, fun j x v hx hv => ?_⟩
  have ha := (h.arg j x v hx hv).kept hG (own_own_ne (h.arg j x v hx hv) h.txt (by decide))
  exact ha.kept (setCell_grown w' sb 0 v') (.inr (own_blk_ne ha hb (by decide)))
theorem stepsC_snoc : ∀ (xs : List Stp) (us : List Value) (x : Stp) (u : Value), us.length = xs.length → stepsC (xs ++ [x]) (us ++ [u]) = stepsC xs us ++ [.int .i64 x.kind, u, .string x.text] := by
  intro xs us x u h
  unfold stepsC
  rw [List.zip_append h.symm, List.flatMap_append]
  rfl
/-- A new row of steps, its slice stored. -/
theorem PSt.steps (h : PSt w B sb s vt vs us) {x : Stp} {u v' : Value} (hu : w.ownsRow B 3 1 u x.args.length (intsC x.args)) (hG : w.grownBy w' vs.ownBlock) (hrow : w'.ownsRow B 53 3 v' (s.steps.length + 1) (stepsC s.steps us ++ [.int .i64 x.kind, u, .string x.text])) :
    PSt (w'.setCell ⟨sb, 1, none⟩ v') B sb ⟨s.texts, s.steps ++ [x]⟩ vt v' (us ++ [u]) := by
  have hb : Blk w' sb 25 #[vt, vs] := h.blk.grown hG (Ne.symm (own_blk_ne h.stp h.blk (by decide)))
  have ht := h.txt.kept hG (own_own_ne h.txt h.stp (by decide))
  refine ⟨hb.set_ 1 _, ht.kept (setCell_grown w' sb 1 v') (.inr (own_blk_ne ht hb (by decide))), ?_, by rw [List.length_append, List.length_append, h.ul]; rfl, fun j y v hy hv => ?_⟩
  · show (w'.setCell ⟨sb, 1, none⟩ v').ownsRow B 53 3 v' (s.steps ++ [x]).length (stepsC (s.steps ++ [x]) (us ++ [u]))
    rw [stepsC_snoc _ _ _ _ h.ul, List.length_append, List.length_singleton]
    exact hrow.kept (setCell_grown w' sb 1 v') (.inr (own_blk_ne hrow hb (by decide)))
  · have hk : w.ownsRow B 3 1 v y.args.length (intsC y.args) := by
      have hy : (s.steps ++ [x])[j]? = some y := hy
      by_cases hj : j < s.steps.length
      · rw [List.getElem?_append_left hj] at hy
        rw [List.getElem?_append_left (by rw [h.ul]; exact hj)] at hv
        exact h.arg j y v hy hv
      · rw [List.getElem?_append_right (by omega)] at hy
        rw [List.getElem?_append_right (by rw [h.ul]; omega), h.ul] at hv
        have e0 : j - s.steps.length = 0 := by
          have := (List.getElem?_eq_some_iff.1 hy).1
          simp at this
          omega
        rw [e0] at hy hv
        cases hy
        cases hv
        exact hu
    have ha := hk.kept hG (own_own_ne hk h.stp (by decide))
    exact ha.kept (setCell_grown w' sb 1 v') (.inr (own_blk_ne ha hb (by decide)))
/-- The last text is set anew. -/
theorem PSt.last (h : PSt w B sb s vt vs us) {ts : List ByteArray} {t t' : ByteArray} {g c : Nat} (hs : s.texts = ts ++ [t]) (hv : vt = .slice (some ⟨g, 0, none⟩) s.texts.length c) : PSt (w.setCell ⟨g, ts.length, none⟩ (.string t')) B sb ⟨ts ++ [t'], s.steps⟩ vt vs us := by
  have hl : s.texts.length = ts.length + 1 := by rw [hs, List.length_append]; rfl
  have hob : vt.ownBlock = some g := by rw [hv]; rfl
  have hG := setCell_grown w g ts.length (.string t')
  obtain ⟨g2, c2, cur, hv2, hB2, hb2, _⟩ := own_form h.txt (by omega)
  have hgg : g2 = g := by rw [hv] at hv2; cases hv2; rfl
  subst hgg
  have hne : sb ≠ g2 := fun e => by
    have := h.blk
    rw [e] at this
    exact Blk.ne_ this hb2 (by decide) rfl
  refine ⟨h.blk.other (a := ⟨g2, ts.length, none⟩) hne _, ?_, h.stp.kept hG (by rw [← hob]; exact own_own_ne h.stp h.txt (by decide)), h.ul, fun j x v hx hv => (h.arg j x v hx hv).kept hG (by rw [← hob]; exact own_own_ne (h.arg j x v hx hv) h.txt (by decide))⟩
  have ht := h.txt
  rw [hv] at ht ⊢
  have hset := own_set ht (j := ts.length) (by omega) (.string t')
  show (w.setCell ⟨g2, ts.length, none⟩ (.string t')).ownsRow B 9 1 (.slice (some ⟨g2, 0, none⟩) s.texts.length c) (ts ++ [t']).length (strsC (ts ++ [t']))
  have e1 : (ts ++ [t']).length = s.texts.length := by rw [hl, List.length_append]; rfl
  have e2 : strsC (ts ++ [t']) = (strsC s.texts).set ts.length (.string t') := by
    rw [hs]
    unfold strsC
    rw [List.map_append, List.map_append]
    have : ts.length = (ts.map Value.string).length := by rw [List.length_map]
    rw [this, List.set_append_right _ _ (Nat.le_refl _)]
    simp
  rw [e1, e2]
  exact hset
/-- The cell of the last text. -/
theorem PSt.lastCell (h : PSt w B sb s vt vs us) {ts : List ByteArray} {t : ByteArray} (hs : s.texts = ts ++ [t]) : ∃ g c, vt = .slice (some ⟨g, 0, none⟩) s.texts.length c ∧ B ≤ g ∧ g < w.heap.size ∧ w.cell? ⟨g, ts.length, none⟩ = some (.string t) ∧ w.frozen? ⟨g, ts.length, none⟩ = false := by
  have hl : s.texts.length = ts.length + 1 := by rw [hs, List.length_append]; rfl
  obtain ⟨g, c, cur, hv, hB, hb, _⟩ := own_form h.txt (by omega)
  refine ⟨g, c, hv, hB, hb.lt, ?_, hb.frozen _⟩
  have ht := h.txt
  rw [hv] at ht
  have := ht.cells (g := g) rfl ts.length (.string t) (by rw [hs]; unfold strsC; rw [List.map_append, List.getElem?_append_right (by rw [List.length_map]; exact Nat.le_refl _), List.length_map, Nat.sub_self]; rfl)
  rwa [Addr.add_lit, Nat.zero_add] at this
/-- What was read lies as a script. -/
theorem PSt.scr (h : PSt w B sb s vt vs us) : ScrAt w w.heap.size (.agg #[vt, vs]) s :=
  ⟨vt, vs, rfl, rowAt_own h.txt, us, h.ul, rowAt_own h.stp, fun i x u hx hu => rowAt_own (h.arg i x u hx hu)⟩
end
end Go.Proofs.YtldkfhimpkiigaaGreatDoor
