/-
  A region that draws its order, of which some operations stand in chains that go side by side: walked once an operation, with an invariant over how far each chain has come.
-/
import Derived.Deep.RegionHeld3
namespace Go.Proofs.YtldkfhimpkiigaaGreatDoor
namespace Chains

section
variable {P : Program} {ops : Array Oper} {Q : Exit → Act → World → Prop} {md : Region.Mode} {S : World → Prop}

/-- How far chains with these operations can have come. -/
def vecs : List (List Nat) → List (List Nat)
  | [] => [[]]
  | e :: E => (List.range (e.length + 1)).flatMap fun k => (vecs E).map (k :: ·)
/-- What has come up then. -/
def mark (E : List (List Nat)) (L0 : Array Bool) (s : List Nat) : Array Bool := (List.zip E s).foldl (fun L p => (p.1.take p.2).foldl (fun L i => L.setIfInBounds i true) L) L0
def next (E : List (List Nat)) (s : List Nat) (c : Nat) : Option Nat := (E[c]?).bind fun e => e[s.getD c 0]?
def more (s : List Nat) (c : Nat) : List Nat := s.set c (s.getD c 0 + 1)
def full (E : List (List Nat)) : List Nat := E.map List.length
def okAt (md : Region.Mode) (ops : Array Oper) (E : List (List Nat)) (L0 : Array Bool) (s : List Nat) : Bool :=
  if s.sum = (full E).sum then s == full E else
    ((Region.ready md ops (mark E L0 s)).all fun i => (List.range E.length).any fun c => (next E s c == some i) && ((vecs E).contains (more s c) && (((mark E L0 s).setIfInBounds i true == mark E L0 (more s c)) && ((more s c).sum == s.sum + 1)))) &&
    (!(Region.ready md ops (mark E L0 s)).isEmpty && decide (s.sum < (full E).sum))
def ok (md : Region.Mode) (ops : Array Oper) (E : List (List Nat)) (L0 : Array Bool) : Bool := (vecs E).all (okAt md ops E L0)

/-- The chains are walked: what the invariant says of a world that meets S; a step of chain c; behind all of them. -/
theorem walk {E : List (List Nat)} {L0 : Array Bool} (hc : ok md ops E L0 = true) (Inv : List Nat → Act → World → Prop) (fuel : Nat)
    (hS : ∀ s a w, Inv s a w → S w)
    (hstep : ∀ s a w c i, s ∈ vecs E → Inv s a w → next E s c = some i → (Region.ready md ops (mark E L0 s)).contains i = true → wpOp P ops Q i (fun a' w' => Inv (more s c) a' w') a w)
    (hend : ∀ a w, Inv (full E) a w → wpAnyH P md ops Q S fuel (mark E L0 (full E)) a w) :
    ∀ (n : Nat) (s : List Nat) (a : Act) (w : World), s ∈ vecs E → s.sum + n = (full E).sum → Inv s a w → wpAnyH P md ops Q S (fuel + n) (mark E L0 s) a w
  | 0, s, a, w, hs, hn, hI => by
    have h := List.all_eq_true.1 hc s hs
    unfold okAt at h
    rw [if_pos (by omega)] at h
    have h2 : s = full E := by simpa using h
    subst h2
    exact hend a w hI
  | n + 1, s, a, w, hs, hn, hI => by
    have h := List.all_eq_true.1 hc s hs
    unfold okAt at h
    rw [if_neg (by omega), Bool.and_eq_true, Bool.and_eq_true] at h
    obtain ⟨h1, h2, _⟩ := h
    refine ⟨fun h0 => ?_, fun i hi => ?_⟩
    · rw [h0] at h2; cases h2
    · have h3 := List.all_eq_true.1 h1 i hi
      rw [List.any_eq_true] at h3
      obtain ⟨c, _, h4⟩ := h3
      simp only [Bool.and_eq_true, beq_iff_eq] at h4
      obtain ⟨h5, h6, h7, h8⟩ := h4
      have h6 : more s c ∈ vecs E := by simpa using h6
      refine wpOp_mono (fun a' w' hI' => ⟨hS _ _ _ hI', ?_⟩) (hstep s a w c i hs hI h5 (by simpa using hi))
      rw [h7]
      exact walk hc Inv fuel hS hstep hend n (more s c) a' w' h6 (by omega) hI'
/-- Ahead of the chains. -/
theorem enter {E : List (List Nat)} (L0 : Array Bool) {L : Array Bool} {a : Act} {w : World} (hL : L = L0) (hc : ok md ops E L0 = true) (Inv : List Nat → Act → World → Prop) (fuel : Nat) {F : Nat} (s0 : List Nat) (hF : F = fuel + (full E).sum) (_h0 : (s0 == E.map fun _ => 0) = true) (hm : mark E L0 s0 = L0) (hv : (vecs E).contains s0 = true) (hz : s0.sum = 0)
    (hS : ∀ s a w, Inv s a w → S w)
    (hstep : ∀ s a w c i, s ∈ vecs E → Inv s a w → next E s c = some i → (Region.ready md ops (mark E L0 s)).contains i = true → wpOp P ops Q i (fun a' w' => Inv (more s c) a' w') a w)
    (hI : Inv s0 a w)
    (hend : ∀ a w, Inv (full E) a w → wpAnyH P md ops Q S fuel (mark E L0 (full E)) a w) : wpAnyH P md ops Q S F L a w := by
  subst hF hL
  have := walk hc Inv fuel hS hstep hend (full E).sum s0 a w (by simpa using hv) (by omega) hI
  rwa [hm] at this
/-- A frame that is as another one but in some slots. -/
structure Agree (ds : List Nat) (a0 a : Act) : Prop where
  size : a.tmps.size = a0.tmps.size
  defers : a.defers = a0.defers
  slot : ∀ t, t ∉ ds → a.tmps[t]? = a0.tmps[t]?
theorem Agree.refl (ds : List Nat) (a : Act) : Agree ds a a := ⟨rfl, rfl, fun _ _ => rfl⟩
theorem Agree.put {ds : List Nat} {a0 a : Act} {d : Nat} (h : Agree ds a0 a) (hd : ds.contains d = true) (v : Value) : Agree ds a0 (a.put (some d) v) := by
  refine ⟨by simp only [Act.put, Array.size_setIfInBounds]; exact h.size, h.defers, fun t ht => ?_⟩
  have hne : d ≠ t := fun e => ht (by rw [← e]; simpa using hd)
  show (a.tmps.setIfInBounds d v)[t]? = _
  rw [Array.getElem?_setIfInBounds_ne hne]
  exact h.slot t ht
theorem Agree.eval {ds : List Nat} {a0 a : Act} {t : Nat} (h : Agree ds a0 a) (ht : ds.contains t = false) : a.eval (.tmp t) = a0.eval (.tmp t) := by
  have := h.slot t (by simpa using ht)
  show a.tmps.getD t undef = a0.tmps.getD t undef
  rw [Array.getD_eq_getD_getElem?, Array.getD_eq_getD_getElem?, this]
/-- The frame written out. -/
theorem Agree.out : ∀ {ds : List Nat} {a0 a : Act}, Agree ds a0 a → a = ds.foldl (fun b d => b.put (some d) (a.eval (.tmp d))) a0
  | [], a0, a, h => by
    obtain ⟨t, f⟩ := a
    obtain ⟨t0, f0⟩ := a0
    have h1 : t = t0 := Array.ext_getElem? fun i => h.slot i (by simp)
    have h2 : f = f0 := h.defers
    rw [h1, h2]
    rfl
  | d :: ds, a0, a, h => by
    rw [List.foldl_cons]
    refine Agree.out (ds := ds) (a0 := a0.put (some d) (a.eval (.tmp d))) ⟨by simp only [Act.put, Array.size_setIfInBounds]; exact h.size, h.defers, fun t ht => ?_⟩
    show _ = (a0.tmps.setIfInBounds d _)[t]?
    by_cases e : d = t
    · subst e
      by_cases hd : d < a0.tmps.size
      · rw [Array.getElem?_setIfInBounds_self_of_lt hd]
        show _ = some (a.tmps.getD d undef)
        rw [Array.getD_eq_getD_getElem?, Array.getElem?_eq_getElem (by rw [h.size]; exact hd)]
        rfl
      · rw [Array.getElem?_eq_none (by rw [h.size]; omega), Array.getElem?_eq_none (by rw [Array.size_setIfInBounds]; omega)]
    · rw [Array.getElem?_setIfInBounds_ne e]
      exact h.slot t (by simp only [List.mem_cons, not_or]; exact ⟨fun h => e h.symm, ht⟩)
theorem eval_same {a0 a : Act} {ds : List Nat} (h : Agree ds a0 a) {d : Nat} (hd : d < a0.tmps.size) (v : Value) : (a.put (some d) v).eval (.tmp d) = v := by
  show (a.tmps.setIfInBounds d v).getD d undef = v
  rw [Array.getD_eq_getD_getElem?, Array.getElem?_setIfInBounds_self_of_lt (by rw [h.size]; exact hd)]
  rfl
theorem eval_other {a : Act} {d t : Nat} (hd : (d == t) = false) (v : Value) : (a.put (some d) v).eval (.tmp t) = a.eval (.tmp t) := by
  show (a.tmps.setIfInBounds d v).getD t undef = _
  rw [Array.getD_eq_getD_getElem?, Array.getElem?_setIfInBounds_ne (by simpa using hd), ← Array.getD_eq_getD_getElem?]
  rfl
/-- An operation without a guard that is carried out. -/
theorem step {i : Nat} {o : Oper} {K : Act → World → Prop} {a : Act} {w : World} (hi : ops[i]? = some o) (hg : o.guard = none) (h : o.wp P a w K Q) : wpOp P ops Q i K a w := by
  unfold wpOp
  rw [hi]
  dsimp only
  rw [if_pos (by simp [Region.wanted, hg])]
  exact .inl h
theorem value {o : Oper} {a : Act} {w w' : World} {v : Value} {K : Act → World → Prop} (h : (execOp a.eval o).run P w = .ok (.value v) w') (hk : K (a.put o.dst v) w') : o.wp P a w K Q := by
  unfold Oper.wp
  rw [h]
  exact hk
theorem skip {o : Oper} {a : Act} {w w' : World} {K : Act → World → Prop} (h : (execOp a.eval o).run P w = .ok .skip w') (hk : K (a.put o.dst undef) w') : o.wp P a w K Q := by
  unfold Oper.wp
  rw [h]
  exact hk
end
end Chains
end Go.Proofs.YtldkfhimpkiigaaGreatDoor
