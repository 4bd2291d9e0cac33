/-
  A region that draws its order, of which long parts have one order alone: such a part is walked as a list.
-/
import Derived.Deep.RegionHeld3
namespace Go.Proofs.YtldkfhimpkiigaaGreatDoor
namespace Seg

section
variable {P : Program} {ops : Array Oper} {Q : Exit → Act → World → Prop} {md : Region.Mode} {S : World → Prop}

/-- The first k of m have come up. -/
def front (k m : Nat) : Array Bool := ((List.range m).map fun j => decide (j < k)).toArray
theorem front_size (k m : Nat) : (front k m).size = m := by simp [front]
theorem front_get {k m j : Nat} (d : Bool) : (front k m).getD j d = if j < m then decide (j < k) else d := by
  unfold front
  by_cases h : j < m
  · simp [Array.getD, h]
  · simp [Array.getD, h]
theorem front_el {k m j : Nat} (h : j < (front k m).size) : (front k m)[j] = decide (j < k) := by simp [front]
theorem front_next {t m : Nat} : (front t m).setIfInBounds t true = front (t + 1) m := by
  refine Array.ext (by rw [Array.size_setIfInBounds, front_size, front_size]) fun j h1 h2 => ?_
  have hj : j < (front t m).size := by rw [front_size] at h2 ⊢; exact h2
  rw [Array.getElem_setIfInBounds hj, front_el, front_el]
  by_cases h : t = j
  · rw [if_pos h, decide_eq_true (by omega)]
  · rw [if_neg h]
    exact decide_eq_decide.2 ⟨fun _ => by omega, fun _ => by omega⟩
/-- From number i on n operations come up one by one. -/
def lone (md : Region.Mode) (ops : Array Oper) (i n : Nat) : Bool := decide (i + n ≤ ops.size) && (List.range ops.size).all fun j => decide (j < i) || match ops[j]? with
  | none => false
  | some o => bif decide (j < i + n) then (o.after.all fun e => !Region.binds md e || decide (e.on < j)) && (decide (j = i) || o.after.any fun e => Region.binds md e && decide (e.on + 1 = j))
    else o.after.any fun e => Region.binds md e && decide (i + n ≤ e.on + 1)
theorem lone_ready {i n : Nat} (h : lone md ops i n = true) {t : Nat} (h1 : i ≤ t) (h2 : t < i + n) : t ∈ Region.ready md ops (front t ops.size) ∧ ∀ j ∈ Region.ready md ops (front t ops.size), j = t := by
  unfold lone at h
  simp only [Bool.and_eq_true, decide_eq_true_eq, List.all_eq_true, List.mem_range, Bool.or_eq_true] at h
  obtain ⟨hs, h⟩ := h
  have get : ∀ j, j < ops.size → i ≤ j → ∃ o, ops[j]? = some o ∧ (j < i + n → (∀ e ∈ o.after, Region.binds md e = true → e.on < j) ∧ (j = i ∨ ∃ e ∈ o.after, Region.binds md e = true ∧ e.on + 1 = j)) ∧ (¬ j < i + n → ∃ e ∈ o.after, Region.binds md e = true ∧ i + n ≤ e.on + 1) := by
    intro j hj hij
    rcases h j hj with h | h
    · omega
    cases ho : ops[j]? with
    | none => rw [ho] at h; cases h
    | some o =>
      rw [ho] at h
      refine ⟨o, rfl, fun hlt => ?_, fun hlt => ?_⟩
      · simp only [decide_eq_true hlt, cond_true, Bool.and_eq_true, Bool.or_eq_true, decide_eq_true_eq] at h
        refine ⟨fun e he hb => ?_, h.2.imp id fun h3 => ?_⟩
        · have := Array.all_eq_true_iff_forall_mem.1 h.1 e he
          simpa [hb] using this
        · rw [← Array.any_toList, List.any_eq_true] at h3
          obtain ⟨e, he, hc⟩ := h3
          simp only [Bool.and_eq_true, decide_eq_true_eq] at hc
          exact ⟨e, Array.mem_toList_iff.1 he, hc.1, hc.2⟩
      · simp only [decide_eq_false hlt, cond_false] at h
        rw [← Array.any_toList, List.any_eq_true] at h
        obtain ⟨e, he, hc⟩ := h
        simp only [Bool.and_eq_true, decide_eq_true_eq] at hc
        exact ⟨e, Array.mem_toList_iff.1 he, hc.1, hc.2⟩
  refine ⟨mem_ready.2 ⟨?_, ?_⟩, fun j hj => ?_⟩
  · rw [front_get, if_pos (by omega)]; exact decide_eq_false (by omega)
  · obtain ⟨o, ho, h3, _⟩ := get t (by omega) h1
    refine ⟨o, ho, fun e he hb => ?_⟩
    have := (h3 h2).1 e he hb
    rw [front_get, if_pos (by omega)]; exact decide_eq_true this
  · obtain ⟨hun, o, ho, hall⟩ := mem_ready.1 hj
    have hjs : j < ops.size := (Array.getElem?_eq_some_iff.1 ho).1
    rw [front_get, if_pos hjs] at hun
    have hjt : ¬ j < t := of_decide_eq_false hun
    obtain ⟨o', ho', h3, h4⟩ := get j hjs (by omega)
    rw [ho] at ho'
    cases ho'
    have no : ∀ e ∈ o.after, Region.binds md e = true → e.on < t := fun e he hb => by
      have := hall e he hb
      rw [front_get] at this
      by_cases hm : e.on < ops.size
      · rw [if_pos hm] at this; exact of_decide_eq_true this
      · rw [if_neg hm] at this; cases this
    by_cases hlt : j < i + n
    · rcases (h3 hlt).2 with h5 | ⟨e, he, hb, h5⟩
      · omega
      · have := no e he hb
        omega
    · obtain ⟨e, he, hb, h5⟩ := h4 hlt
      have := no e he hb
      omega
/-- What follows a part. -/
def Next (P : Program) (md : Region.Mode) (ops : Array Oper) (Q : Exit → Act → World → Prop) (fuel : Nat) (listed : Array Bool) : Exit → Act → World → Prop
  | .normal, a, w => wpAny P md ops Q fuel listed a w
  | e, a, w => Q e a w
theorem Next.normal {fuel : Nat} {listed : Array Bool} {a : Act} {w : World} (h : wpAny P md ops Q fuel listed a w) : Next P md ops Q fuel listed .normal a w := h

theorem wp_next {o : Oper} {a : Act} {w : World} {K K' : Act → World → Prop} {Q Q' : Exit → Act → World → Prop} (hK : ∀ a w, K a w → K' a w)
    (hp : ∀ c a w, Q (.panic c) a w → Q' (.panic c) a w) (ho : LetsOut Q → LetsOut Q') (h : o.wp P a w K Q) : o.wp P a w K' Q' := by
  unfold Oper.wp at *
  generalize (execOp a.eval o).run P w = r at *
  cases r with
  | ok n w' =>
    cases n with
    | value v => exact hK _ _ h
    | skip => exact hK _ _ h
    | defer d => exact hK _ _ h
    | enter f args =>
      refine Calls.mono h fun e w'' he => ?_
      cases e with
      | returned v => exact hK _ _ he
      | panicked c => exact hp _ _ _ he
      | outgrown => exact ho he
    | row row args => exact Rows.mono h fun _ _ he => hK _ _ he
    | _ => exact h
  | halt x w' =>
    cases x <;> first | exact hp _ _ _ h | exact h

theorem run_list {i n : Nat} (hc : lone md ops i n = true) : ∀ (k t fuel : Nat) (a : Act) (w : World), i ≤ t → t + k = i + n →
    wpList P ops (Next P md ops Q fuel (front (t + k) ops.size)) ((ops.toList.drop t).take k) a w → wpAny P md ops Q (fuel + k) (front t ops.size) a w
  | 0, _, _, _, _, _, _, h => h
  | k + 1, t, fuel, a, w, h1, h2, h => by
    obtain ⟨hr, hrj⟩ := lone_ready hc h1 (by omega)
    refine ⟨fun h0 => (by rw [h0] at hr; cases hr), fun j hj => ?_⟩
    obtain rfl := hrj j hj
    have hlt : j < ops.size := by
      obtain ⟨o, ho, _⟩ := (mem_ready.1 hr).2
      exact (Array.getElem?_eq_some_iff.1 ho).1
    have hd : (ops.toList.drop j).take (k + 1) = ops[j] :: ((ops.toList.drop (j + 1)).take k) := by
      rw [List.drop_eq_getElem_cons (by simpa using hlt), List.take_succ_cons, Array.getElem_toList]
    have he : j + (k + 1) = j + 1 + k := by omega
    rw [hd, he] at h
    rw [front_next]
    unfold wpOp
    rw [Array.getElem?_eq_getElem hlt]
    dsimp only
    unfold wpList at h
    split
    · rename_i hw
      rw [if_pos hw] at h
      rcases h with h | ⟨ha, ho⟩
      · exact .inl (wp_next (fun a' w' h' => run_list hc k (j + 1) fuel a' w' (by omega) (by omega) h') (fun _ _ _ h' => h') (fun h' => h') h)
      · exact .inr ⟨ha, ho⟩
    · rename_i hw
      rw [if_neg hw] at h
      exact run_list hc k (j + 1) fuel _ _ (by omega) (by omega) h
/-- A part of n operations from number i on, as a list; what follows it stands behind a letter. -/
theorem run {i n fuel m F : Nat} {listed : Array Bool} {a : Act} {w : World} (hF : F = fuel + n) (hc : lone md ops i n = true) (hm : ops.size = m) (hl : listed = front i m)
    (h : ∀ Q' : Exit → Act → World → Prop, Shut (∀ a w, wpAny P md ops Q fuel (front (i + n) m) a w → Q' .normal a w) → wpList P ops Q' ((ops.toList.drop i).take n) a w) : wpAny P md ops Q F listed a w := by
  subst hF hm hl
  exact run_list hc n i fuel a w (Nat.le_refl _) rfl (h _ fun _ _ h => h)
/-- Two operations of which either may come first: number i reads alone, and reads the same behind number j. -/
theorem pair {i j fuel F : Nat} {oi oj : Oper} {v : Value} {listed listed2 : Array Bool} {a : Act} {w : World} (hF : F = fuel + 2) (hi : ops[i]? = some oi) (hj : ops[j]? = some oj)
    (hs : Region.noSelect ops = true) (hap : oi.apart ops oj = true) (hr : Region.ready md ops listed = [i, j]) (hri : Region.ready md ops (listed.setIfInBounds i true) = [j]) (hrj : Region.ready md ops (listed.setIfInBounds j true) = [i])
    (hm : (listed.setIfInBounds i true).setIfInBounds j true = listed2) (hij : j ≠ i)
    (hQ : ∀ c a w, Q (.panic c) (a.put oi.dst v) w → Q (.panic c) a w) (hy : YieldsIf P ops S oi v a) (hS : S w)
    (h : ∀ K' : Act → World → Prop, Shut (∀ a w, S w → wpAny P md ops Q fuel listed2 a w → K' a w) → if Region.wanted oj (yielded ops (a.put oi.dst v).tmps) = true then Oper.wp P oj (a.put oi.dst v) w K' Q else K' ((a.put oi.dst v).put oj.dst undef) w) :
    wpAny P md ops Q F listed a w := by
  subst hF hm
  have H : wpOp P ops Q j (fun a' w' => S w' ∧ wpAny P md ops Q fuel ((listed.setIfInBounds i true).setIfInBounds j true) a' w') (a.put oi.dst v) w :=
    wpOp_step hj fun K' hK => h K' fun a' w' h1 h2 => hK a' w' ⟨h1, h2⟩
  refine ⟨fun h0 => (by rw [hr] at h0; cases h0), fun k hk => ?_⟩
  rw [hr] at hk
  rcases List.mem_cons.1 hk with rfl | hk
  · refine hy.wpOp hi hS ⟨fun h0 => (by rw [hri] at h0; cases h0), fun k hk => ?_⟩
    rw [hri] at hk
    obtain rfl : k = j := by simpa using hk
    exact wpOp_mono (fun _ _ h => h.2) H
  · obtain rfl : k = j := by simpa using hk
    have h2 := wpOp_putIf hj hap (fun cs b => Region.noSelect_spec hs i oi cs b hi) (fun cs b => Region.noSelect_spec hs k oj cs b hj) hQ hy H
    refine wpOp_mono (fun a' w' h3 => ⟨fun h0 => (by rw [hrj] at h0; cases h0), fun k' hk' => ?_⟩) h2
    rw [hrj] at hk'
    obtain rfl : k' = i := by simpa using hk'
    refine h3.1.wpOp hi h3.2.1 ?_
    rw [Array.setIfInBounds_comm _ _ hij]
    exact h3.2.2
end
end Seg
end Go.Proofs.YtldkfhimpkiigaaGreatDoor
