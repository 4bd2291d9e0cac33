/-
  A region that draws its order, walked as a list: of its operations each comes up alone, or is a move that nothing turns.
-/
import Derived.Test.YtldkfhimpkiigaaGreatDoorRegionSeg
namespace Go.Proofs.YtldkfhimpkiigaaGreatDoor
namespace Seg

section
variable {P : Program} {ops : Array Oper} {Q : Exit → Act → World → Prop} {md : Region.Mode} {S : World → Prop}

def isMove (o : Oper) : Bool := match o.op with
  | .move _ => true
  | _ => false
/-- From number i on n operations come up one by one, or are moves that nobody behind them touches. -/
def loneM (md : Region.Mode) (ops : Array Oper) (i n : Nat) : Bool := decide (i + n ≤ ops.size) && (List.range n).all fun d => match ops[i + d]? with
  | none => false
  | some o => (o.after.all fun e => !Region.binds md e || decide (e.on < i + d)) &&
    (((List.range ops.size).all fun j => decide (j ≤ i + d) || match ops[j]? with
      | none => false
      | some oj => oj.after.any fun e => Region.binds md e && decide (i + d ≤ e.on)) ||
     (isMove o && (List.range ops.size).all fun j => decide (j ≤ i + d) || match ops[j]? with
      | none => false
      | some oj => (oj.after.any fun e => Region.binds md e && e.on == i + d) || o.apart ops oj))
theorem front_ready {t : Nat} {o : Oper} (ho : ops[t]? = some o) (h : (o.after.all fun e => !Region.binds md e || decide (e.on < t)) = true) : t ∈ Region.ready md ops (front t ops.size) := by
  have hlt := (Array.getElem?_eq_some_iff.1 ho).1
  refine mem_ready.2 ⟨?_, o, ho, fun e he hb => ?_⟩
  · rw [front_get, if_pos hlt]; exact decide_eq_false (by omega)
  · have := Array.all_eq_true_iff_forall_mem.1 h e he
    have : e.on < t := by simpa [hb] using this
    rw [front_get, if_pos (by omega)]; exact decide_eq_true this
theorem loneM_spec {i n : Nat} (h : loneM md ops i n = true) {t : Nat} (h1 : i ≤ t) (h2 : t < i + n) : ∃ o, ops[t]? = some o ∧ t ∈ Region.ready md ops (front t ops.size) ∧
    ((∀ j ∈ Region.ready md ops (front t ops.size), j = t) ∨ (isMove o = true ∧ ∀ (j : Nat) (oj : Oper), ops[j]? = some oj → j ≠ t → (front t ops.size).getD j true = false → (∀ e ∈ oj.after, Region.binds md e = true → e.on ≠ t) → o.apart ops oj = true)) := by
  unfold loneM at h
  simp only [Bool.and_eq_true, decide_eq_true_eq, List.all_eq_true, List.mem_range] at h
  obtain ⟨hs, h⟩ := h
  have h3 := h (t - i) (by omega)
  rw [show i + (t - i) = t by omega] at h3
  have hlt : t < ops.size := by omega
  rw [Array.getElem?_eq_getElem hlt] at h3 ⊢
  simp only [Bool.and_eq_true, Bool.or_eq_true, List.all_eq_true, List.mem_range, decide_eq_true_eq] at h3
  obtain ⟨h4, h5⟩ := h3
  refine ⟨_, rfl, front_ready (Array.getElem?_eq_getElem hlt) h4, h5.imp (fun h6 j hj => ?_) (fun h6 => ⟨h6.1, fun j oj hoj hne hun hno => ?_⟩)⟩
  · obtain ⟨hun, o, ho, hall⟩ := mem_ready.1 hj
    have hjs : j < ops.size := (Array.getElem?_eq_some_iff.1 ho).1
    rw [front_get, if_pos hjs] at hun
    have hjt : ¬ j < t := of_decide_eq_false hun
    rcases h6 j hjs with h7 | h7
    · omega
    · rw [ho] at h7
      dsimp only at h7
      rw [← Array.any_toList, List.any_eq_true] at h7
      obtain ⟨e, he, hc⟩ := h7
      simp only [Bool.and_eq_true, decide_eq_true_eq] at hc
      have h8 := hall e (Array.mem_toList_iff.1 he) hc.1
      rw [front_get] at h8
      by_cases hm : e.on < ops.size
      · rw [if_pos hm] at h8
        have := of_decide_eq_true h8
        omega
      · rw [if_neg hm] at h8; cases h8
  · have hjs : j < ops.size := (Array.getElem?_eq_some_iff.1 hoj).1
    rw [front_get, if_pos hjs] at hun
    have hjt : ¬ j < t := of_decide_eq_false hun
    rcases h6.2 j hjs with h7 | h7
    · omega
    · rw [hoj] at h7
      dsimp only at h7
      simp only [Bool.or_eq_true] at h7
      rcases h7 with h7 | h7
      · rw [← Array.any_toList, List.any_eq_true] at h7
        obtain ⟨e, he, hc⟩ := h7
        simp only [Bool.and_eq_true, beq_iff_eq] at hc
        exact absurd hc.2 (hno e (Array.mem_toList_iff.1 he) hc.1)
      · exact h7
/-- What follows a part; no panic, no end for want of room. -/
def Next0 (P : Program) (md : Region.Mode) (ops : Array Oper) (Q : Exit → Act → World → Prop) (fuel : Nat) (listed : Array Bool) : Exit → Act → World → Prop
  | .normal, a, w => wpAny P md ops Q fuel listed a w
  | _, _, _ => False
theorem next0_out {fuel : Nat} {listed : Array Bool} (h : LetsOut (Next0 P md ops Q fuel listed)) : False := by
  obtain ⟨_, _, h⟩ := h
  exact h
theorem move_run {P : Program} {o : Oper} {a : Act} {w : World} (h : isMove o = true) : ∃ x, (execOp a.eval o).run P w = .ok (.value (a.eval x)) w ∧ ∀ w', (execOp a.eval o).run P w' = .ok (.value (a.eval x)) w' := by
  unfold isMove at h
  split at h
  · rename_i x hx
    exact ⟨x, by unfold execOp; rw [hx]; rfl, fun w' => by unfold execOp; rw [hx]; rfl⟩
  · cases h
theorem put_panic (hQ : ∀ c a d v w, Q (.panic c) (Act.put a (some d) v) w → Q (.panic c) a w) {dst : Option Tmp} {v : Value} : ∀ c a w, Q (.panic c) (Act.put a dst v) w → Q (.panic c) a w := fun c a w h => by
  cases dst with
  | none => exact h
  | some d => exact hQ c a d v w h
theorem runM_list {i n : Nat} (hc : loneM md ops i n = true) (hs : Region.noSelect ops = true) (hQ : ∀ c a d v w, Q (.panic c) (Act.put a (some d) v) w → Q (.panic c) a w) : ∀ (k t fuel : Nat) (a : Act) (w : World), i ≤ t → t + k = i + n →
    wpList P ops (Next0 P md ops Q fuel (front (t + k) ops.size)) ((ops.toList.drop t).take k) a w → wpAny P md ops Q (fuel + k) (front t ops.size) a w
  | 0, _, _, _, _, _, _, h => h
  | k + 1, t, fuel, a, w, h1, h2, h => by
    obtain ⟨o, ho, hr, hrj⟩ := loneM_spec hc h1 (by omega)
    have hlt : t < ops.size := (Array.getElem?_eq_some_iff.1 ho).1
    have hd : (ops.toList.drop t).take (k + 1) = o :: ((ops.toList.drop (t + 1)).take k) := by
      have : ops.toList[t]'(by simpa using hlt) = o := by rw [Array.getElem_toList]; exact Option.some.inj ((Array.getElem?_eq_getElem hlt).symm.trans ho)
      rw [List.drop_eq_getElem_cons (by simpa using hlt), List.take_succ_cons, this]
    have he : t + (k + 1) = t + 1 + k := by omega
    rw [hd, he] at h
    rcases hrj with hone | ⟨hmove, hfree⟩
    · refine ⟨fun h0 => (by rw [h0] at hr; cases hr), fun j hj => ?_⟩
      obtain rfl := hone j hj
      rw [front_next]
      unfold wpOp
      rw [ho]
      dsimp only
      unfold wpList at h
      split
      · rename_i hw
        rw [if_pos hw] at h
        rcases h with h | ⟨_, hout⟩
        · exact .inl (wp_next (fun a' w' h' => runM_list hc hs hQ k (j + 1) fuel a' w' (by omega) (by omega) h') (fun _ _ _ h' => h'.elim) (fun h' => (next0_out h').elim) h)
        · exact (next0_out hout).elim
      · rename_i hw
        rw [if_neg hw] at h
        exact runM_list hc hs hQ k (j + 1) fuel _ _ (by omega) (by omega) h
    · unfold wpList at h
      by_cases hw : Region.wanted o (yielded ops a.tmps) = true
      · rw [if_pos hw] at h
        obtain ⟨x, hx, hall⟩ := move_run (P := P) (a := a) (w := w) hmove
        rcases h with h | ⟨_, hout⟩
        · unfold Oper.wp at h
          rw [hx] at h
          refine wpAny_first ho (Region.noSelect_spec hs) (put_panic hQ) (fuel + k) _ a w hfree hr (.inl ⟨hw, hall⟩) ?_
          rw [front_next]
          exact runM_list hc hs hQ k (t + 1) fuel _ _ (by omega) (by omega) h
        · exact (next0_out hout).elim
      · have hw' : Region.wanted o (yielded ops a.tmps) = false := by simpa using hw
        rw [if_neg hw] at h
        refine wpAny_first ho (Region.noSelect_spec hs) (put_panic hQ) (fuel + k) _ a w hfree hr (.inr ⟨hw', rfl⟩) ?_
        rw [front_next]
        exact runM_list hc hs hQ k (t + 1) fuel _ _ (by omega) (by omega) h
/-- A part of n operations from number i on, as a list; what follows it stands behind a letter. -/
theorem runM {i n fuel m F : Nat} {listed : Array Bool} {a : Act} {w : World} (hF : F = fuel + n) (hc : loneM md ops i n = true) (hs : Region.noSelect ops = true) (hQ : ∀ c a d v w, Q (.panic c) (Act.put a (some d) v) w → Q (.panic c) a w) (hm : ops.size = m) (hl : listed = front i m)
    (h : ∀ Q' : Exit → Act → World → Prop, Shut (∀ a w, wpAny P md ops Q fuel (front (i + n) m) a w → Q' .normal a w) → wpList P ops Q' ((ops.toList.drop i).take n) a w) : wpAny P md ops Q F listed a w := by
  subst hF hm hl
  exact runM_list hc hs hQ n i fuel a w (Nat.le_refl _) rfl (h _ fun _ _ h => h)
/-- Two operations of which either may come first: number i reads alone, and reads the same behind number j; numbers in whatever order. -/
theorem pairM {i j fuel F : Nat} {oi oj : Oper} {v : Value} {listed listed2 : Array Bool} {a : Act} {w : World} (hF : F = fuel + 2) (hi : ops[i]? = some oi) (hj : ops[j]? = some oj)
    (hs : Region.noSelect ops = true) (hap : oi.apart ops oj = true) (hr : Region.ready md ops listed = [j, i]) (hri : Region.ready md ops (listed.setIfInBounds i true) = [j]) (hrj : Region.ready md ops (listed.setIfInBounds j true) = [i])
    (hm : (listed.setIfInBounds i true).setIfInBounds j true = listed2) (hij : j ≠ i)
    (hQ : ∀ c a w, Q (.panic c) (a.put oi.dst v) w → Q (.panic c) a w) (hy : YieldsIf P ops S oi v a) (hS : S w)
    (h : ∀ K' : Act → World → Prop, Shut (∀ a w, S w → wpAny P md ops Q fuel listed2 a w → K' a w) → if Region.wanted oj (yielded ops (a.put oi.dst v).tmps) = true then Oper.wp P oj (a.put oi.dst v) w K' Q else K' ((a.put oi.dst v).put oj.dst undef) w) :
    wpAny P md ops Q F listed a w := by
  subst hF hm
  have H : wpOp P ops Q j (fun a' w' => S w' ∧ wpAny P md ops Q fuel ((listed.setIfInBounds i true).setIfInBounds j true) a' w') (a.put oi.dst v) w :=
    wpOp_step hj fun K' hK => h K' fun a' w' h1 h2 => hK a' w' ⟨h1, h2⟩
  refine ⟨fun h0 => (by rw [hr] at h0; cases h0), fun k hk => ?_⟩
  rw [hr] at hk
  have hk2 : k = i ∨ k = j := by
    rcases List.mem_cons.1 hk with rfl | hk
    · exact .inr rfl
    · exact .inl (by simpa using hk)
  rcases hk2 with rfl | rfl
  · refine hy.wpOp hi hS ⟨fun h0 => (by rw [hri] at h0; cases h0), fun k hk => ?_⟩
    rw [hri] at hk
    obtain rfl : k = j := by simpa using hk
    exact wpOp_mono (fun _ _ h => h.2) H
  · have h2 := wpOp_putIf hj hap (fun cs b => Region.noSelect_spec hs i oi cs b hi) (fun cs b => Region.noSelect_spec hs k oj cs b hj) hQ hy H
    refine wpOp_mono (fun a' w' h3 => ⟨fun h0 => (by rw [hrj] at h0; cases h0), fun k' hk' => ?_⟩) h2
    rw [hrj] at hk'
    obtain rfl : k' = i := by simpa using hk'
    refine h3.1.wpOp hi h3.2.1 ?_
    rw [Array.setIfInBounds_comm _ _ hij]
    exact h3.2.2
end
end Seg
end Go.Proofs.YtldkfhimpkiigaaGreatDoor
