/-
  Reading takes tokens away; the items of a policy, one by one (layer 12). Plain, no program.
-/
import Derived.Test.YtemhiiignamkjaaDoorParP1
import Derived.Test.YtemhiiignamkjaaDoorKit
namespace Go.Proofs.YtemhiiignamkjaaDoor
namespace ParP
open LexP
theorem take_len {p : Tok → Bool} {l r : List Tok} {t : Tok} (h : take p l = .ok r t) : r.length < l.length := by
  obtain ⟨rfl, _⟩ := take_ok h
  simp
theorem bind_ok {α β : Type} {a : Rd α} {f : List Tok → α → Rd β} {r : List Tok} {x : β} (h : a.bind f = .ok r x) : ∃ m y, a = .ok m y ∧ f m y = .ok r x := by
  cases a with
  | ok m y => exact ⟨m, y, rfl, h⟩
  | bad m => cases h
theorem typLoop_len : ∀ (N : Nat) (l : List Tok) (fl lf : Nat) (lb : Bool) (r : List Tok) (x : Nat × Nat), l.length ≤ N → typLoop l fl lf lb = .ok r x → r.length ≤ l.length := by
  intro N
  induction N with
  | zero =>
    intro l fl lf lb r x hl h
    have : l = [] := List.eq_nil_of_length_eq_zero (Nat.le_zero.1 hl)
    subst this
    rw [typLoop.eq_def] at h
    cases h
  | succ N ih =>
    intro l fl lf lb r x hl h
    cases l with
    | nil => rw [typLoop.eq_def] at h; cases h
    | cons t r0 =>
      rw [typLoop.eq_def] at h
      dsimp only at h
      split at h
      · cases h; simp
      · split at h
        · cases r0 with
          | nil => cases h
          | cons u r2 =>
            dsimp only at h
            split at h
            · cases r2 with
              | nil => cases h
              | cons v r3 =>
                dsimp only at h
                split at h
                · have := ih _ _ _ _ _ _ (by simp at hl ⊢; omega) h
                  simp; omega
                · cases h
            · cases h
        · split at h
          · cases r0 with
            | nil => cases h
            | cons v r2 =>
              dsimp only at h
              split at h
              · have := ih _ _ _ _ _ _ (by simp at hl ⊢; omega) h
                simp; omega
              · cases h
          · cases h
theorem rdTyp_len {l r : List Tok} {x : PTyp} (h : rdTyp l = .ok r x) : r.length ≤ l.length := by
  obtain ⟨m1, y1, h1, h⟩ := bind_ok h
  obtain ⟨m2, y2, h2, h⟩ := bind_ok h
  obtain ⟨m3, y3, h3, h⟩ := bind_ok h
  cases h
  have a := take_len h1
  have b := take_len h2
  have c := typLoop_len _ _ _ _ _ _ _ (Nat.le_refl _) h3
  omega
theorem rdRul_len {k : Nat} {l r : List Tok} {x : PRul} (h : rdRul k l = .ok r x) : r.length ≤ l.length := by
  obtain ⟨m1, y1, h1, h⟩ := bind_ok h
  obtain ⟨m2, y2, h2, h⟩ := bind_ok h
  obtain ⟨m3, y3, h3, h⟩ := bind_ok h
  obtain ⟨m4, y4, h4, h⟩ := bind_ok h
  cases h
  have a := take_len h1
  have b := take_len h2
  have c := take_len h3
  have d := take_len h4
  omega
theorem opt_len {s : ByteArray} {z : Nat} {l r : List Tok} {x : Nat} (h : opt s z l = .ok r x) : r.length ≤ l.length := by
  unfold opt at h
  split at h
  · obtain ⟨m1, y1, h1, h⟩ := bind_ok h
    obtain ⟨m2, y2, h2, h⟩ := bind_ok h
    cases h
    have a := take_len h1
    have b := take_len h2
    omega
  · cases h
    exact Nat.le_refl _
theorem rdQuo_len {l r : List Tok} {x : PQuo} (h : rdQuo l = .ok r x) : r.length ≤ l.length := by
  obtain ⟨m1, y1, h1, h⟩ := bind_ok h
  obtain ⟨m2, y2, h2, h⟩ := bind_ok h
  obtain ⟨m3, y3, h3, h⟩ := bind_ok h
  obtain ⟨m4, y4, h4, h⟩ := bind_ok h
  obtain ⟨m5, y5, h5, h⟩ := bind_ok h
  obtain ⟨m6, y6, h6, h⟩ := bind_ok h
  obtain ⟨m7, y7, h7, h⟩ := bind_ok h
  cases h
  have a := take_len h1
  have b := take_len h2
  have c := opt_len h3
  have d := take_len h4
  have e := take_len h5
  have f := opt_len h6
  have g := take_len h7
  omega
theorem bind_len {α : Type} {a : Rd α} {f : α → St} {l r : List Tok} {st : St} (ha : ∀ r x, a = .ok r x → r.length ≤ l.length) (h : a.bind (fun r x => .ok r (f x)) = .ok r st) : r.length ≤ l.length := by
  obtain ⟨m, y, h1, h2⟩ := bind_ok h
  cases h2
  exact ha _ _ h1
theorem bind_twice {α β γ : Type} (a : Rd α) (f : List Tok → α → Rd β) (g : List Tok → β → Rd γ) : (a.bind f).bind g = a.bind fun r x => (f r x).bind g := by
  cases a <;> rfl
/-- What one item gives. -/
def item (r : List Tok) (st : St) (k : Nat) : Rd St :=
  if k = 0 then (rdTyp r).bind fun r x => .ok r { st with typs := st.typs ++ [x] }
  else if k = 1 then (rdQuo r).bind fun r x => .ok r { st with quos := st.quos ++ [x] }
  else (rdRul (k - 1) r).bind fun r x => .ok r { st with ruls := st.ruls ++ [x] }
def words7 : List ByteArray := wType :: wQuorum :: ruleWords
theorem item_len {r r2 : List Tok} {st st2 : St} {k : Nat} (h : item r st k = .ok r2 st2) : r2.length ≤ r.length := by
  unfold item at h
  split at h
  · exact bind_len (fun _ _ h => rdTyp_len h) h
  · split at h
    · exact bind_len (fun _ _ h => rdQuo_len h) h
    · exact bind_len (fun _ _ h => rdRul_len h) h
theorem item_size {r r2 : List Tok} {st st2 : St} {k n : Nat} (h : item r st k = .ok r2 st2) (hn : st.typs.length ≤ n ∧ st.ruls.length ≤ n ∧ st.quos.length ≤ n) : st2.typs.length ≤ n + 1 ∧ st2.ruls.length ≤ n + 1 ∧ st2.quos.length ≤ n + 1 := by
  unfold item at h
  split at h
  · obtain ⟨_, _, _, h⟩ := bind_ok h
    cases h
    simp
    omega
  · split at h
    · obtain ⟨_, _, _, h⟩ := bind_ok h
      cases h
      simp
      omega
    · obtain ⟨_, _, _, h⟩ := bind_ok h
      cases h
      simp
      omega
theorem text_eq_iff {a b : ByteArray} : (a.toList == b.toList) = true ↔ a = b := by
  rw [beq_iff_eq, ByteArray.toList_eq, ByteArray.toList_eq]
  exact ⟨fun h => ByteArray.ext (Array.ext' h), fun h => by rw [h]⟩
theorem findW_cons (z : ByteArray) (l : List ByteArray) (s : ByteArray) : findW (z :: l) s = if (z.toList == s.toList) = true then 0 else findW l s + 1 := by
  unfold findW
  rw [List.findIdx_cons]
  cases (z.toList == s.toList) <;> rfl
theorem isText_comm (s : ByteArray) (t : Tok) : isText s t = (s.toList == t.text.toList) := by
  unfold isText
  exact BEq.comm
/-- One round of the items. -/
theorem items_round (f : Nat) (t : Tok) (r : List Tok) (st : St) (hc : isText wClose t = false) :
    items (f + 1) (t :: r) st = if findW words7 t.text < 7 then (item r st (findW words7 t.text)).bind (items f) else .bad (t :: r) := by
  have h7 : findW ruleWords t.text ≤ 5 := List.findIdx_le_length
  unfold items words7
  rw [if_neg (by rw [hc]; decide), findW_cons, findW_cons, ← isText_comm, ← isText_comm]
  by_cases h1 : isText wType t = true
  · rw [if_pos h1, if_pos h1, if_pos (by decide)]
    unfold item
    rw [if_pos rfl, bind_twice]
    rfl
  · rw [if_neg h1, if_neg h1]
    by_cases h2 : isText wQuorum t = true
    · rw [if_pos h2, if_pos h2, if_pos (by decide)]
      unfold item
      rw [if_neg (by decide), if_pos rfl, bind_twice]
      rfl
    · rw [if_neg h2, if_neg h2]
      by_cases h3 : findW ruleWords t.text < 5
      · rw [if_pos h3, if_pos (by omega)]
        unfold item
        rw [if_neg (by omega), if_neg (by omega), bind_twice, show findW ruleWords t.text + 1 + 1 - 1 = findW ruleWords t.text + 1 from rfl]
        rfl
      · rw [if_neg h3, if_neg (by omega)]
theorem items_end (f : Nat) (st : St) : items f [] st = .bad [] := by
  cases f <;> rfl
theorem items_close (f : Nat) (t : Tok) (r : List Tok) (st : St) (hc : isText wClose t = true) : items (f + 1) (t :: r) st = .ok r st := by
  unfold items
  rw [if_pos hc]
end ParP
end Go.Proofs.YtemhiiignamkjaaDoor
