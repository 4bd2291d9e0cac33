/-
  How the names of a policy are resolved, step by step (layer 12). Plain, no program.
-/
import Derived.Test.YtemhiiignamkjaaDoorParP2
namespace Go.Proofs.YtemhiiignamkjaaDoor
namespace ParP
open LexP
/-- The names of the first types. -/
def nameAt (ts : List PTyp) (s : ByteArray) : Option Nat := if typIdx ts s < ts.length then some (typIdx ts s) else none
theorem typIdx_snoc (ts : List PTyp) (t : PTyp) (s : ByteArray) : typIdx (ts ++ [t]) s = if typIdx ts s < ts.length then typIdx ts s else if t.name.text = s then ts.length else ts.length + 1 := by
  unfold typIdx
  rw [List.findIdx_append]
  split
  · rfl
  · rw [List.findIdx_cons]
    by_cases h : t.name.text = s
    · rw [if_pos h, text_eq_iff.2 h]
      simp
    · rw [if_neg h, Bool.eq_false_iff.2 (fun e => h (text_eq_iff.1 e))]
      simp
      omega
theorem nameAt_snoc_old {ts : List PTyp} {t : PTyp} (h : (nameAt ts t.name.text).isSome = true) : nameAt (ts ++ [t]) = nameAt ts := by
  funext s
  unfold nameAt at h ⊢
  rw [typIdx_snoc]
  split at h
  · next h1 =>
    by_cases h2 : typIdx ts s < ts.length
    · simp only [h2, if_true]
      rw [if_pos (by simp; omega)]
    · simp only [h2, if_false]
      by_cases h3 : t.name.text = s
      · subst h3; exact absurd h1 h2
      · simp only [h3, if_false]
        rw [if_neg (by simp)]
  · cases h
theorem nameAt_snoc_new {ts : List PTyp} {t : PTyp} (h : (nameAt ts t.name.text).isSome = false) : nameAt (ts ++ [t]) = fun s => if s = t.name.text then some ts.length else nameAt ts s := by
  funext s
  unfold nameAt at h ⊢
  rw [typIdx_snoc]
  split at h
  · cases h
  · next h1 =>
    by_cases h2 : typIdx ts s < ts.length
    · by_cases h3 : s = t.name.text
      · subst h3; exact absurd h2 h1
      · simp only [h2, h3, if_true, if_false]
        rw [if_pos (by simp; omega)]
    · by_cases h3 : s = t.name.text
      · subst h3
        simp [h2]
      · have h4 : ¬ t.name.text = s := fun e => h3 e.symm
        simp only [h2, h3, h4, if_false]
        rw [if_neg (by simp)]
theorem twice_snoc : ∀ (l b : List PTyp) (t : PTyp), twice b (l ++ [t]) = twice b l ++ (if (nameAt (b ++ l) t.name.text).isSome then [t.name] else [])
  | [], b, t => by
    rw [List.nil_append, List.append_nil]
    show (if typIdx b t.name.text < b.length then [t.name] else []) ++ [] = [] ++ _
    unfold nameAt
    split <;> simp_all
  | x :: l, b, t => by
    have ih := twice_snoc l (b ++ [x]) t
    show (if typIdx b x.name.text < b.length then [x.name] else []) ++ twice (b ++ [x]) (l ++ [t]) = ((if typIdx b x.name.text < b.length then [x.name] else []) ++ twice (b ++ [x]) l) ++ _
    rw [ih, List.append_assoc, List.append_assoc]
    simp
theorem take_snoc {α : Type} {l : List α} {k : Nat} {x : α} (h : l[k]? = some x) : l.take (k + 1) = l.take k ++ [x] := by
  obtain ⟨h1, h2⟩ := List.getElem?_eq_some_iff.1 h
  rw [List.take_succ_eq_append_getElem h1, h2]
/-- A side of a rule. -/
def side (r : PRul) (k : Nat) : Tok := if k = 0 then r.a else r.b
def idxOr (ts : List PTyp) (s : ByteArray) : Nat := (nameAt ts s).getD 0
/-- A rule's cells when d of its sides are set. -/
def rulN (ts : List PTyp) (r : PRul) (d : Nat) : List Nat := [r.kind, if 0 < d then idxOr ts r.a.text else 0, if 1 < d then idxOr ts r.b.text else 0]
/-- The rules' cells behind h half steps. -/
def rulsH (ts : List PTyp) : List PRul → Nat → List Nat
  | [], _ => []
  | r :: rs, h => rulN ts r h ++ rulsH ts rs (h - 2)
/-- The names that are missing behind h half steps. -/
def missH (ts : List PTyp) : List PRul → Nat → List Tok
  | [], _ => []
  | r :: rs, h => ((if 0 < h ∧ (nameAt ts r.a.text).isSome = false then [r.a] else []) ++ (if 1 < h ∧ (nameAt ts r.b.text).isSome = false then [r.b] else [])) ++ missH ts rs (h - 2)
theorem rulsH_len (ts : List PTyp) : ∀ (rs : List PRul) (h : Nat), (rulsH ts rs h).length = rs.length * 3
  | [], _ => rfl
  | r :: rs, h => by
    rw [rulsH, List.length_append, rulsH_len ts rs]
    simp [rulN]
    omega
theorem rulsH_set (ts : List PTyp) : ∀ (i : Nat) (rs : List PRul) (r : PRul) (k h : Nat), rs[i]? = some r → k < 2 → h = 2 * i + k → (rulsH ts rs h).set (i * 3 + 1 + k) (idxOr ts (side r k).text) = rulsH ts rs (h + 1) := by
  intro i
  induction i with
  | zero =>
    intro rs r k h hr hk hh
    cases rs with
    | nil => cases hr
    | cons x rs =>
      cases hr
      rcases (show k = 0 ∨ k = 1 by omega) with rfl | rfl
      · have : h = 0 := by omega
        subst this
        rfl
      · have : h = 1 := by omega
        subst this
        rfl
  | succ i ih =>
    intro rs r k h hr hk hh
    cases rs with
    | nil => cases hr
    | cons x rs =>
      have hr' : rs[i]? = some r := hr
      have e := ih rs r k (h - 2) hr' hk (by omega)
      rw [rulsH, rulsH]
      have hx : rulN ts x (h + 1) = rulN ts x h := by
        unfold rulN
        rw [if_pos (by omega), if_pos (by omega), if_pos (by omega), if_pos (by omega)]
      have hl : (rulN ts x h).length = 3 := rfl
      rw [hx, List.set_append_right _ _ (by rw [hl]; omega), hl, show (i + 1) * 3 + 1 + k - 3 = i * 3 + 1 + k by omega, e, show h + 1 - 2 = h - 2 + 1 by omega]
theorem missH_step (ts : List PTyp) : ∀ (i : Nat) (rs : List PRul) (r : PRul) (k h : Nat), rs[i]? = some r → k < 2 → h = 2 * i + k → missH ts rs (h + 1) = missH ts rs h ++ (if (nameAt ts (side r k).text).isSome = false then [side r k] else []) := by
  intro i
  induction i with
  | zero =>
    intro rs r k h hr hk hh
    cases rs with
    | nil => cases hr
    | cons x rs =>
      cases hr
      have h0 : ∀ rs, missH ts rs 0 = [] := by
        intro rs
        induction rs with
        | nil => rfl
        | cons y ys ih => simp [missH, ih]
      rcases (show k = 0 ∨ k = 1 by omega) with rfl | rfl
      · have : h = 0 := by omega
        subst this
        simp [missH, h0, side]
      · have : h = 1 := by omega
        subst this
        simp [missH, h0, side]
  | succ i ih =>
    intro rs r k h hr hk hh
    cases rs with
    | nil => cases hr
    | cons x rs =>
      have hr' : rs[i]? = some r := hr
      have e := ih rs r k (h - 2) hr' hk (by omega)
      rw [missH, missH, show h + 1 - 2 = h - 2 + 1 by omega, e]
      simp only [show (0 < h + 1) = True by simp, show (1 < h + 1) = True from eq_true (by omega), show (0 < h) = True from eq_true (by omega), show (1 < h) = True from eq_true (by omega), true_and, List.append_assoc]
theorem missH_all (ts : List PTyp) : ∀ (rs : List PRul) (h : Nat), h = 2 * rs.length → missH ts rs h = rs.flatMap (missing ts)
  | [], _, _ => rfl
  | r :: rs, h, hh => by
    have e := missH_all ts rs (h - 2) (by simp at hh; omega)
    rw [missH, e, List.flatMap_cons]
    congr 1
    simp at hh
    have h0 : 0 < h := by omega
    have h1 : 1 < h := by omega
    unfold missing nameAt
    by_cases ha : typIdx ts r.a.text < ts.length <;> by_cases hb : typIdx ts r.b.text < ts.length <;> simp [h0, h1, ha, hb]
theorem missH_zero (ts : List PTyp) : ∀ rs, missH ts rs 0 = []
  | [] => rfl
  | r :: rs => by simp [missH, missH_zero ts rs]
end ParP
end Go.Proofs.YtemhiiignamkjaaDoor
