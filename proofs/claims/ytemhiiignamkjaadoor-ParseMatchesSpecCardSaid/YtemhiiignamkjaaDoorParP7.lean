/-
  Layer 12 (parse), the specification's reader in plain words: where it stands, and whether a token did not fit.
-/
import Derived.Test.YtemhiiignamkjaaDoorParQ9
import Derived.Test.YtemhiiignamkjaaDoorParW3
namespace Go.Proofs.YtemhiiignamkjaaDoor
open LexP ParP
namespace ParP

/-- The reader stands behind n tokens; bad: the next one does not fit; it has read what r says. -/
def Sk (l : List Tok) (n : Nat) (bad : Bool) {α : Type} (r : Rd α) : Prop :=
  n ≤ l.length ∧ match r with
  | .ok m _ => m = l.drop n ∧ bad = false
  | .bad m => m = l.drop n ∧ bad = true
def zTok : Tok := ⟨0, ⟨#[]⟩, 0, 0⟩
/-- The token that was read; no token where none was. -/
def tokV : Rd Tok → Tok
  | .ok _ t => t
  | .bad _ => zTok
/-- One more token. -/
def thenTake {α : Type} (r : Rd α) (p : Tok → Bool) : Rd Tok := r.bind fun m _ => take p m
/-- Whether the next token has a text. -/
def isB (l : List Tok) (n : Nat) (s : ByteArray) : Bool :=
  match l[n]? with
  | some t => isText s t
  | none => false
section
variable {α β : Type} {l : List Tok} {n : Nat} {bad : Bool} {p : Tok → Bool}
theorem isB_at {t : Tok} {s : ByteArray} (h : l[n]? = some t) : isB l n s = isText s t := by unfold isB; rw [h]
theorem isB_end {s : ByteArray} (h : l.length ≤ n) : isB l n s = false := by unfold isB; rw [List.getElem?_eq_none h]
theorem isB_true {s : ByteArray} (h : isB l n s = true) : ∃ t, l[n]? = some t ∧ isText s t = true := by
  unfold isB at h
  split at h
  · exact ⟨_, by assumption, h⟩
  · cases h
theorem isB_false {s : ByteArray} (h : isB l n s = false) : ∀ t, l[n]? = some t → isText s t = false := fun t ht => by rw [isB_at ht] at h; exact h
theorem Sk.isBad {r : Rd α} (h : Sk l n true r) : r = .bad (l.drop n) := by
  obtain ⟨_, h⟩ := h
  cases r with
  | ok m x => cases h.2
  | bad m => dsimp only at h; rw [h.1]
theorem Sk.isOk {r : Rd α} (h : Sk l n false r) : ∃ x, r = .ok (l.drop n) x := by
  obtain ⟨_, h⟩ := h
  cases r with
  | ok m x => dsimp only at h; exact ⟨x, by rw [h.1]⟩
  | bad m => cases h.2
theorem Sk.start (hn : n ≤ l.length) (x : α) : Sk l n false (Rd.ok (l.drop n) x) := ⟨hn, rfl, rfl⟩
theorem sk_bad (hn : n ≤ l.length) : Sk l n true (Rd.bad (l.drop n) : Rd α) := ⟨hn, rfl, rfl⟩
theorem Sk.stays {r : Rd α} (h : Sk l n true r) : Sk l n true (thenTake r p) ∧ tokV (thenTake r p) = zTok := by
  rw [h.isBad]
  exact ⟨⟨h.1, rfl, rfl⟩, rfl⟩
theorem Sk.yes {r : Rd α} {t : Tok} (h : Sk l n false r) (ht : l[n]? = some t) (hp : p t = true) : Sk l (n + 1) false (thenTake r p) ∧ tokV (thenTake r p) = t := by
  obtain ⟨x, rfl⟩ := h.isOk
  have e : thenTake (Rd.ok (l.drop n) x) p = .ok (l.drop (n + 1)) t := take_drop_yes ht hp
  rw [e]
  exact ⟨⟨lt_of_at ht, rfl, rfl⟩, rfl⟩
theorem Sk.no {r : Rd α} (h : Sk l n false r) (hp : ∀ t, l[n]? = some t → p t = false) : Sk l n true (thenTake r p) ∧ tokV (thenTake r p) = zTok := by
  obtain ⟨x, rfl⟩ := h.isOk
  have e : thenTake (Rd.ok (l.drop n) x) p = .bad (l.drop n) := take_drop_no hp
  rw [e]
  exact ⟨⟨h.1, rfl, rfl⟩, rfl⟩
/-- What stands where the same is left. -/
theorem Sk.of {r : Rd α} {r2 : Rd β} (h : Sk l n bad r) (hr : ∀ m x, r = .ok m x → ∃ y, r2 = .ok m y) (hb : ∀ m, r = .bad m → r2 = .bad m) : Sk l n bad r2 := by
  cases r with
  | ok m x => obtain ⟨y, rfl⟩ := hr m x rfl; exact h
  | bad m => rw [hb m rfl]; exact h
end
end ParP
end Go.Proofs.YtemhiiignamkjaaDoor
