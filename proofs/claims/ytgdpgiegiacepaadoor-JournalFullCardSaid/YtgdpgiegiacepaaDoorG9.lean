/-
  Layer 24 (sector), plain: a record's sectors as lists of bytes; open, join; and the laws.
  Layer 25 (journal), plain: the records at the beginning of a row of sectors; what a record that is written changes about them.
  The walks of layer 24 (sector): Count, get, put.
-/
import Derived.Test.YtgdpgiegiacepaaDoorKit
import Derived.Test.YtgdpgiegiacepaaDoorRows
import Derived.WalkKit
import Derived.WalkSpells
import Derived.WalkLawsBesides
import Derived.Lib.Hide
import Derived.Lib.ConvBytes
import Derived.Laws.BitsAllLaws
import Derived.Outline
namespace Go.Proofs.YtgdpgiegiacepaaDoor.Sec

/-- A number in so many bytes, the lowest first. -/
def putL : Nat → Nat → List UInt8
  | _, 0 => []
  | n, k + 1 => UInt8.ofNat (n % 256) :: putL (n / 256) k
/-- The number in some bytes. -/
def getL : List UInt8 → Nat
  | [] => 0
  | b :: r => b.toNat + 256 * getL r

theorem putL_len : ∀ (k n : Nat), (putL n k).length = k
  | 0, _ => rfl
  | k + 1, n => by rw [putL, List.length_cons, putL_len k]
theorem get_put : ∀ (k n : Nat), n < 256 ^ k → getL (putL n k) = n
  | 0, n, h => by simp at h; rw [h]; rfl
  | k + 1, n, h => by
    rw [putL, getL, get_put k (n / 256) (by rw [Nat.pow_succ] at h; omega)]
    simp
    omega
theorem get_lt : ∀ l : List UInt8, getL l < 256 ^ l.length
  | [] => by simp [getL]
  | b :: r => by
    have := get_lt r
    have hb := b.toNat_lt
    rw [getL, List.length_cons, Nat.pow_succ]
    omega
theorem put_get : ∀ l : List UInt8, putL (getL l) l.length = l
  | [] => rfl
  | b :: r => by
    have hb := b.toNat_lt
    rw [List.length_cons, putL, getL]
    have h1 : (b.toNat + 256 * getL r) % 256 = b.toNat := by omega
    have h2 : (b.toNat + 256 * getL r) / 256 = getL r := by omega
    rw [h1, h2, put_get r]
    simp
theorem get_inj {a b : List UInt8} (hl : a.length = b.length) (h : getL a = getL b) : a = b := by
  have h1 := put_get a
  rw [h, hl, put_get b] at h1
  exact h1.symm
theorem get_zeros : ∀ k, getL (List.replicate k (0 : UInt8)) = 0
  | 0 => rfl
  | k + 1 => by rw [List.replicate_succ, getL, get_zeros k]; rfl

/-- How many parts a record of n bytes has. -/
def countN (n : Nat) : Nat := max 1 ((n + 43) / 44)
/-- The greatest number of a record. -/
def mostN : Nat := 4611686018427387904

/-- The i-th sector of a record. -/
def packAt (number : Nat) (rec : List UInt8) (i : Nat) : List UInt8 :=
  putL number 8 ++ (putL i 2 ++ (putL (rec.drop (44 * i)).length 2 ++ ((rec.drop (44 * i)).take 44 ++ (List.replicate (44 - ((rec.drop (44 * i)).take 44).length) 0 ++ putL number 8))))
/-- The sectors of a record. -/
def packL (number : Nat) (rec : List UInt8) : List (List UInt8) := (List.range (countN rec.length)).map (packAt number rec)

structure PartL where
  number : Nat
  part : Nat
  left : Nat
  text : List UInt8

/-- What a sector of 64 bytes holds. -/
def openL (s : List UInt8) : Option PartL :=
  if s.take 8 = s.drop 56 ∧ 1 ≤ getL (s.take 8) ∧ getL (s.take 8) ≤ mostN ∧ 44 * getL ((s.drop 8).take 2) + getL ((s.drop 10).take 2) ≤ 8000 ∧
      (0 < getL ((s.drop 8).take 2) → 0 < getL ((s.drop 10).take 2)) ∧ ((s.drop (12 + min (getL ((s.drop 10).take 2)) 44)).take (44 - min (getL ((s.drop 10).take 2)) 44)).all (· == 0) = true then
    some ⟨getL (s.take 8), getL ((s.drop 8).take 2), getL ((s.drop 10).take 2), (s.drop 12).take (min (getL ((s.drop 10).take 2)) 44)⟩
  else none
/-- One part of a record, if it fits. -/
def fitL (number left0 i : Nat) (s : List UInt8) : Option (List UInt8) :=
  if s.length = 64 then
    match openL s with
    | some p => if p.number = number ∧ p.part = i ∧ (p.left : Int) = left0 - 44 * i then some p.text else none
    | none => none
  else none
/-- The first k parts' texts. -/
def joinTo (number left0 : Nat) (l : List (List UInt8)) : Nat → Option (List UInt8)
  | 0 => some []
  | k + 1 =>
    match joinTo number left0 l k with
    | none => none
    | some t => match l[k]? with
      | none => none
      | some s => match fitL number left0 k s with
        | none => none
        | some x => some (t ++ x)

structure JoinedL where
  number : Nat
  text : List UInt8
  used : Nat
  e : Int
/-- The record at a list's beginning. -/
def joinL (l : List (List UInt8)) : JoinedL :=
  match l with
  | [] => ⟨0, [], 0, 11⟩
  | s0 :: _ =>
    if s0.length = 64 then
      match openL s0 with
      | none => ⟨0, [], 0, 11⟩
      | some p =>
        if p.part = 0 then
          if l.length < countN p.left then ⟨0, [], 0, 7⟩
          else match joinTo p.number p.left l (countN p.left) with
            | none => ⟨0, [], 0, 7⟩
            | some t => ⟨p.number, t, countN p.left, 0⟩
        else ⟨0, [], 0, 11⟩
    else ⟨0, [], 0, 11⟩

/-! ### The laws -/
theorem packAt_len (number : Nat) (rec : List UInt8) (i : Nat) : (packAt number rec i).length = 64 := by
  unfold packAt
  simp only [List.length_append, putL_len, List.length_replicate]
  have : ((rec.drop (44 * i)).take 44).length ≤ 44 := List.length_take_le _ _
  omega
theorem packL_len (number : Nat) (rec : List UInt8) : (packL number rec).length = countN rec.length := by simp [packL]
theorem packL_at (number : Nat) (rec : List UInt8) (i : Nat) (h : i < countN rec.length) : (packL number rec)[i]? = some (packAt number rec i) := by
  simp [packL, h]
theorem count_pos (n : Nat) : 1 ≤ countN n := by unfold countN; omega
theorem count_lt {n i : Nat} (h : i < countN n) (hi : 0 < i) : 44 * i < n := by
  unfold countN at h
  omega

theorem take_app {α : Type} (a b : List α) {n : Nat} (h : a.length = n) : (a ++ b).take n = a := by subst h; simp
theorem drop_app {α : Type} (a b : List α) {n m : Nat} (h : a.length = n) (hm : n ≤ m) : (a ++ b).drop m = b.drop (m - n) := by
  subst h
  rw [List.drop_append, List.drop_eq_nil_of_le hm]
  rfl

theorem open_pack (number : Nat) (rec : List UInt8) (i : Nat) (h1 : 1 ≤ number) (h2 : number ≤ mostN) (hr : rec.length ≤ 8000) (hi : i < countN rec.length) :
    openL (packAt number rec i) = some ⟨number, i, rec.length - 44 * i, (rec.drop (44 * i)).take 44⟩ := by
  have hlen : (rec.drop (44 * i)).length = rec.length - 44 * i := by simp
  have htl : ((rec.drop (44 * i)).take 44).length = min (rec.length - 44 * i) 44 := by rw [List.length_take, hlen]; omega
  have hn : number < 256 ^ 8 := by unfold mostN at h2; omega
  have hi2 : i < 256 ^ 2 := by
    unfold countN at hi
    omega
  have hl2 : rec.length - 44 * i < 256 ^ 2 := by omega
  have e1 : (packAt number rec i).take 8 = putL number 8 := take_app _ _ (putL_len _ _)
  have e2 : ((packAt number rec i).drop 8).take 2 = putL i 2 := by
    unfold packAt
    rw [drop_app _ _ (putL_len 8 number) (Nat.le_refl _)]
    exact take_app _ _ (putL_len _ _)
  have e3 : ((packAt number rec i).drop 10).take 2 = putL (rec.length - 44 * i) 2 := by
    unfold packAt
    rw [drop_app _ _ (putL_len 8 number) (by omega), drop_app _ _ (putL_len 2 i) (by omega), hlen]
    exact take_app _ _ (putL_len _ _)
  have e4 : (packAt number rec i).drop 56 = putL number 8 := by
    unfold packAt
    rw [drop_app _ _ (putL_len 8 number) (by omega), drop_app _ _ (putL_len 2 i) (by omega), drop_app _ _ (putL_len 2 _) (by omega), drop_app _ _ htl (by omega), drop_app _ _ (List.length_replicate) (by rw [htl]; omega), htl]
    rw [show 56 - 8 - 2 - 2 - min (rec.length - 44 * i) 44 - (44 - min (rec.length - 44 * i) 44) = 0 by omega]
    rfl
  have e5 : ∀ m, (packAt number rec i).drop (12 + m) = ((rec.drop (44 * i)).take 44 ++ (List.replicate (44 - ((rec.drop (44 * i)).take 44).length) 0 ++ putL number 8)).drop m := by
    intro m
    unfold packAt
    rw [drop_app _ _ (putL_len 8 number) (by omega), drop_app _ _ (putL_len 2 i) (by omega), drop_app _ _ (putL_len 2 _) (by omega)]
    congr 1
    omega
  have g1 : getL (putL number 8) = number := get_put 8 number hn
  have g2 : getL (putL i 2) = i := get_put 2 i hi2
  have g3 : getL (putL (rec.length - 44 * i) 2) = rec.length - 44 * i := get_put 2 _ hl2
  have e6 : (packAt number rec i).drop 12 = (rec.drop (44 * i)).take 44 ++ (List.replicate (44 - ((rec.drop (44 * i)).take 44).length) 0 ++ putL number 8) := e5 0
  have e7 : ((packAt number rec i).drop (12 + min (rec.length - 44 * i) 44)).take (44 - min (rec.length - 44 * i) 44) = List.replicate (44 - min (rec.length - 44 * i) 44) 0 := by
    rw [e5, drop_app _ _ htl (Nat.le_refl _), Nat.sub_self, List.drop_zero, htl]
    exact take_app _ _ List.length_replicate
  unfold openL
  rw [e1, e2, e3, e4, g1, g2, g3, e7, e6]
  have c1 : 44 * i + (rec.length - 44 * i) ≤ 8000 := by
    rcases Nat.eq_zero_or_pos i with h0 | hp
    · omega
    · have := count_lt hi hp; omega
  have c2 : 0 < i → 0 < rec.length - 44 * i := by
    intro hp
    have := count_lt hi hp
    omega
  rw [if_pos ⟨rfl, h1, h2, c1, c2, by simp⟩, take_app _ _ htl]

theorem fit_pack (number : Nat) (rec : List UInt8) (i : Nat) (h1 : 1 ≤ number) (h2 : number ≤ mostN) (hr : rec.length ≤ 8000) (hi : i < countN rec.length) :
    fitL number rec.length i (packAt number rec i) = some ((rec.drop (44 * i)).take 44) := by
  unfold fitL
  rw [if_pos (packAt_len _ _ _), open_pack number rec i h1 h2 hr hi]
  dsimp only
  have c : ((rec.length - 44 * i : Nat) : Int) = rec.length - 44 * i := by
    rcases Nat.eq_zero_or_pos i with h0 | hp
    · omega
    · have := count_lt hi hp; omega
  rw [if_pos ⟨rfl, rfl, c⟩]

theorem join_fits (number : Nat) (rec : List UInt8) (l : List (List UInt8)) (hl : ∀ i, i < countN rec.length → ∃ s, l[i]? = some s ∧ fitL number rec.length i s = some ((rec.drop (44 * i)).take 44)) :
    ∀ k, k ≤ countN rec.length → joinTo number rec.length l k = some (rec.take (44 * k))
  | 0, _ => by simp [joinTo]
  | k + 1, h => by
    obtain ⟨s, h1, h2⟩ := hl k (by omega)
    rw [joinTo, join_fits number rec l hl k (by omega)]
    dsimp only
    rw [h1]
    dsimp only
    rw [h2]
    dsimp only
    rw [show 44 * (k + 1) = 44 * k + 44 by omega, List.take_add]
theorem take_count (rec : List UInt8) : rec.take (44 * countN rec.length) = rec := List.take_of_length_le (by unfold countN; omega)

/-- Joining a record's sectors, whatever follows. -/
theorem join_pack (number : Nat) (rec : List UInt8) (more : List (List UInt8)) (h1 : 1 ≤ number) (h2 : number ≤ mostN) (hr : rec.length ≤ 8000) :
    joinL (packL number rec ++ more) = ⟨number, rec, countN rec.length, 0⟩ := by
  have hp := count_pos rec.length
  have hat : ∀ i, i < countN rec.length → (packL number rec ++ more)[i]? = some (packAt number rec i) := fun i hi => by
    rw [List.getElem?_append_left (by rw [packL_len]; exact hi)]
    exact packL_at _ _ _ hi
  have hl : (packL number rec ++ more).length = countN rec.length + more.length := by rw [List.length_append, packL_len]
  have hJ := join_fits number rec (packL number rec ++ more) (fun i hi => ⟨_, hat i hi, fit_pack number rec i h1 h2 hr hi⟩) _ (Nat.le_refl _)
  have h0 := hat 0 hp
  unfold joinL
  split
  · rename_i e; rw [e] at h0; simp at h0
  · rename_i s0 r e
    have hs0 : s0 = packAt number rec 0 := by rw [e] at h0; simpa using h0
    subst hs0
    rw [if_pos (packAt_len _ _ _), open_pack number rec 0 h1 h2 hr hp]
    dsimp only
    rw [if_pos rfl, Nat.mul_zero, Nat.sub_zero, if_neg (by omega), hJ, take_count]

/-- Two records with the same sectors. -/
theorem pack_inj {a b : Nat} {x y : List UInt8} (a1 : 1 ≤ a) (a2 : a ≤ mostN) (b1 : 1 ≤ b) (b2 : b ≤ mostN) (hx : x.length ≤ 8000) (hy : y.length ≤ 8000) (h : packL a x = packL b y) : a = b ∧ x = y := by
  have h1 := join_pack a x [] a1 a2 hx
  rw [h, join_pack b y [] b1 b2 hy] at h1
  injection h1 with h1 h2
  exact ⟨h1.symm, h2.symm⟩

/-- A sector that begins as one and ends as another. -/
def tornL (s t : List UInt8) (k : Nat) : List UInt8 := s.take k ++ t.drop k
theorem torn_len {s t : List UInt8} {k : Nat} (hs : s.length = 64) (ht : t.length = 64) : (tornL s t k).length = 64 := by
  unfold tornL
  rw [List.length_append, List.length_take, List.length_drop]
  omega
/-- What the ends of a sector agree in. -/
theorem torn_plain {s t : List UInt8} {k : Nat} (hs : s.length = 64) (_ht : t.length = 64) (hk : k ≤ 64) (es : s.take 8 = s.drop 56) (et : t.take 8 = t.drop 56) (hne : getL (s.take 8) ≠ getL (t.take 8))
    (hm : (tornL s t k).take 8 = (tornL s t k).drop 56) : tornL s t k = s ∨ tornL s t k = t := by
  by_cases h8 : k < 8
  · right
    have hd : (tornL s t k).drop 56 = t.drop 56 := by
      unfold tornL
      rw [List.drop_append, List.drop_eq_nil_of_le (by rw [List.length_take]; omega), List.nil_append, List.drop_drop, List.length_take]
      congr 1; omega
    have hp : s.take k = t.take k := by
      have h2 : (tornL s t k).take k = s.take k := by
        unfold tornL
        rw [List.take_append_of_le_length (by rw [List.length_take]; omega), List.take_take]
        congr 1; omega
      have h3 : ((tornL s t k).take 8).take k = s.take k := by
        rw [List.take_take, Nat.min_eq_left (by omega), h2]
      rw [hm, hd, ← et, List.take_take, Nat.min_eq_left (by omega)] at h3
      exact h3.symm
    unfold tornL
    rw [hp, List.take_append_drop]
  · by_cases h56 : k ≤ 56
    · exfalso
      have h1 : (tornL s t k).take 8 = s.take 8 := by
        unfold tornL
        rw [List.take_append_of_le_length (by rw [List.length_take]; omega), List.take_take]
        congr 1; omega
      have hd : (tornL s t k).drop 56 = t.drop 56 := by
        unfold tornL
        rw [List.drop_append, List.drop_eq_nil_of_le (by rw [List.length_take]; omega), List.nil_append, List.drop_drop, List.length_take]
        congr 1; omega
      rw [h1, hd, ← et] at hm
      exact hne (by rw [hm])
    · left
      have h1 : (tornL s t k).take 8 = s.take 8 := by
        unfold tornL
        rw [List.take_append_of_le_length (by rw [List.length_take]; omega), List.take_take]
        congr 1; omega
      rw [h1, es] at hm
      have hd : t.drop k = s.drop k := by
        have h2 : (s.drop 56).drop (k - 56) = s.drop k := by rw [List.drop_drop]; congr 1; omega
        rw [hm] at h2
        unfold tornL at h2
        rw [List.drop_drop, List.drop_append, List.drop_eq_nil_of_le (by rw [List.length_take]; omega), List.nil_append, List.drop_drop, List.length_take] at h2
        rw [← h2]
        congr 1; omega
      unfold tornL
      rw [hd, List.take_append_drop]

theorem open_ends {s : List UInt8} {p : PartL} (h : openL s = some p) : s.take 8 = s.drop 56 ∧ p.number = getL (s.take 8) ∧ 1 ≤ p.number := by
  unfold openL at h
  split at h
  · rename_i hc
    cases h
    exact ⟨hc.1, rfl, hc.2.1⟩
  · cases h
/-- 64 zero bytes. -/
def zeroL : List UInt8 := List.replicate 64 0
theorem open_zero : openL zeroL = none := by
  unfold openL
  rw [if_neg]
  rintro ⟨_, h, _⟩
  have : getL (zeroL.take 8) = 0 := by decide
  omega

/-- A torn sector is one of the two, or does not open. -/
theorem torn_open {s t : List UInt8} {k : Nat} {p q : PartL} (hs : s.length = 64) (ht : t.length = 64) (hk : k ≤ 64) (h1 : openL s = some p) (h2 : openL t = some q) (hne : p.number ≠ q.number) :
    tornL s t k = s ∨ tornL s t k = t ∨ openL (tornL s t k) = none := by
  cases hm : openL (tornL s t k) with
  | none => exact .inr (.inr rfl)
  | some m =>
    obtain ⟨a1, a2, _⟩ := open_ends h1
    obtain ⟨b1, b2, _⟩ := open_ends h2
    rcases torn_plain hs ht hk a1 b1 (by rw [← a2, ← b2]; exact hne) (open_ends hm).1 with h | h
    · exact .inl h
    · exact .inr (.inl h)
theorem torn_zero {s : List UInt8} {k : Nat} {p : PartL} (hs : s.length = 64) (hk : k ≤ 64) (h1 : openL s = some p) :
    tornL s zeroL k = s ∨ tornL s zeroL k = zeroL ∨ openL (tornL s zeroL k) = none := by
  cases hm : openL (tornL s zeroL k) with
  | none => exact .inr (.inr rfl)
  | some m =>
    obtain ⟨a1, a2, a3⟩ := open_ends h1
    rcases torn_plain hs (by rfl) hk a1 (by decide) (by rw [← a2, show getL (zeroL.take 8) = 0 by decide]; omega) (open_ends hm).1 with h | h
    · exact .inl h
    · exact .inr (.inl h)
theorem zero_torn {t : List UInt8} {k : Nat} {q : PartL} (ht : t.length = 64) (hk : k ≤ 64) (h1 : openL t = some q) :
    tornL zeroL t k = zeroL ∨ tornL zeroL t k = t ∨ openL (tornL zeroL t k) = none := by
  cases hm : openL (tornL zeroL t k) with
  | none => exact .inr (.inr rfl)
  | some m =>
    obtain ⟨a1, a2, a3⟩ := open_ends h1
    rcases torn_plain (s := zeroL) (by rfl) ht hk (by decide) a1 (by rw [← a2, show getL (zeroL.take 8) = 0 by decide]; omega) (open_ends hm).1 with h | h
    · exact .inl h
    · exact .inr (.inl h)

/-- A sector of a record, or zero bytes behind its end. -/
def secOr (number : Nat) (rec : List UInt8) (i : Nat) : List UInt8 := if i < countN rec.length then packAt number rec i else zeroL
theorem secOr_len (number : Nat) (rec : List UInt8) (i : Nat) : (secOr number rec i).length = 64 := by
  unfold secOr
  split
  · exact packAt_len _ _ _
  · rfl
/-- What a mixed sector opens as. -/
theorem mixed_open {a b : Nat} {x y : List UInt8} (a1 : 1 ≤ a) (a2 : a ≤ mostN) (b1 : 1 ≤ b) (b2 : b ≤ mostN) (hab : a ≠ b) (hx : x.length ≤ 8000) (hy : y.length ≤ 8000) {i k : Nat} (hk : k ≤ 64) {p : PartL}
    (h : openL (tornL (secOr a x i) (secOr b y i) k) = some p) : (i < countN x.length ∧ tornL (secOr a x i) (secOr b y i) k = packAt a x i) ∨ (i < countN y.length ∧ tornL (secOr a x i) (secOr b y i) k = packAt b y i) := by
  unfold secOr at h ⊢
  by_cases hi : i < countN x.length
  · have ox := open_pack a x i a1 a2 hx hi
    by_cases hj : i < countN y.length
    · have oy := open_pack b y i b1 b2 hy hj
      rw [if_pos hi, if_pos hj] at h ⊢
      rcases torn_open (packAt_len _ _ _) (packAt_len _ _ _) hk ox oy hab with e | e | e
      · exact .inl ⟨hi, e⟩
      · exact .inr ⟨hj, e⟩
      · rw [e] at h; cases h
    · rw [if_pos hi, if_neg hj] at h ⊢
      rcases torn_zero (packAt_len _ _ _) hk ox with e | e | e
      · exact .inl ⟨hi, e⟩
      · rw [e, open_zero] at h; cases h
      · rw [e] at h; cases h
  · by_cases hj : i < countN y.length
    · have oy := open_pack b y i b1 b2 hy hj
      rw [if_neg hi, if_pos hj] at h ⊢
      rcases zero_torn (packAt_len _ _ _) hk oy with e | e | e
      · rw [e, open_zero] at h; cases h
      · exact .inr ⟨hj, e⟩
      · rw [e] at h; cases h
    · rw [if_neg hi, if_neg hj] at h
      have e : tornL zeroL zeroL k = zeroL := by unfold tornL; exact List.take_append_drop _ _
      rw [e, open_zero] at h; cases h

theorem fit_open {number left0 i : Nat} {s t : List UInt8} (h : fitL number left0 i s = some t) : ∃ p, s.length = 64 ∧ openL s = some p ∧ p.number = number ∧ p.part = i ∧ (p.left : Int) = left0 - 44 * i ∧ p.text = t := by
  unfold fitL at h
  split at h
  · rename_i hl
    split at h
    · rename_i p hp
      split at h
      · rename_i hc
        cases h
        exact ⟨p, hl, hp, hc.1, hc.2.1, hc.2.2, rfl⟩
      · cases h
    · cases h
  · cases h
theorem joinTo_fits {number left0 : Nat} {l : List (List UInt8)} : ∀ {k : Nat} {t : List UInt8}, joinTo number left0 l k = some t → ∀ i, i < k → ∃ s x, l[i]? = some s ∧ fitL number left0 i s = some x
  | 0, _, _, i, hi => by omega
  | k + 1, t, h, i, hi => by
    rw [joinTo] at h
    split at h
    · cases h
    · rename_i t0 h0
      split at h
      · cases h
      · rename_i s hs
        split at h
        · cases h
        · rename_i x hx
          by_cases e : i < k
          · exact joinTo_fits h0 i e
          · have : i = k := by omega
            subst this
            exact ⟨s, x, hs, hx⟩
/-- One half of the law: the first sector is a's. -/
theorem mixed_half {a b : Nat} {x y : List UInt8} {l : List (List UInt8)} (a1 : 1 ≤ a) (a2 : a ≤ mostN) (b1 : 1 ≤ b) (b2 : b ≤ mostN) (hab : a ≠ b) (hx : x.length ≤ 8000) (hy : y.length ≤ 8000)
    (hcase : ∀ i s p, l[i]? = some s → openL s = some p → (i < countN x.length ∧ s = packAt a x i) ∨ (i < countN y.length ∧ s = packAt b y i))
    {t : List UInt8} (h : joinTo a x.length l (countN x.length) = some t) : t = x := by
  have hat : ∀ i, i < countN x.length → ∃ s, l[i]? = some s ∧ fitL a x.length i s = some ((x.drop (44 * i)).take 44) := by
    intro i hi
    obtain ⟨s, u, h1, h2⟩ := joinTo_fits h i hi
    obtain ⟨p, hl, hp, hn, _⟩ := fit_open h2
    rcases hcase i s p h1 hp with ⟨_, e⟩ | ⟨hj, e⟩
    · subst e
      exact ⟨_, h1, fit_pack a x i a1 a2 hx hi⟩
    · subst e
      rw [open_pack b y i b1 b2 hy hj] at hp
      cases hp
      exact absurd hn.symm hab
  have := join_fits a x l hat _ (Nat.le_refl _)
  rw [this, take_count] at h
  cases h
  rfl
/-- Sectors of two records, mixed or torn. -/
theorem join_mixed {a b : Nat} {x y : List UInt8} {l : List (List UInt8)} (a1 : 1 ≤ a) (a2 : a ≤ mostN) (b1 : 1 ≤ b) (b2 : b ≤ mostN) (hab : a ≠ b) (hx : x.length ≤ 8000) (hy : y.length ≤ 8000)
    (hcase : ∀ i s p, l[i]? = some s → openL s = some p → (i < countN x.length ∧ s = packAt a x i) ∨ (i < countN y.length ∧ s = packAt b y i)) :
    (joinL l).e ≠ 0 ∨ ((joinL l).number = a ∧ (joinL l).text = x) ∨ ((joinL l).number = b ∧ (joinL l).text = y) := by
  unfold joinL
  split
  · left; decide
  · rename_i s0 r
    split
    · split
      · left; decide
      · rename_i p hp
        split
        · split
          · left; decide
          · split
            · left; decide
            · rename_i t ht
              right
              rcases hcase 0 s0 p rfl hp with ⟨hi, e⟩ | ⟨hj, e⟩
              · left
                subst e
                rw [open_pack a x 0 a1 a2 hx hi] at hp
                cases hp
                simp only [Nat.mul_zero, Nat.sub_zero] at ht ⊢
                exact ⟨trivial, mixed_half a1 a2 b1 b2 hab hx hy hcase ht⟩
              · right
                subst e
                rw [open_pack b y 0 b1 b2 hy hj] at hp
                cases hp
                simp only [Nat.mul_zero, Nat.sub_zero] at ht ⊢
                exact ⟨trivial, mixed_half b1 b2 a1 a2 (Ne.symm hab) hy hx (fun i s p h1 h2 => (hcase i s p h1 h2).symm) ht⟩
        · left; decide
    · left; decide
end Go.Proofs.YtgdpgiegiacepaaDoor.Sec
namespace Go.Proofs.YtgdpgiegiacepaaDoor
open Sec

/-- A row of sectors, as lists of bytes. -/
abbrev Rows8 := List (List UInt8)

/-- What two rows have in common settles a join that succeeds. -/
theorem joinTo_same {N L : Nat} {l l' : Rows8} : ∀ (k : Nat), (∀ i, i < k → l'[i]? = l[i]?) → joinTo N L l' k = joinTo N L l k
  | 0, _ => rfl
  | k + 1, h => by
    unfold joinTo
    rw [joinTo_same k (fun i hi => h i (by omega)), h k (by omega)]
theorem join_head {l : Rows8} (h : (joinL l).e = 0) : ∃ s0 p t, l[0]? = some s0 ∧ s0.length = 64 ∧ openL s0 = some p ∧ p.part = 0 ∧ countN p.left ≤ l.length ∧ joinTo p.number p.left l (countN p.left) = some t ∧ joinL l = ⟨p.number, t, countN p.left, 0⟩ := by
  cases l with
  | nil => simp [joinL] at h
  | cons s0 r =>
    unfold joinL at h ⊢
    dsimp only at h ⊢
    split at h
    · rename_i h64
      rw [if_pos h64]
      split at h
      · cases h
      · rename_i p hp
        split at h
        · rename_i hpart
          split at h
          · cases h
          · rename_i hlen
            split at h
            · cases h
            · rename_i t ht
              refine ⟨s0, p, t, rfl, h64, hp, hpart, by omega, ht, ?_⟩
              rw [if_pos hpart, if_neg hlen]
        · cases h
    · cases h
theorem join_used {l : Rows8} (h : (joinL l).e = 0) : 1 ≤ (joinL l).used ∧ (joinL l).used ≤ l.length := by
  obtain ⟨s0, p, t, _, _, _, _, hl, _, e⟩ := join_head h
  rw [e]
  exact ⟨count_pos _, hl⟩
/-- The sectors of a record that is joined. -/
theorem join_parts {l : Rows8} (h : (joinL l).e = 0) (i : Nat) (hi : i < (joinL l).used) : ∃ s p, l[i]? = some s ∧ openL s = some p ∧ p.number = (joinL l).number ∧ p.part = i := by
  obtain ⟨s0, p, t, _, _, _, _, _, ht, e⟩ := join_head h
  rw [e] at hi ⊢
  obtain ⟨s, x, hs, hf⟩ := joinTo_fits ht i hi
  obtain ⟨q, _, hq, q1, q2, _⟩ := fit_open hf
  exact ⟨s, q, hs, hq, q1, q2⟩
theorem join_same {l l' : Rows8} (h : (joinL l).e = 0) (hl : ∀ i, i < (joinL l).used → l'[i]? = l[i]?) : joinL l' = joinL l := by
  have hu := join_used h
  obtain ⟨s0, p, t, h0, h64, hp, hpart, hlen, ht, e⟩ := join_head h
  rw [e] at hl ⊢
  dsimp only at hl
  have hc := count_pos p.left
  have h0' : l'[0]? = some s0 := (hl 0 (by omega)).trans h0
  have hlen' : countN p.left ≤ l'.length := by
    have hx : l[countN p.left - 1]? = some (l[countN p.left - 1]'(by omega)) := List.getElem?_eq_getElem (by omega)
    have := (List.getElem?_eq_some_iff.1 ((hl (countN p.left - 1) (by omega)).trans hx)).1
    omega
  have ht' : joinTo p.number p.left l' (countN p.left) = some t := (joinTo_same _ hl).trans ht
  cases l' with
  | nil => simp at h0'
  | cons s r =>
    simp at h0'
    subst h0'
    unfold joinL
    dsimp only
    rw [if_pos h64, hp]
    dsimp only
    rw [if_pos hpart, if_neg (by omega), ht']

/-- The row of a bank from a place on. -/
def bankAt (T : Rows8) (o h u : Nat) : Rows8 := ((T.drop o).take h).drop u
theorem bankAt_get (T : Rows8) (o h u i : Nat) (hi : u + i < h) : (bankAt T o h u)[i]? = T[o + u + i]? := by
  unfold bankAt
  rw [List.getElem?_drop, List.getElem?_take, if_pos hi, List.getElem?_drop, Nat.add_assoc]
theorem bankAt_len (T : Rows8) (o h u : Nat) (hT : o + h ≤ T.length) : (bankAt T o h u).length = h - u := by
  unfold bankAt
  rw [List.length_drop, List.length_take, List.length_drop]
  omega
/-- The next record of a bank: what is used behind it, its number, its text. -/
def recAt (B : Rows8) (u last : Nat) : Option (Nat × Nat × List UInt8) :=
  if u < B.length ∧ (joinL (B.drop u)).e = 0 ∧ last < (joinL (B.drop u)).number then some (u + (joinL (B.drop u)).used, (joinL (B.drop u)).number, (joinL (B.drop u)).text) else none
theorem recAt_up {B : Rows8} {u last : Nat} {x : Nat × Nat × List UInt8} (h : recAt B u last = some x) : u < x.1 ∧ x.1 ≤ B.length ∧ last < x.2.1 := by
  unfold recAt at h
  split at h
  · rename_i hc
    cases h
    have := join_used hc.2.1
    rw [List.length_drop] at this
    exact ⟨by dsimp only; omega, by dsimp only; omega, hc.2.2⟩
  · cases h
/-- The records of a bank. -/
def recsF : Nat → Rows8 → Nat → Nat → List (Nat × Nat × List UInt8)
  | 0, _, _, _ => []
  | f + 1, B, u, last => match recAt B u last with
    | none => []
    | some x => x :: recsF f B x.1 x.2.1
def recs (B : Rows8) : List (Nat × Nat × List UInt8) := recsF (B.length + 1) B 0 0
/-- A way through records, from a place and a number to a place and a number. -/
inductive Path (B : Rows8) : Nat → Nat → List (Nat × Nat × List UInt8) → Nat → Nat → Prop
  | nil (u last : Nat) : Path B u last [] u last
  | cons {u last : Nat} {x : Nat × Nat × List UInt8} {xs : List (Nat × Nat × List UInt8)} {u' last' : Nat} (h : recAt B u last = some x) (r : Path B x.1 x.2.1 xs u' last') : Path B u last (x :: xs) u' last'
theorem path_recs {B : Rows8} {u last u' last' : Nat} {xs : List (Nat × Nat × List UInt8)} (h : Path B u last xs u' last') (he : recAt B u' last' = none) : ∀ f, B.length < f + u → recsF f B u last = xs := by
  induction h with
  | nil u last =>
    intro f hf
    cases f with
    | zero => rfl
    | succ f => unfold recsF; rw [he]
  | cons hx r ih =>
    intro f hf
    cases f with
    | zero =>
      have := recAt_up hx
      omega
    | succ f =>
      have := recAt_up hx
      unfold recsF
      rw [hx]
      dsimp only
      rw [ih he f (by omega)]
theorem path_snoc {B : Rows8} {u last u' last' : Nat} {xs : List (Nat × Nat × List UInt8)} {x : Nat × Nat × List UInt8} (h : Path B u last xs u' last') (hx : recAt B u' last' = some x) : Path B u last (xs ++ [x]) x.1 x.2.1 := by
  induction h with
  | nil u last => exact .cons hx (.nil _ _)
  | cons hy r ih => exact .cons hy (ih hx)
theorem path_up {B : Rows8} {u last u' last' : Nat} {xs : List (Nat × Nat × List UInt8)} (h : Path B u last xs u' last') : u ≤ u' ∧ last ≤ last' := by
  induction h with
  | nil u last => exact ⟨Nat.le_refl _, Nat.le_refl _⟩
  | cons hx r ih =>
    have := recAt_up hx
    omega
/-- A way that lies ahead of what has changed stays. -/
theorem path_keep {B B' : Rows8} (hl : B'.length = B.length) {u last u' last' : Nat} {xs : List (Nat × Nat × List UInt8)} (h : Path B u last xs u' last') (hk : ∀ i, i < u' → B'[i]? = B[i]?) : Path B' u last xs u' last' := by
  induction h with
  | nil u last => exact .nil _ _
  | cons hx r ih =>
    refine .cons ?_ (ih hk)
    rename_i u last x xs u' last'
    have h1 := path_up r
    unfold recAt at hx ⊢
    split at hx
    · rename_i hc
      cases hx
      dsimp only at h1
      have e : joinL (B'.drop u) = joinL (B.drop u) := join_same hc.2.1 (fun i hi => by
        rw [List.getElem?_drop, List.getElem?_drop]
        exact hk _ (by omega))
      rw [e, if_pos ⟨by rw [hl]; exact hc.1, hc.2⟩]
    · cases hx

/-- A record's sectors are written from o on: each sector is as it was, or the record's. -/
structure PutT (T T' : Rows8) (o : Nat) (P : Rows8) : Prop where
  len : T'.length = T.length
  at_ : ∀ (i : Nat) (s : List UInt8), T'[i]? = some s → T[i]? = some s ∨ ∃ k, i = o + k ∧ P[k]? = some s
  out : ∀ i, i < o ∨ o + P.length ≤ i → T'[i]? = T[i]?
/-- All sectors that are a record's have lower numbers. -/
def Under (T : Rows8) (N : Nat) : Prop := ∀ (i : Nat) (s : List UInt8) (p : PartL), T[i]? = some s → openL s = some p → p.number < N
/-- A record that is joined behind the writing of another one is that one, whole, or lay there before. -/
theorem put_join {T T' : Rows8} {o N : Nat} {t : List UInt8} (h : PutT T T' o (packL N t)) (hN : 1 ≤ N ∧ N ≤ mostN) (ht : t.length ≤ 8000) (hu : Under T N) (b hh u : Nat) (hb : b + hh ≤ T.length)
    (hj : (joinL (bankAt T' b hh u)).e = 0) :
    ((joinL (bankAt T' b hh u)).number < N ∧ joinL (bankAt T b hh u) = joinL (bankAt T' b hh u)) ∨
    ((joinL (bankAt T' b hh u)).number = N ∧ b + u = o ∧ ∀ k, k < countN t.length → T'[o + k]? = (packL N t)[k]?) := by
  have hl' : (bankAt T' b hh u).length = hh - u := bankAt_len _ _ _ _ (by rw [h.len]; exact hb)
  have hus := join_used hj
  rw [hl'] at hus
  have hget : ∀ i, i < (joinL (bankAt T' b hh u)).used → (bankAt T' b hh u)[i]? = T'[b + u + i]? := fun i hi => bankAt_get _ _ _ _ _ (by omega)
  have hparts := fun i hi => join_parts hj i hi
  have hpk : ∀ (k : Nat) (s : List UInt8) (p : PartL), (packL N t)[k]? = some s → openL s = some p → p.number = N ∧ p.part = k ∧ k < countN t.length ∧ p.left = t.length - 44 * k := by
    intro k s p hk hp
    have hkl : k < countN t.length := by
      have := (List.getElem?_eq_some_iff.1 hk).1
      rw [packL_len] at this
      exact this
    rw [packL_at N t k hkl] at hk
    cases hk
    rw [open_pack N t k hN.1 hN.2 ht hkl] at hp
    cases hp
    exact ⟨rfl, rfl, hkl, rfl⟩
  by_cases hn : (joinL (bankAt T' b hh u)).number = N
  · right
    have hpos : ∀ i, i < (joinL (bankAt T' b hh u)).used → b + u = o ∧ T'[o + i]? = (packL N t)[i]? := by
      intro i hi
      obtain ⟨s, p, hs, hp, p1, p2⟩ := hparts i hi
      rw [hget i hi] at hs
      rcases h.at_ _ s hs with h1 | ⟨k, hk, h2⟩
      · have := hu _ s p h1 hp
        omega
      · obtain ⟨_, q2, _⟩ := hpk k s p h2 hp
        have hki : k = i := by omega
        subst hki
        have ho : b + u = o := by omega
        exact ⟨ho, by rw [← ho, hs, h2]⟩
    obtain ⟨ho, _⟩ := hpos 0 (by omega)
    refine ⟨hn, ho, fun k hk => ?_⟩
    -- the number of sectors
    obtain ⟨s0, p0, t0, g1, _, g2, g3, _, _, ge⟩ := join_head hj
    have g1' : (bankAt T' b hh u)[0]? = some s0 := g1
    rw [hget 0 (by omega)] at g1'
    have hleft : p0.left = t.length := by
      rcases h.at_ _ s0 g1' with h1 | ⟨k, hk, h2⟩
      · have := hu _ s0 p0 h1 g2
        rw [ge] at hn
        dsimp only at hn
        omega
      · obtain ⟨_, q2, _, q4⟩ := hpk k s0 p0 h2 g2
        have : k = 0 := by omega
        subst this
        rw [q4]
        omega
    have hused : (joinL (bankAt T' b hh u)).used = countN t.length := by rw [ge, ← hleft]
    exact (hpos k (by omega)).2
  · left
    have hsame : ∀ i, i < (joinL (bankAt T' b hh u)).used → (bankAt T b hh u)[i]? = (bankAt T' b hh u)[i]? := by
      intro i hi
      obtain ⟨s, p, hs, hp, p1, p2⟩ := hparts i hi
      rw [hget i hi] at hs
      rw [hget i hi, bankAt_get _ _ _ _ _ (by omega), hs]
      rcases h.at_ _ s hs with h1 | ⟨k, hk, h2⟩
      · exact h1
      · obtain ⟨q1, _⟩ := hpk k s p h2 hp
        exact absurd (p1.symm.trans q1) hn
    have hlt : (joinL (bankAt T' b hh u)).number < N := by
      obtain ⟨s, p, hs, hp, p1, p2⟩ := hparts 0 (by omega)
      rw [hget 0 (by omega)] at hs
      rcases h.at_ _ s hs with h1 | ⟨k, hk, h2⟩
      · have := hu _ s p h1 hp
        omega
      · obtain ⟨q1, _⟩ := hpk k s p h2 hp
        exact absurd (p1.symm.trans q1) hn
    exact ⟨hlt, join_same hj hsame⟩
/-- Behind it, all numbers are lower than the next one. -/
theorem put_under {T T' : Rows8} {o N : Nat} {t : List UInt8} (h : PutT T T' o (packL N t)) (hN : 1 ≤ N ∧ N ≤ mostN) (ht : t.length ≤ 8000) (hu : Under T N) : Under T' (N + 1) := by
  intro i s p hs hp
  rcases h.at_ i s hs with h1 | ⟨k, _, h2⟩
  · have := hu i s p h1 hp
    omega
  · have hkl : k < countN t.length := by
      have := (List.getElem?_eq_some_iff.1 h2).1
      rw [packL_len] at this
      exact this
    rw [packL_at N t k hkl] at h2
    cases h2
    rw [open_pack N t k hN.1 hN.2 ht hkl] at hp
    cases hp
    show N < N + 1
    omega
end Go.Proofs.YtgdpgiegiacepaaDoor
namespace Go.Proofs.YtgdpgiegiacepaaDoor.Sec
open Go.RowKit
attribute [local go_sem] Oper.semAt_some

theorem ret_bool {a b : Bool} (h : a = b) : Ending.returned (.bool a) = .returned (.bool b) := by rw [h]
theorem ret_int {k : IntKind} {a b : Int} (h : a = b) : Ending.returned (.int k a) = .returned (.int k b) := by rw [h]
theorem beq_t {a b : Int} (h : a = b) : (a == b) = true := beq_iff_eq.2 h
theorem beq_f {a b : Int} (h : a ≠ b) : (a == b) = false := beq_eq_false_iff_ne.2 h
theorem bne_t {a b : Int} (h : a ≠ b) : (a != b) = true := bne_iff_ne.2 h
theorem bne_f {a b : Int} (h : a = b) : (a != b) = false := by rw [h]; simp

/-- How many parts, by a number of the machine. -/
def countZ (n : Int) : Int := if 0 ≤ n ∧ n ≤ 8000 then countN n.toNat else 0
theorem count_any (n : Int) (w : World) : Calls Tryd.prog 24 #[.int .i64 n] w fun e w' => e = .returned (.int .i64 (countZ n)) ∧ w = w' := by
  by_cases h0 : n < 0
  · go_enter Tryd.func24, Tryd.ntmps24
    go_wp2_with fail
    go_ret
    exact ⟨ret_int (by unfold countZ; rw [if_neg (by omega)]), rfl⟩
  · by_cases h1 : 8000 < n
    · go_enter Tryd.func24, Tryd.ntmps24
      go_wp2_with fail
      go_ret
      exact ⟨ret_int (by unfold countZ; rw [if_neg (by omega)]), rfl⟩
    · have h2 : 0 ≤ n := by omega
      have h3 : n ≤ 8000 := by omega
      go_enter Tryd.func24, Tryd.ntmps24
      go_wp2_with fail
      all_goals go_ret
      all_goals exact ⟨ret_int (by unfold countZ countN; rw [if_pos ⟨h2, h3⟩]; omega), rfl⟩

/-- Bytes as cells. -/
def bytesC (l : List UInt8) : List Value := l.map fun b => Value.int .u8 b.toNat
theorem bytesC_len (l : List UInt8) : (bytesC l).length = l.length := by simp [bytesC]
theorem bytesC_app (a b : List UInt8) : bytesC (a ++ b) = bytesC a ++ bytesC b := by simp [bytesC]
theorem infoU8 : (Tryd.prog.info? 5).map (fun i => (i.zero, i.size, i.bytes)) = some (some (.int .u8 0), 1, 1) := by kernel_rfl
theorem info_parts {P : Program} {e : TypeId} {z : Value} {s b : Nat} (h : (P.info? e).map (fun i => (i.zero, i.size, i.bytes)) = some (some z, s, b)) : ∃ i, P.info? e = some i ∧ i.zero = some z ∧ i.size = s ∧ i.bytes = b := by
  cases hi : P.info? e with
  | none => rw [hi] at h; simp at h
  | some i => rw [hi] at h; simp at h; exact ⟨i, rfl, h.1, h.2.1, h.2.2⟩

theorem putL_snoc : ∀ (k n : Nat), putL n (k + 1) = putL n k ++ [UInt8.ofNat (n / 256 ^ k % 256)]
  | 0, n => by simp [putL]
  | k + 1, n => by
    have := putL_snoc k (n / 256)
    rw [putL, this, putL, Nat.div_div_eq_div_mul, ← Nat.pow_succ']
    rfl
theorem byte_at (num k : Nat) : ((num : Int) / 2 ^ (8 * k) % 256) = ((UInt8.ofNat (num / 256 ^ k % 256)).toNat : Int) := by
  have h : (2 : Nat) ^ (8 * k) = 256 ^ k := by rw [Nat.pow_mul]
  rw [← h]
  simp
set_option maxHeartbeats 4000000 in
set_option maxRecDepth 100000 in
theorem put64_any (w : World) (base : Nat) (v : Value) (n : Nat) (xs : List Value) (hown : w.ownsRow base 5 1 v n xs) (num size : Nat) (_hnum : num < 18446744073709551616) (hs : size ≤ 8) (hn : n ≤ 1000) (hb : base ≤ w.heap.size) :
    Calls Tryd.prog 74 #[v, .int .u64 num, .int .i64 size] w fun e w' => ∃ v', e = .returned v' ∧ w'.ownsRow base 5 1 v' (n + size) (xs ++ bytesC (putL num size)) ∧ Below base w w' := by
  obtain ⟨i0, hi, hz0, hz1, hz2⟩ := info_parts infoU8
  have hle : Hid (n + 8 ≤ maxLen) := by unfold Hid maxLen; omega
  go_enter Tryd.func74, Tryd.ntmps74
  go_wp2_with fail
  go_loopw [0, 9] (fun b i wr => ∃ k : Nat, k ≤ size ∧ i = .int .i64 k ∧ wr.ownsRow base 5 1 b (n + k) (xs ++ bytesC (putL num k)) ∧ Below base w wr) (fun _ i _ => size - (intOf i).toNat)
  case atStart => exact ⟨0, Nat.zero_le _, rfl, by simpa [putL, bytesC] using hown, Below.refl _ _⟩
  case round =>
    obtain ⟨k, hk, rfl, hrow, hB⟩ := hrel
    have hBs := hB.size
    clear hown
    by_cases hkl : k < size
    · have hbyte := Lib.hid (byte_at num k)
      go_wp2_with (at_builtin; refine wpList_append_own _ rfl _ _ 54 rfl base 5 i0 _ 1 1 Tryd.underlying54 hi hz0 hz1 hz2 rfl (by decide) _ (n + k) (xs ++ bytesC (putL num k)) rfl (hrow.alloc _) ⟨wr.heap.size, 0, none⟩ 1 1 [.int .u8 (↑num / 2 ^ (8 * k) % 256)] rfl rfl ?c1 ?c2 ?c3 ?c4 ?c5 ?_)
      case c1 => exact cell_one_new _ _ _
      case c2 => simp [Value.oneCell']
      case c3 => have := hle.out; omega
      case c4 => omega
      case c5 => simp; omega
      intro v' w3 hown3 hg3 _
      have hB3 : Below base w w3 := (hB.alloc (by omega) _).grown hg3 (by simp; omega) (fun g e => (hrow.lt g e).1)
      have hown4 : Hid (w3.ownsRow base 5 1 v' (n + (k + 1)) (xs ++ bytesC (putL num (k + 1)))) := by
        unfold Hid
        rw [putL_snoc, bytesC_app, ← List.append_assoc]
        have e : bytesC [UInt8.ofNat (num / 256 ^ k % 256)] = [.int .u8 (↑num / 2 ^ (8 * k) % 256)] := by rw [hbyte.out]; rfl
        rw [e]
        rw [List.append_assoc]
        exact hown3
      clear hg3 hown3 hrow
      go_wp2_with fail
      go_roundw
      case rel => exact ⟨k + 1, by omega, by go_num, hown4.out, hB3⟩
      case measure => simp [intOf]; omega
    · obtain rfl : k = size := by omega
      go_wp2_with fail
      go_ret
      exact ⟨_, rfl, hrow, hB⟩
set_option maxHeartbeats 4000000 in
set_option maxRecDepth 100000 in
theorem put16_any (w : World) (base : Nat) (v : Value) (n : Nat) (xs : List Value) (hown : w.ownsRow base 5 1 v n xs) (num size : Nat) (_hnum : num < 65536) (hs : size ≤ 2) (hn : n ≤ 1000) (hb : base ≤ w.heap.size) :
    Calls Tryd.prog 75 #[v, .int .u16 num, .int .i64 size] w fun e w' => ∃ v', e = .returned v' ∧ w'.ownsRow base 5 1 v' (n + size) (xs ++ bytesC (putL num size)) ∧ Below base w w' := by
  obtain ⟨i0, hi, hz0, hz1, hz2⟩ := info_parts infoU8
  have hle : Hid (n + 8 ≤ maxLen) := by unfold Hid maxLen; omega
  go_enter Tryd.func75, Tryd.ntmps75
  go_wp2_with fail
  go_loopw [0, 9] (fun b i wr => ∃ k : Nat, k ≤ size ∧ i = .int .i64 k ∧ wr.ownsRow base 5 1 b (n + k) (xs ++ bytesC (putL num k)) ∧ Below base w wr) (fun _ i _ => size - (intOf i).toNat)
  case atStart => exact ⟨0, Nat.zero_le _, rfl, by simpa [putL, bytesC] using hown, Below.refl _ _⟩
  case round =>
    obtain ⟨k, hk, rfl, hrow, hB⟩ := hrel
    have hBs := hB.size
    clear hown
    by_cases hkl : k < size
    · have hbyte := Lib.hid (byte_at num k)
      go_wp2_with (at_builtin; refine wpList_append_own _ rfl _ _ 54 rfl base 5 i0 _ 1 1 Tryd.underlying54 hi hz0 hz1 hz2 rfl (by decide) _ (n + k) (xs ++ bytesC (putL num k)) rfl (hrow.alloc _) ⟨wr.heap.size, 0, none⟩ 1 1 [.int .u8 (↑num / 2 ^ (8 * k) % 256)] rfl rfl ?c1 ?c2 ?c3 ?c4 ?c5 ?_)
      case c1 => exact cell_one_new _ _ _
      case c2 => simp [Value.oneCell']
      case c3 => have := hle.out; omega
      case c4 => omega
      case c5 => simp; omega
      intro v' w3 hown3 hg3 _
      have hB3 : Below base w w3 := (hB.alloc (by omega) _).grown hg3 (by simp; omega) (fun g e => (hrow.lt g e).1)
      have hown4 : Hid (w3.ownsRow base 5 1 v' (n + (k + 1)) (xs ++ bytesC (putL num (k + 1)))) := by
        unfold Hid
        rw [putL_snoc, bytesC_app, ← List.append_assoc]
        have e : bytesC [UInt8.ofNat (num / 256 ^ k % 256)] = [.int .u8 (↑num / 2 ^ (8 * k) % 256)] := by rw [hbyte.out]; rfl
        rw [e]
        rw [List.append_assoc]
        exact hown3
      clear hg3 hown3 hrow
      go_wp2_with fail
      go_roundw
      case rel => exact ⟨k + 1, by omega, by go_num, hown4.out, hB3⟩
      case measure => simp [intOf]; omega
    · obtain rfl : k = size := by omega
      go_wp2_with fail
      go_ret
      exact ⟨_, rfl, hrow, hB⟩
theorem getL_snoc : ∀ (l : List UInt8) (b : UInt8), getL (l ++ [b]) = getL l + 256 ^ l.length * b.toNat
  | [], b => by simp [getL]
  | a :: l, b => by
    rw [List.cons_append, getL, getL, getL_snoc l b, List.length_cons, Nat.pow_succ, Nat.mul_add]
    rw [Nat.mul_comm (256 ^ l.length) 256, ← Nat.mul_assoc, Nat.add_assoc]
theorem or_shl (g b k : Nat) (hg : g < 2 ^ (8 * k)) : (g ||| b * 2 ^ (8 * k)) = g + 2 ^ (8 * k) * b := by
  rw [Nat.or_comm, Nat.mul_comm b, Nat.add_comm]
  exact (Nat.two_pow_add_eq_or_of_lt hg b).symm
theorem u64_small (n : Nat) (h : n < 18446744073709551616) : IntKind.u64.wrap (n : Int) = n := by
  simp [IntKind.wrap, IntKind.bits, IntKind.signed]
  omega
theorem or_step (G b k : Nat) (hG : G < 256 ^ k) (hb : b < 256) (hk : k < 8) : bits .or .u64 (G : Int) (IntKind.u64.wrap (IntKind.u64.wrap (b : Int) * 2 ^ (8 * k))) = ((G + 256 ^ k * b : Nat) : Int) := by
  have h2 : (256 : Nat) ^ k = 2 ^ (8 * k) := by rw [Nat.pow_mul]
  rw [h2] at hG ⊢
  have hX : (2 : Nat) ^ (8 * k) ≤ 2 ^ 56 := Nat.pow_le_pow_right (by decide) (by omega)
  have hm : b * 2 ^ (8 * k) ≤ 255 * 2 ^ (8 * k) := Nat.mul_le_mul_right _ (by omega)
  rw [u64_small b (by omega), show (b : Int) * 2 ^ (8 * k) = ((b * 2 ^ (8 * k) : Nat) : Int) by simp, u64_small _ (by omega), u64_or_nat _ _ (by omega) (by omega), or_shl _ _ _ hG]
set_option maxHeartbeats 4000000 in
set_option maxRecDepth 100000 in
theorem get_any (w : World) (s : ByteArray) (hs : s.size ≤ 8) :
    Calls Tryd.prog 76 #[.string s] w fun e w' => e = .returned (.int .u64 (getL s.data.toList : Nat)) ∧ w = w' := by
  have hm : s.size ≤ maxLen := by unfold maxLen; omega
  unfold maxLen at hm
  go_enter Tryd.func76, Tryd.ntmps76
  go_wp2_with fail
  go_loop [2, 6] (fun g i => ∃ k : Nat, k ≤ s.size ∧ i = .int .i64 k ∧ g = .int .u64 (getL (s.data.toList.take k) : Nat)) (fun _ i => s.size - (intOf i).toNat)
  case atStart => exact ⟨0, Nat.zero_le _, rfl, rfl⟩
  case round =>
    obtain ⟨k, hk, rfl, rfl⟩ := hrel
    by_cases hkl : k < s.size
    · have hlt := get_lt (s.data.toList.take k)
      have hl : (s.data.toList.take k).length = k := by rw [List.length_take, Array.length_toList]; have : s.data.size = s.size := rfl; omega
      rw [hl] at hlt
      have hts : s.data.toList.take (k + 1) = s.data.toList.take k ++ [s[k]] := by
        rw [List.take_succ_eq_append_getElem (by rw [Array.length_toList]; exact hkl)]; rfl
      have HS : Hid (getL (s.data.toList.take (k + 1)) = getL (s.data.toList.take k) + 256 ^ k * s[k].toNat) := by
        unfold Hid; rw [hts, getL_snoc, hl]
      clear hts hl
      generalize getL (s.data.toList.take k) = G at hlt HS ⊢
      have ho := Lib.hid (or_step G s[k].toNat k hlt (UInt8.toNat_lt _) (by omega))
      clear hlt
      go_wp2_with fail
      go_round
      case rel => exact ⟨k + 1, by omega, by go_num, by rw [ho.out, HS.out]⟩
      case measure => simp [intOf]; omega
    · obtain rfl : k = s.size := by omega
      go_wp2_with fail
      go_ret
      refine ⟨?_, rfl⟩
      show Ending.returned (.int .u64 (getL (s.data.toList.take s.size) : Nat)) = _
      rw [List.take_of_length_le (by rw [Array.length_toList]; exact Nat.le_refl _)]
end Go.Proofs.YtgdpgiegiacepaaDoor.Sec
