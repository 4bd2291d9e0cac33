import Derived.Test.YtpghocekofdpbaaGreatDoorQb00
namespace Go.Proofs.YtpghocekofdpbaaGreatDoor.Sec
def putL : Nat -> Nat -> List UInt8
 | _, 0 => []
 | n, k + 1 => UInt8.ofNat (n % 256) :: putL (n / 256) k
def getL : List UInt8 -> Nat
 | [] => 0
 | b :: r => b.toNat + 256 * getL r
theorem putL_len : ∀ (k n : Nat), (putL n k).length = k
 | 0, _ => rfl
 | k + 1, n => by rw [putL, List.length_cons, putL_len k]
theorem get_put : ∀ (k n : Nat), n < 256 ^ k -> getL (putL n k) = n
 | 0, n, h => by simp at h; rw [h]; rfl
 | k + 1, n, h => by
  rw [putL, getL, get_put k (n / 256) (by rw [Nat.pow_succ] at h; omega)]
  simp
  omega
theorem get_lt : ∀ l : List UInt8, getL l < 256 ^ l.length
 | [] => by simp [getL]
 | b :: r => by
  have := get_lt r
  have hb := b.toNat_lt
  rw [getL, List.length_cons, Nat.pow_succ]
  omega
theorem put_get : ∀ l : List UInt8, putL (getL l) l.length = l
 | [] => rfl
 | b :: r => by
  have hb := b.toNat_lt
  rw [List.length_cons, putL, getL]
  have h1 : (b.toNat + 256 * getL r) % 256 = b.toNat := by omega
  have h2 : (b.toNat + 256 * getL r) / 256 = getL r := by omega
  rw [h1, h2, put_get r]
  simp
theorem get_zeros : ∀ k, getL (List.replicate k (0 : UInt8)) = 0
 | 0 => rfl
 | k + 1 => by rw [List.replicate_succ, getL, get_zeros k]; rfl
def countN (n : Nat) : Nat := max 1 ((n + 43) / 44)
def mostN : Nat := 4611686018427387904
def packAt (number : Nat) (rec : List UInt8) (i : Nat) : List UInt8 :=
 putL number 8 ++ (putL i 2 ++ (putL (rec.drop (44 * i)).length 2 ++ ((rec.drop (44 * i)).take 44 ++ (List.replicate (44 - ((rec.drop (44 * i)).take 44).length) 0 ++ putL number 8))))
def packL (number : Nat) (rec : List UInt8) : List (List UInt8) := (List.range (countN rec.length)).map (packAt number rec)
structure PartL where
 number : Nat
 part : Nat
 left : Nat
 text : List UInt8
def openL (s : List UInt8) : Option PartL :=
 if s.take 8 = s.drop 56 /\ 1 <= getL (s.take 8) /\ getL (s.take 8) <= mostN /\ 44 * getL ((s.drop 8).take 2) + getL ((s.drop 10).take 2) <= 8000 /\
   (0 < getL ((s.drop 8).take 2) -> 0 < getL ((s.drop 10).take 2)) /\ ((s.drop (12 + min (getL ((s.drop 10).take 2)) 44)).take (44 - min (getL ((s.drop 10).take 2)) 44)).all (· == 0) = true then
  some ⟨getL (s.take 8), getL ((s.drop 8).take 2), getL ((s.drop 10).take 2), (s.drop 12).take (min (getL ((s.drop 10).take 2)) 44)⟩
 else none
def fitL (number left0 i : Nat) (s : List UInt8) : Option (List UInt8) :=
 if s.length = 64 then
  match openL s with
  | some p => if p.number = number /\ p.part = i /\ (p.left : Int) = left0 - 44 * i then some p.text else none
  | none => none
 else none
def joinTo (number left0 : Nat) (l : List (List UInt8)) : Nat -> Option (List UInt8)
 | 0 => some []
 | k + 1 =>
  match joinTo number left0 l k with
  | none => none
  | some t => match l[k]? with
   | none => none
   | some s => match fitL number left0 k s with
    | none => none
    | some x => some (t ++ x)
structure JoinedL where
 number : Nat
 text : List UInt8
 used : Nat
 e : Int
def joinL (l : List (List UInt8)) : JoinedL :=
 match l with
 | [] => ⟨0, [], 0, 11⟩
 | s0 :: _ =>
  if s0.length = 64 then
   match openL s0 with
   | none => ⟨0, [], 0, 11⟩
   | some p =>
    if p.part = 0 then
     if l.length < countN p.left then ⟨0, [], 0, 7⟩
     else match joinTo p.number p.left l (countN p.left) with
      | none => ⟨0, [], 0, 7⟩
      | some t => ⟨p.number, t, countN p.left, 0⟩
    else ⟨0, [], 0, 11⟩
  else ⟨0, [], 0, 11⟩
theorem packAt_len (number : Nat) (rec : List UInt8) (i : Nat) : (packAt number rec i).length = 64 := by
 unfold packAt
 simp only [List.length_append, putL_len, List.length_replicate]
 have : ((rec.drop (44 * i)).take 44).length <= 44 := List.length_take_le _ _
 omega
theorem packL_len (number : Nat) (rec : List UInt8) : (packL number rec).length = countN rec.length := by simp [packL]
theorem packL_at (number : Nat) (rec : List UInt8) (i : Nat) (h : i < countN rec.length) : (packL number rec)[i]? = some (packAt number rec i) := by
 simp [packL, h]
theorem count_pos (n : Nat) : 1 <= countN n := by unfold countN; omega
theorem count_lt {n i : Nat} (h : i < countN n) (hi : 0 < i) : 44 * i < n := by
 unfold countN at h
 omega
theorem take_app {α : Type} (a b : List α) {n : Nat} (h : a.length = n) : (a ++ b).take n = a := by subst h; simp
theorem drop_app {α : Type} (a b : List α) {n m : Nat} (h : a.length = n) (hm : n <= m) : (a ++ b).drop m = b.drop (m - n) := by
 subst h
 rw [List.drop_append, List.drop_eq_nil_of_le hm]
 rfl
theorem open_pack (number : Nat) (rec : List UInt8) (i : Nat) (h1 : 1 <= number) (h2 : number <= mostN) (hr : rec.length <= 8000) (hi : i < countN rec.length) :
  openL (packAt number rec i) = some ⟨number, i, rec.length - 44 * i, (rec.drop (44 * i)).take 44⟩ := by
 have hlen : (rec.drop (44 * i)).length = rec.length - 44 * i := by simp
 have htl : ((rec.drop (44 * i)).take 44).length = min (rec.length - 44 * i) 44 := by rw [List.length_take, hlen]; omega
 have hn : number < 256 ^ 8 := by unfold mostN at h2; omega
 have hi2 : i < 256 ^ 2 := by
  unfold countN at hi
  omega
 have hl2 : rec.length - 44 * i < 256 ^ 2 := by omega
 have e1 : (packAt number rec i).take 8 = putL number 8 := take_app _ _ (putL_len _ _)
 have e2 : ((packAt number rec i).drop 8).take 2 = putL i 2 := by
  unfold packAt
  rw [drop_app _ _ (putL_len 8 number) (Nat.le_refl _)]
  exact take_app _ _ (putL_len _ _)
 have e3 : ((packAt number rec i).drop 10).take 2 = putL (rec.length - 44 * i) 2 := by
  unfold packAt
  rw [drop_app _ _ (putL_len 8 number) (by omega), drop_app _ _ (putL_len 2 i) (by omega), hlen]
  exact take_app _ _ (putL_len _ _)
 have e4 : (packAt number rec i).drop 56 = putL number 8 := by
  unfold packAt
  rw [drop_app _ _ (putL_len 8 number) (by omega), drop_app _ _ (putL_len 2 i) (by omega), drop_app _ _ (putL_len 2 _) (by omega), drop_app _ _ htl (by omega), drop_app _ _ (List.length_replicate) (by rw [htl]; omega), htl]
  rw [show 56 - 8 - 2 - 2 - min (rec.length - 44 * i) 44 - (44 - min (rec.length - 44 * i) 44) = 0 by omega]
  rfl
 have e5 : ∀ m, (packAt number rec i).drop (12 + m) = ((rec.drop (44 * i)).take 44 ++ (List.replicate (44 - ((rec.drop (44 * i)).take 44).length) 0 ++ putL number 8)).drop m := by
  intro m
  unfold packAt
  rw [drop_app _ _ (putL_len 8 number) (by omega), drop_app _ _ (putL_len 2 i) (by omega), drop_app _ _ (putL_len 2 _) (by omega)]
  congr 1
  omega
 have g1 : getL (putL number 8) = number := get_put 8 number hn
 have g2 : getL (putL i 2) = i := get_put 2 i hi2
 have g3 : getL (putL (rec.length - 44 * i) 2) = rec.length - 44 * i := get_put 2 _ hl2
 have e6 : (packAt number rec i).drop 12 = (rec.drop (44 * i)).take 44 ++ (List.replicate (44 - ((rec.drop (44 * i)).take 44).length) 0 ++ putL number 8) := e5 0
 have e7 : ((packAt number rec i).drop (12 + min (rec.length - 44 * i) 44)).take (44 - min (rec.length - 44 * i) 44) = List.replicate (44 - min (rec.length - 44 * i) 44) 0 := by
  rw [e5, drop_app _ _ htl (Nat.le_refl _), Nat.sub_self, List.drop_zero, htl]
  exact take_app _ _ List.length_replicate
 unfold openL
 rw [e1, e2, e3, e4, g1, g2, g3, e7, e6]
 have c1 : 44 * i + (rec.length - 44 * i) <= 8000 := by
  rcases Nat.eq_zero_or_pos i with h0 | hp
  ·omega
  ·have := count_lt hi hp; omega
 have c2 : 0 < i -> 0 < rec.length - 44 * i := by
  intro hp
  have := count_lt hi hp
  omega
 rw [if_pos ⟨rfl, h1, h2, c1, c2, by simp⟩, take_app _ _ htl]
theorem fit_pack (number : Nat) (rec : List UInt8) (i : Nat) (h1 : 1 <= number) (h2 : number <= mostN) (hr : rec.length <= 8000) (hi : i < countN rec.length) :
  fitL number rec.length i (packAt number rec i) = some ((rec.drop (44 * i)).take 44) := by
 unfold fitL
 rw [if_pos (packAt_len _ _ _), open_pack number rec i h1 h2 hr hi]
 dsimp only
 have c : ((rec.length - 44 * i : Nat) : Int) = rec.length - 44 * i := by
  rcases Nat.eq_zero_or_pos i with h0 | hp
  ·omega
  ·have := count_lt hi hp; omega
 rw [if_pos ⟨rfl, rfl, c⟩]
theorem join_fits (number : Nat) (rec : List UInt8) (l : List (List UInt8)) (hl : ∀ i, i < countN rec.length -> ∃ s, l[i]? = some s /\ fitL number rec.length i s = some ((rec.drop (44 * i)).take 44)) :
  ∀ k, k <= countN rec.length -> joinTo number rec.length l k = some (rec.take (44 * k))
 | 0, _ => by simp [joinTo]
 | k + 1, h => by
  obtain ⟨s, h1, h2⟩ := hl k (by omega)
  rw [joinTo, join_fits number rec l hl k (by omega)]
  dsimp only
  rw [h1]
  dsimp only
  rw [h2]
  dsimp only
  rw [show 44 * (k + 1) = 44 * k + 44 by omega, List.take_add]
theorem take_count (rec : List UInt8) : rec.take (44 * countN rec.length) = rec := List.take_of_length_le (by unfold countN; omega)
theorem join_pack (number : Nat) (rec : List UInt8) (more : List (List UInt8)) (h1 : 1 <= number) (h2 : number <= mostN) (hr : rec.length <= 8000) :
  joinL (packL number rec ++ more) = ⟨number, rec, countN rec.length, 0⟩ := by
 have hp := count_pos rec.length
 have hat : ∀ i, i < countN rec.length -> (packL number rec ++ more)[i]? = some (packAt number rec i) := fun i hi => by
  rw [List.getElem?_append_left (by rw [packL_len]; exact hi)]
  exact packL_at _ _ _ hi
 have hl : (packL number rec ++ more).length = countN rec.length + more.length := by rw [List.length_append, packL_len]
 have hJ := join_fits number rec (packL number rec ++ more) (fun i hi => ⟨_, hat i hi, fit_pack number rec i h1 h2 hr hi⟩) _ (Nat.le_refl _)
 have h0 := hat 0 hp
 unfold joinL
 split
 ·rename_i e; rw [e] at h0; simp at h0
 ·rename_i s0 r e
  have hs0 : s0 = packAt number rec 0 := by rw [e] at h0; simpa using h0
  subst hs0
  rw [if_pos (packAt_len _ _ _), open_pack number rec 0 h1 h2 hr hp]
  dsimp only
  rw [if_pos rfl, Nat.mul_zero, Nat.sub_zero, if_neg (by omega), hJ, take_count]
def tornL (s t : List UInt8) (k : Nat) : List UInt8 := s.take k ++ t.drop k
theorem torn_len {s t : List UInt8} {k : Nat} (hs : s.length = 64) (ht : t.length = 64) : (tornL s t k).length = 64 := by
 unfold tornL
 rw [List.length_append, List.length_take, List.length_drop]
 omega
theorem open_ends {s : List UInt8} {p : PartL} (h : openL s = some p) : s.take 8 = s.drop 56 /\ p.number = getL (s.take 8) /\ 1 <= p.number := by
 unfold openL at h
 split at h
 ·rename_i hc
  cases h
  exact ⟨hc.1, rfl, hc.2.1⟩
 ·cases h
def zeroL : List UInt8 := List.replicate 64 0
theorem open_zero : openL zeroL = none := by
 unfold openL
 rw [if_neg]
 rintro ⟨_, h, _⟩
 have : getL (zeroL.take 8) = 0 := by decide
 omega
theorem fit_open {number left0 i : Nat} {s t : List UInt8} (h : fitL number left0 i s = some t) : ∃ p, s.length = 64 /\ openL s = some p /\ p.number = number /\ p.part = i /\ (p.left : Int) = left0 - 44 * i /\ p.text = t := by
 unfold fitL at h
 split at h
 ·rename_i hl
  split at h
  ·rename_i p hp
   split at h
   ·rename_i hc
    cases h
    exact ⟨p, hl, hp, hc.1, hc.2.1, hc.2.2, rfl⟩
   ·cases h
  ·cases h
 ·cases h
theorem joinTo_fits {number left0 : Nat} {l : List (List UInt8)} : ∀ {k : Nat} {t : List UInt8}, joinTo number left0 l k = some t -> ∀ i, i < k -> ∃ s x, l[i]? = some s /\ fitL number left0 i s = some x
 | 0, _, _, i, hi => by omega
 | k + 1, t, h, i, hi => by
  rw [joinTo] at h
  split at h
  ·cases h
  ·rename_i t0 h0
   split at h
   ·cases h
   ·rename_i s hs
    split at h
    ·cases h
    ·rename_i x hx
     by_cases e : i < k
     ·exact joinTo_fits h0 i e
     ·have : i = k := by omega
      subst this
      exact ⟨s, x, hs, hx⟩
end Go.Proofs.YtpghocekofdpbaaGreatDoor.Sec
