import Derived.Test.YtpghocekofdpbaaGreatDoorQb13
namespace Go.Proofs.YtpghocekofdpbaaGreatDoor
open Sec
abbrev Rows8 := List (List UInt8)
theorem joinTo_same {N L : Nat} {l l' : Rows8} : ∀ (k : Nat), (∀ i, i < k -> l'[i]? = l[i]?) -> joinTo N L l' k = joinTo N L l k
 | 0, _ => rfl
 | k + 1, h => by
  unfold joinTo
  rw [joinTo_same k (fun i hi => h i (by omega)), h k (by omega)]
theorem join_head {l : Rows8} (h : (joinL l).e = 0) : ∃ s0 p t, l[0]? = some s0 /\ s0.length = 64 /\ openL s0 = some p /\ p.part = 0 /\ countN p.left <= l.length /\ joinTo p.number p.left l (countN p.left) = some t /\ joinL l = ⟨p.number, t, countN p.left, 0⟩ := by
 cases l with
 | nil => simp [joinL] at h
 | cons s0 r =>
  unfold joinL at h ⊢
  dsimp only at h ⊢
  split at h
  ·rename_i h64
   rw [if_pos h64]
   split at h
   ·cases h
   ·rename_i p hp
    split at h
    ·rename_i hpart
     split at h
     ·cases h
     ·rename_i hlen
      split at h
      ·cases h
      ·rename_i t ht
       refine ⟨s0, p, t, rfl, h64, hp, hpart, by omega, ht, ?_⟩
       rw [if_pos hpart, if_neg hlen]
    ·cases h
  ·cases h
theorem join_used {l : Rows8} (h : (joinL l).e = 0) : 1 <= (joinL l).used /\ (joinL l).used <= l.length := by
 obtain ⟨s0, p, t, _, _, _, _, hl, _, e⟩ := join_head h
 rw [e]
 exact ⟨count_pos _, hl⟩
theorem join_parts {l : Rows8} (h : (joinL l).e = 0) (i : Nat) (hi : i < (joinL l).used) : ∃ s p, l[i]? = some s /\ openL s = some p /\ p.number = (joinL l).number /\ p.part = i := by
 obtain ⟨s0, p, t, _, _, _, _, _, ht, e⟩ := join_head h
 rw [e] at hi ⊢
 obtain ⟨s, x, hs, hf⟩ := joinTo_fits ht i hi
 obtain ⟨q, _, hq, q1, q2, _⟩ := fit_open hf
 exact ⟨s, q, hs, hq, q1, q2⟩
theorem join_same {l l' : Rows8} (h : (joinL l).e = 0) (hl : ∀ i, i < (joinL l).used -> l'[i]? = l[i]?) : joinL l' = joinL l := by
 have hu := join_used h
 obtain ⟨s0, p, t, h0, h64, hp, hpart, hlen, ht, e⟩ := join_head h
 rw [e] at hl ⊢
 dsimp only at hl
 have hc := count_pos p.left
 have h0' : l'[0]? = some s0 := (hl 0 (by omega)).trans h0
 have hlen' : countN p.left <= l'.length := by
  have hx : l[countN p.left - 1]? = some (l[countN p.left - 1]'(by omega)) := List.getElem?_eq_getElem (by omega)
  have := (List.getElem?_eq_some_iff.1 ((hl (countN p.left - 1) (by omega)).trans hx)).1
  omega
 have ht' : joinTo p.number p.left l' (countN p.left) = some t := (joinTo_same _ hl).trans ht
 cases l' with
 | nil => simp at h0'
 | cons s r =>
  simp at h0'
  subst h0'
  unfold joinL
  dsimp only
  rw [if_pos h64, hp]
  dsimp only
  rw [if_pos hpart, if_neg (by omega), ht']
def bankAt (T : Rows8) (o h u : Nat) : Rows8 := ((T.drop o).take h).drop u
theorem bankAt_get (T : Rows8) (o h u i : Nat) (hi : u + i < h) : (bankAt T o h u)[i]? = T[o + u + i]? := by
 unfold bankAt
 rw [List.getElem?_drop, List.getElem?_take, if_pos hi, List.getElem?_drop, Nat.add_assoc]
theorem bankAt_len (T : Rows8) (o h u : Nat) (hT : o + h <= T.length) : (bankAt T o h u).length = h - u := by
 unfold bankAt
 rw [List.length_drop, List.length_take, List.length_drop]
 omega
def recAt (B : Rows8) (u last : Nat) : Option (Nat × Nat × List UInt8) :=
 if u < B.length /\ (joinL (B.drop u)).e = 0 /\ last < (joinL (B.drop u)).number then some (u + (joinL (B.drop u)).used, (joinL (B.drop u)).number, (joinL (B.drop u)).text) else none
theorem recAt_up {B : Rows8} {u last : Nat} {x : Nat × Nat × List UInt8} (h : recAt B u last = some x) : u < x.1 /\ x.1 <= B.length /\ last < x.2.1 := by
 unfold recAt at h
 split at h
 ·rename_i hc
  cases h
  have := join_used hc.2.1
  rw [List.length_drop] at this
  exact ⟨by dsimp only; omega, by dsimp only; omega, hc.2.2⟩
 ·cases h
def recsF : Nat -> Rows8 -> Nat -> Nat -> List (Nat × Nat × List UInt8)
 | 0, _, _, _ => []
 | f + 1, B, u, last => match recAt B u last with
  | none => []
  | some x => x :: recsF f B x.1 x.2.1
def recs (B : Rows8) : List (Nat × Nat × List UInt8) := recsF (B.length + 1) B 0 0
inductive Path (B : Rows8) : Nat -> Nat -> List (Nat × Nat × List UInt8) -> Nat -> Nat -> Prop
 | nil (u last : Nat) : Path B u last [] u last
 | cons {u last : Nat} {x : Nat × Nat × List UInt8} {xs : List (Nat × Nat × List UInt8)} {u' last' : Nat} (h : recAt B u last = some x) (r : Path B x.1 x.2.1 xs u' last') : Path B u last (x :: xs) u' last'
theorem path_recs {B : Rows8} {u last u' last' : Nat} {xs : List (Nat × Nat × List UInt8)} (h : Path B u last xs u' last') (he : recAt B u' last' = none) : ∀ f, B.length < f + u -> recsF f B u last = xs := by
 induction h with
 | nil u last =>
  intro f hf
  cases f with
  | zero => rfl
  | succ f => unfold recsF; rw [he]
 | cons hx r ih =>
  intro f hf
  cases f with
  | zero =>
   have := recAt_up hx
   omega
  | succ f =>
   have := recAt_up hx
   unfold recsF
   rw [hx]
   dsimp only
   rw [ih he f (by omega)]
theorem path_snoc {B : Rows8} {u last u' last' : Nat} {xs : List (Nat × Nat × List UInt8)} {x : Nat × Nat × List UInt8} (h : Path B u last xs u' last') (hx : recAt B u' last' = some x) : Path B u last (xs ++ [x]) x.1 x.2.1 := by
 induction h with
 | nil u last => exact .cons hx (.nil _ _)
 | cons hy r ih => exact .cons hy (ih hx)
theorem path_up {B : Rows8} {u last u' last' : Nat} {xs : List (Nat × Nat × List UInt8)} (h : Path B u last xs u' last') : u <= u' /\ last <= last' := by
 induction h with
 | nil u last => exact ⟨Nat.le_refl _, Nat.le_refl _⟩
 | cons hx r ih =>
  have := recAt_up hx
  omega
theorem path_keep {B B' : Rows8} (hl : B'.length = B.length) {u last u' last' : Nat} {xs : List (Nat × Nat × List UInt8)} (h : Path B u last xs u' last') (hk : ∀ i, i < u' -> B'[i]? = B[i]?) : Path B' u last xs u' last' := by
 induction h with
 | nil u last => exact .nil _ _
 | cons hx r ih =>
  refine .cons ?_ (ih hk)
  rename_i u last x xs u' last'
  have h1 := path_up r
  unfold recAt at hx ⊢
  split at hx
  ·rename_i hc
   cases hx
   dsimp only at h1
   have e : joinL (B'.drop u) = joinL (B.drop u) := join_same hc.2.1 (fun i hi => by
    rw [List.getElem?_drop, List.getElem?_drop]
    exact hk _ (by omega))
   rw [e, if_pos ⟨by rw [hl]; exact hc.1, hc.2⟩]
  ·cases hx
structure PutT (T T' : Rows8) (o : Nat) (P : Rows8) : Prop where
 len : T'.length = T.length
 at_ : ∀ (i : Nat) (s : List UInt8), T'[i]? = some s -> T[i]? = some s \/ ∃ k, i = o + k /\ P[k]? = some s
 out : ∀ i, i < o \/ o + P.length <= i -> T'[i]? = T[i]?
def Under (T : Rows8) (N : Nat) : Prop := ∀ (i : Nat) (s : List UInt8) (p : PartL), T[i]? = some s -> openL s = some p -> p.number < N
theorem put_join {T T' : Rows8} {o N : Nat} {t : List UInt8} (h : PutT T T' o (packL N t)) (hN : 1 <= N /\ N <= mostN) (ht : t.length <= 8000) (hu : Under T N) (b hh u : Nat) (hb : b + hh <= T.length)
  (hj : (joinL (bankAt T' b hh u)).e = 0) :
  ((joinL (bankAt T' b hh u)).number < N /\ joinL (bankAt T b hh u) = joinL (bankAt T' b hh u)) \/
  ((joinL (bankAt T' b hh u)).number = N /\ b + u = o /\ ∀ k, k < countN t.length -> T'[o + k]? = (packL N t)[k]?) := by
 have hl' : (bankAt T' b hh u).length = hh - u := bankAt_len _ _ _ _ (by rw [h.len]; exact hb)
 have hus := join_used hj
 rw [hl'] at hus
 have hget : ∀ i, i < (joinL (bankAt T' b hh u)).used -> (bankAt T' b hh u)[i]? = T'[b + u + i]? := fun i hi => bankAt_get _ _ _ _ _ (by omega)
 have hparts := fun i hi => join_parts hj i hi
 have hpk : ∀ (k : Nat) (s : List UInt8) (p : PartL), (packL N t)[k]? = some s -> openL s = some p -> p.number = N /\ p.part = k /\ k < countN t.length /\ p.left = t.length - 44 * k := by
  intro k s p hk hp
  have hkl : k < countN t.length := by
   have := (List.getElem?_eq_some_iff.1 hk).1
   rw [packL_len] at this
   exact this
  rw [packL_at N t k hkl] at hk
  cases hk
  rw [open_pack N t k hN.1 hN.2 ht hkl] at hp
  cases hp
  exact ⟨rfl, rfl, hkl, rfl⟩
 by_cases hn : (joinL (bankAt T' b hh u)).number = N
 ·right
  have hpos : ∀ i, i < (joinL (bankAt T' b hh u)).used -> b + u = o /\ T'[o + i]? = (packL N t)[i]? := by
   intro i hi
   obtain ⟨s, p, hs, hp, p1, p2⟩ := hparts i hi
   rw [hget i hi] at hs
   rcases h.at_ _ s hs with h1 | ⟨k, hk, h2⟩
   ·have := hu _ s p h1 hp
    omega
   ·obtain ⟨_, q2, _⟩ := hpk k s p h2 hp
    have hki : k = i := by omega
    subst hki
    have ho : b + u = o := by omega
    exact ⟨ho, by rw [<- ho, hs, h2]⟩
  obtain ⟨ho, _⟩ := hpos 0 (by omega)
  refine ⟨hn, ho, fun k hk => ?_⟩
  obtain ⟨s0, p0, t0, g1, _, g2, g3, _, _, ge⟩ := join_head hj
  have g1' : (bankAt T' b hh u)[0]? = some s0 := g1
  rw [hget 0 (by omega)] at g1'
  have hleft : p0.left = t.length := by
   rcases h.at_ _ s0 g1' with h1 | ⟨k, hk, h2⟩
   ·have := hu _ s0 p0 h1 g2
    rw [ge] at hn
    dsimp only at hn
    omega
   ·obtain ⟨_, q2, _, q4⟩ := hpk k s0 p0 h2 g2
    have : k = 0 := by omega
    subst this
    rw [q4]
    omega
  have hused : (joinL (bankAt T' b hh u)).used = countN t.length := by rw [ge, <- hleft]
  exact (hpos k (by omega)).2
 ·left
  have hsame : ∀ i, i < (joinL (bankAt T' b hh u)).used -> (bankAt T b hh u)[i]? = (bankAt T' b hh u)[i]? := by
   intro i hi
   obtain ⟨s, p, hs, hp, p1, p2⟩ := hparts i hi
   rw [hget i hi] at hs
   rw [hget i hi, bankAt_get _ _ _ _ _ (by omega), hs]
   rcases h.at_ _ s hs with h1 | ⟨k, hk, h2⟩
   ·exact h1
   ·obtain ⟨q1, _⟩ := hpk k s p h2 hp
    exact absurd (p1.symm.trans q1) hn
  have hlt : (joinL (bankAt T' b hh u)).number < N := by
   obtain ⟨s, p, hs, hp, p1, p2⟩ := hparts 0 (by omega)
   rw [hget 0 (by omega)] at hs
   rcases h.at_ _ s hs with h1 | ⟨k, hk, h2⟩
   ·have := hu _ s p h1 hp
    omega
   ·obtain ⟨q1, _⟩ := hpk k s p h2 hp
    exact absurd (p1.symm.trans q1) hn
  exact ⟨hlt, join_same hj hsame⟩
theorem put_under {T T' : Rows8} {o N : Nat} {t : List UInt8} (h : PutT T T' o (packL N t)) (hN : 1 <= N /\ N <= mostN) (ht : t.length <= 8000) (hu : Under T N) : Under T' (N + 1) := by
 intro i s p hs hp
 rcases h.at_ i s hs with h1 | ⟨k, _, h2⟩
 ·have := hu i s p h1 hp
  omega
 ·have hkl : k < countN t.length := by
   have := (List.getElem?_eq_some_iff.1 h2).1
   rw [packL_len] at this
   exact this
  rw [packL_at N t k hkl] at h2
  cases h2
  rw [open_pack N t k hN.1 hN.2 ht hkl] at hp
  cases hp
  show N < N + 1
  omega
end Go.Proofs.YtpghocekofdpbaaGreatDoor
