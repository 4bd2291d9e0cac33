import Derived.Test.YtpghocekofdpbaaGreatDoorQb16
namespace Go.Proofs.YtpghocekofdpbaaGreatDoor
open Sec (packL packAt countN mostN joinL openL secText getL putL putL_len get_put put_get PartL packL_len packL_at packAt_len count_pos join_pack open_ends open_pack)
structure PutX (T T' : Rows8) (o : Nat) (P : Rows8) : Prop where
 len : T'.length = T.length
 at_ : ∀ (i : Nat) (s : List UInt8), T'[i]? = some s -> T[i]? = some s \/ (∃ k, i = o + k /\ P[k]? = some s) \/ openL s = none
 out : ∀ i, i < o \/ o + P.length <= i -> T'[i]? = T[i]?
theorem putx_join {T T' : Rows8} {o N : Nat} {t : List UInt8} (h : PutX T T' o (packL N t)) (hN : 1 <= N /\ N <= mostN) (ht : t.length <= 8000) (hu : Under T N) (b hh u : Nat) (hb : b + hh <= T.length)
  (hj : (joinL (bankAt T' b hh u)).e = 0) :
  ((joinL (bankAt T' b hh u)).number < N /\ joinL (bankAt T b hh u) = joinL (bankAt T' b hh u)) \/
  ((joinL (bankAt T' b hh u)).number = N /\ b + u = o /\ ∀ k, k < countN t.length -> T'[o + k]? = (packL N t)[k]?) := by
 have hl' : (bankAt T' b hh u).length = hh - u := bankAt_len _ _ _ _ (by rw [h.len]; exact hb)
 have hus := join_used hj
 rw [hl'] at hus
 have hget : ∀ i, i < (joinL (bankAt T' b hh u)).used -> (bankAt T' b hh u)[i]? = T'[b + u + i]? := fun i hi => bankAt_get _ _ _ _ _ (by omega)
 have hparts := fun i hi => join_parts hj i hi
 have hpk : ∀ (k : Nat) (s : List UInt8) (p : PartL), (packL N t)[k]? = some s -> openL s = some p -> p.number = N /\ p.part = k /\ k < countN t.length /\ p.left = t.length - 44 * k := by
  intro k s p hk hp
  have hkl : k < countN t.length := by
   have := (List.getElem?_eq_some_iff.1 hk).1
   rw [packL_len] at this
   exact this
  rw [packL_at N t k hkl] at hk
  cases hk
  rw [open_pack N t k hN.1 hN.2 ht hkl] at hp
  cases hp
  exact ⟨rfl, rfl, hkl, rfl⟩
 by_cases hn : (joinL (bankAt T' b hh u)).number = N
 ·right
  have hpos : ∀ i, i < (joinL (bankAt T' b hh u)).used -> b + u = o /\ T'[o + i]? = (packL N t)[i]? := by
   intro i hi
   obtain ⟨s, p, hs, hp, p1, p2⟩ := hparts i hi
   rw [hget i hi] at hs
   rcases h.at_ _ s hs with h1 | ⟨k, hk, h2⟩ | h3
   ·have := hu _ s p h1 hp
    omega
   ·obtain ⟨_, q2, _⟩ := hpk k s p h2 hp
    have hki : k = i := by omega
    subst hki
    have ho : b + u = o := by omega
    exact ⟨ho, by rw [<- ho, hs, h2]⟩
   ·rw [h3] at hp; cases hp
  obtain ⟨ho, _⟩ := hpos 0 (by omega)
  refine ⟨hn, ho, fun k hk => ?_⟩
  obtain ⟨s0, p0, t0, g1, _, g2, g3, _, _, ge⟩ := join_head hj
  have g1' : (bankAt T' b hh u)[0]? = some s0 := g1
  rw [hget 0 (by omega)] at g1'
  have hleft : p0.left = t.length := by
   rcases h.at_ _ s0 g1' with h1 | ⟨k, hk, h2⟩ | h3
   ·have := hu _ s0 p0 h1 g2
    rw [ge] at hn
    dsimp only at hn
    omega
   ·obtain ⟨_, q2, _, q4⟩ := hpk k s0 p0 h2 g2
    have : k = 0 := by omega
    subst this
    rw [q4]
    omega
   ·rw [h3] at g2; cases g2
  have hused : (joinL (bankAt T' b hh u)).used = countN t.length := by rw [ge, <- hleft]
  exact (hpos k (by omega)).2
 ·left
  have hsame : ∀ i, i < (joinL (bankAt T' b hh u)).used -> (bankAt T b hh u)[i]? = (bankAt T' b hh u)[i]? := by
   intro i hi
   obtain ⟨s, p, hs, hp, p1, p2⟩ := hparts i hi
   rw [hget i hi] at hs
   rw [hget i hi, bankAt_get _ _ _ _ _ (by omega), hs]
   rcases h.at_ _ s hs with h1 | ⟨k, hk, h2⟩ | h3
   ·exact h1
   ·obtain ⟨q1, _⟩ := hpk k s p h2 hp
    exact absurd (p1.symm.trans q1) hn
   ·rw [h3] at hp; cases hp
  have hlt : (joinL (bankAt T' b hh u)).number < N := by
   obtain ⟨s, p, hs, hp, p1, p2⟩ := hparts 0 (by omega)
   rw [hget 0 (by omega)] at hs
   rcases h.at_ _ s hs with h1 | ⟨k, hk, h2⟩ | h3
   ·have := hu _ s p h1 hp
    omega
   ·obtain ⟨q1, _⟩ := hpk k s p h2 hp
    exact absurd (p1.symm.trans q1) hn
   ·rw [h3] at hp; cases hp
  exact ⟨hlt, join_same hj hsame⟩
theorem putx_under {T T' : Rows8} {o N : Nat} {t : List UInt8} (h : PutX T T' o (packL N t)) (hN : 1 <= N /\ N <= mostN) (ht : t.length <= 8000) (hu : Under T N) : Under T' (N + 1) := by
 intro i s p hs hp
 rcases h.at_ i s hs with h1 | ⟨k, _, h2⟩ | h3
 ·have := hu i s p h1 hp
  omega
 ·have hkl : k < countN t.length := by
   have := (List.getElem?_eq_some_iff.1 h2).1
   rw [packL_len] at this
   exact this
  rw [packL_at N t k hkl] at h2
  cases h2
  rw [open_pack N t k hN.1 hN.2 ht hkl] at hp
  cases hp
  show N < N + 1
  omega
 ·rw [h3] at hp; cases hp
section
variable {h : Nat} {J : Jrn} {M M' : List Sec} {t : ByteArray}
theorem restx_put {o N : Nat} (I : JInv h J M) (hp : PutX (nowL M) (nowL M') o (packL N t.data.toList)) (hb : o + countN t.size <= 2 * h) : ∀ (i : Nat) (s : List UInt8), 2 * h <= i -> (nowL M')[i]? = some s -> openL s = none := by
 intro i s hi hs
 rw [hp.out i (.inr (by rw [packL_len]; show o + countN t.size <= i; omega))] at hs
 exact I.rest i s hi hs
theorem crash_append (I : JInv h J M) (hN : J.next <= mostN) (ht : t.size <= 8000) (hr : J.used + countN t.size <= h) (hf : Fine M') (hcl : Clean M') (hp : PutX (nowL M) (nowL M') (J.bank * h + J.used) (packL J.next t.data.toList)) :
  JInv h { J with next := J.next + 1 } M' \/ JInv h ⟨J.bank, J.used + countN t.size, J.next + 1, J.l ++ [(J.next, t)], false⟩ M' := by
 have hc := count_pos t.size
 obtain ⟨b1, b2⟩ := I.banks
 have hML : M'.length = M.length := by have := hp.len; rwa [nowL_len, nowL_len] at this
 have hr3 : J.bank * h + J.used + countN t.size <= 2 * h := by
  rcases I.bank with e | e <;> rw [e] <;> omega
 have hNN : 1 <= J.next /\ J.next <= mostN := ⟨I.next, hN⟩
 have hjoin := fun (b u : Nat) (hbb : b + h <= (nowL M).length) => putx_join hp hNN ht I.under b h u hbb
 obtain ⟨xs, hpath, hxs⟩ := I.path
 have hT : J.bank * h + h <= (nowL M).length := by rw [nowL_len]; exact b1
 have hT2 : (1 - J.bank) * h + h <= (nowL M).length := by rw [nowL_len]; exact b2
 have hT' : J.bank * h + h <= (nowL M').length := by rw [hp.len]; exact hT
 have hlen : (bankAt (nowL M') (J.bank * h) h 0).length = (bankAt (nowL M) (J.bank * h) h 0).length := by rw [bankAt_len _ _ _ _ hT', bankAt_len _ _ _ _ hT]
 have hkeep : ∀ i, i < J.used -> (bankAt (nowL M') (J.bank * h) h 0)[i]? = (bankAt (nowL M) (J.bank * h) h 0)[i]? := by
  intro i hi
  have := I.used
  rw [bankAt_get _ _ _ _ _ (by omega), bankAt_get _ _ _ _ _ (by omega)]
  exact hp.out _ (.inl (by omega))
 have hpath2 := path_keep hlen hpath hkeep
 have hplace : ¬ (1 - J.bank) * h + 0 = J.bank * h + J.used := by
  have := I.pos
  rcases I.bank with e | e <;> rw [e] <;> simp <;> omega
 have hoth : (joinL (bankAt (nowL M') ((1 - J.bank) * h) h 0)).e = 0 -> J.l ≠ [] /\ (joinL (bankAt (nowL M') ((1 - J.bank) * h) h 0)).number < firstN J.l := by
  intro he
  rcases hjoin _ 0 hT2 he with ⟨_, e⟩ | ⟨_, e, _⟩
  ·rw [<- e] at he ⊢
   exact I.other he
  ·exact absurd e hplace
 by_cases hall : ∀ k, k < countN t.data.toList.length -> (nowL M')[J.bank * h + J.used + k]? = (packL J.next t.data.toList)[k]?
 ·right
  have hnew := rec_new (T' := nowL M') (last := lastN J.l) hT' hNN ht (by omega : J.used + countN t.size <= h) I.last hall
  refine ⟨hf, hcl, by rw [hML]; exact I.len, I.pos, I.bank, by show J.used + countN t.size <= h; omega, by show 1 <= J.next + 1; omega, putx_under hp hNN ht I.under, by show lastN (J.l ++ [(J.next, t)]) < J.next + 1; rw [lastN_snoc]; omega, ⟨xs ++ [(J.used + countN t.size, J.next, t.data.toList)], ?_, ?_⟩, ?_, ?_, ?_, restx_put I hp hr3⟩
  ·show Path _ 0 0 _ (J.used + countN t.size) (lastN (J.l ++ [(J.next, t)]))
   rw [lastN_snoc]
   exact path_snoc hpath2 hnew
  ·show _ = (J.l ++ [(J.next, t)]).map _
   rw [List.map_append, hxs, List.map_append]
   rfl
  ·show recAt (bankAt (nowL M') (J.bank * h) h 0) (J.used + countN t.size) (lastN (J.l ++ [(J.next, t)])) = none
   rw [lastN_snoc]
   refine rec_none hT' (fun hu he => ?_)
   rcases hjoin _ _ hT he with ⟨e, _⟩ | ⟨_, e, _⟩
   ·omega
   ·omega
  ·show (joinL (bankAt (nowL M') ((1 - J.bank) * h) h 0)).e = 0 -> J.l ++ [(J.next, t)] ≠ [] /\ (joinL (bankAt (nowL M') ((1 - J.bank) * h) h 0)).number < firstN (J.l ++ [(J.next, t)])
   intro he
   obtain ⟨h1, h2⟩ := hoth he
   exact ⟨by simp, by rw [firstN_snoc _ _ h1]; exact h2⟩
  ·show J.l ++ [(J.next, t)] = [] -> _
   intro e
   simp at e
 ·left
  refine ⟨hf, hcl, by rw [hML]; exact I.len, I.pos, I.bank, I.used, by show 1 <= J.next + 1; omega, putx_under hp hNN ht I.under, Nat.lt_succ_of_lt I.last, ⟨xs, hpath2, hxs⟩, ?_, hoth, I.none0, restx_put I hp hr3⟩
  refine rec_none hT' (fun hu he => ?_)
  rcases hjoin _ _ hT he with ⟨_, e⟩ | ⟨_, _, hg⟩
  ·rw [<- e] at he ⊢
   exact stop_up hT I.stop hu he
  ·exact absurd hg hall
theorem crash_compact (I : JInv h J M) (hN : J.next <= mostN) (ht : t.size <= 8000) (hr : countN t.size <= h) (hf : Fine M') (hcl : Clean M') (hp : PutX (nowL M) (nowL M') ((1 - J.bank) * h) (packL J.next t.data.toList)) :
  JInv h { J with next := J.next + 1 } M' \/ JInv h ⟨1 - J.bank, countN t.size, J.next + 1, [(J.next, t)], false⟩ M' := by
 have hc := count_pos t.size
 obtain ⟨b1, b2⟩ := I.banks
 have hML : M'.length = M.length := by have := hp.len; rwa [nowL_len, nowL_len] at this
 have hNN : 1 <= J.next /\ J.next <= mostN := ⟨I.next, hN⟩
 have hjoin := fun (b u : Nat) (hbb : b + h <= (nowL M).length) => putx_join hp hNN ht I.under b h u hbb
 have hT : J.bank * h + h <= (nowL M).length := by rw [nowL_len]; exact b1
 have hT2 : (1 - J.bank) * h + h <= (nowL M).length := by rw [nowL_len]; exact b2
 have hT' : J.bank * h + h <= (nowL M').length := by rw [hp.len]; exact hT
 have hT2' : (1 - J.bank) * h + h <= (nowL M').length := by rw [hp.len]; exact hT2
 have hr2 : (1 - J.bank) * h + countN t.size <= 2 * h := by rcases I.bank with e | e <;> rw [e] <;> simp <;> omega
 by_cases hall : ∀ k, k < countN t.data.toList.length -> (nowL M')[(1 - J.bank) * h + k]? = (packL J.next t.data.toList)[k]?
 ·right
  have hnew := rec_new (T' := nowL M') (u := 0) (last := 0) hT2' hNN ht (by omega : 0 + countN t.size <= h) hNN.1 (fun k hk => by rw [Nat.add_zero]; exact hall k hk)
  rw [Nat.zero_add] at hnew
  have hbk : 1 - J.bank = 0 \/ 1 - J.bank = 1 := by omega
  have hbb : 1 - (1 - J.bank) = J.bank := by rcases I.bank with e | e <;> rw [e]
  refine ⟨hf, hcl, by rw [hML]; exact I.len, I.pos, hbk, by show countN t.size <= h; omega, by show 1 <= J.next + 1; omega, putx_under hp hNN ht I.under, by show J.next < J.next + 1; omega, ⟨[(countN t.size, J.next, t.data.toList)], .cons hnew (.nil _ _), rfl⟩, ?_, ?_, fun e => (by cases e), restx_put I hp hr2⟩
  ·show recAt (bankAt (nowL M') ((1 - J.bank) * h) h 0) (countN t.size) J.next = none
   refine rec_none hT2' (fun hu he => ?_)
   rcases hjoin _ _ hT2 he with ⟨e, _⟩ | ⟨_, e, _⟩
   ·omega
   ·omega
  ·show (joinL (bankAt (nowL M') ((1 - (1 - J.bank)) * h) h 0)).e = 0 -> [(J.next, t)] ≠ [] /\ (joinL (bankAt (nowL M') ((1 - (1 - J.bank)) * h) h 0)).number < J.next
   rw [hbb]
   intro he
   refine ⟨by simp, ?_⟩
   rcases hjoin _ 0 hT he with ⟨e, _⟩ | ⟨_, e, _⟩
   ·exact e
   ·exfalso
    have := I.pos
    rcases I.bank with e0 | e0 <;> rw [e0] at e <;> simp at e <;> omega
 ·left
  obtain ⟨xs, hpath, hxs⟩ := I.path
  have hlen : (bankAt (nowL M') (J.bank * h) h 0).length = (bankAt (nowL M) (J.bank * h) h 0).length := by rw [bankAt_len _ _ _ _ hT', bankAt_len _ _ _ _ hT]
  have hkeep : ∀ i, i < J.used -> (bankAt (nowL M') (J.bank * h) h 0)[i]? = (bankAt (nowL M) (J.bank * h) h 0)[i]? := by
   intro i hi
   have hu := I.used
   rw [bankAt_get _ _ _ _ _ (by omega), bankAt_get _ _ _ _ _ (by omega)]
   refine hp.out _ ?_
   rw [packL_len]
   have hcc : countN t.data.toList.length = countN t.size := rfl
   rcases I.bank with e | e <;> rw [e] <;> simp <;> omega
  refine ⟨hf, hcl, by rw [hML]; exact I.len, I.pos, I.bank, I.used, by show 1 <= J.next + 1; omega, putx_under hp hNN ht I.under, Nat.lt_succ_of_lt I.last, ⟨xs, path_keep hlen hpath hkeep, hxs⟩, ?_, ?_, I.none0, restx_put I hp hr2⟩
  ·show recAt (bankAt (nowL M') (J.bank * h) h 0) J.used (lastN J.l) = none
   refine rec_none hT' (fun hu he => ?_)
   rcases hjoin _ _ hT he with ⟨_, e⟩ | ⟨_, e, _⟩
   ·rw [<- e] at he ⊢
    exact stop_up hT I.stop hu he
   ·exfalso
    have := I.pos
    rcases I.bank with e0 | e0 <;> rw [e0] at e <;> simp at e <;> omega
  ·intro he
   rcases hjoin _ 0 hT2 he with ⟨_, e⟩ | ⟨_, _, hg⟩
   ·have h3 := I.other
    rw [e] at h3
    exact h3 he
   ·exact absurd hg hall
end
theorem zero_form : ∀ l : List UInt8, getL l = 0 -> l = List.replicate l.length 0
 | [], _ => rfl
 | b :: r, h => by
  have h1 : b.toNat + 256 * getL r = 0 := h
  have hb : b = 0 := UInt8.toNat_inj.1 (by show b.toNat = 0; omega)
  rw [hb, List.length_cons, List.replicate_succ, <- zero_form r (by omega)]
theorem small_form (l : List UInt8) (hl : l.length = 8) (h : getL l < 256) : l = UInt8.ofNat (getL l) :: List.replicate 7 0 := by
 cases l with
 | nil => cases hl
 | cons b r =>
  have h1 : b.toNat + 256 * getL r < 256 := h
  have hr : getL r = 0 := by omega
  have hrl : r.length = 7 := by simpa using hl
  have h2 := zero_form r hr
  rw [hrl] at h2
  have h3 : getL (b :: r) = b.toNat := by show b.toNat + 256 * getL r = _; omega
  rw [h3, UInt8.ofNat_toNat, h2]
theorem mix_form (a b : UInt8) (z : List UInt8) (n : Nat) (hn : 1 <= n) : (b :: z).take n ++ (a :: z).drop n = b :: z := by
 cases n with
 | zero => omega
 | succ n => rw [List.take_succ_cons, List.drop_succ_cons, List.cons_append, List.take_append_drop]
theorem drop_mix (y x : List UInt8) (n m : Nat) (hy : m <= y.length) (h : n <= m) : (y.take n ++ x.drop n).drop m = x.drop m := by
 have e : (y.take n).length = n := by rw [List.length_take]; omega
 rw [List.drop_append, List.drop_of_length_le (by rw [e]; exact h), List.nil_append, e, List.drop_drop]
 congr 1
 omega
theorem drop_mix2 (y x : List UInt8) (n m : Nat) (hy : n <= y.length) (h : m <= n) : (y.take n ++ x.drop n).drop m = (y.drop m).take (n - m) ++ (x.drop m).drop (n - m) := by
 have e : (y.take n).length = n := by rw [List.length_take]; omega
 rw [List.drop_append, e, List.drop_take, show m - n = 0 by omega, List.drop_zero, List.drop_drop, show m + (n - m) = n by omega]
theorem take_mix (y x : List UInt8) (n m : Nat) (hy : n <= y.length) : (y.take n ++ x.drop n).take m = (y.take m).take n ++ (x.take m).drop n := by
 have e : (y.take n).length = n := by rw [List.length_take]; omega
 rw [List.take_append, e, List.take_take, List.take_take, List.drop_take, Nat.min_comm]
theorem torn_sector {N j : Nat} {rec y x : List UInt8} (h0 : 1 <= N) (hN : N <= 255) (hy : y = packAt N rec j) (hx : x.length = 64) (x1 : getL (x.take 8) < N) (x2 : getL (x.drop 56) < N) (n : Nat) (hn : n <= 64) :
  (y.take n ++ x.drop n = x \/ y.take n ++ x.drop n = y \/ openL (y.take n ++ x.drop n) = none) /\ getL ((y.take n ++ x.drop n).take 8) < N + 1 /\ getL ((y.take n ++ x.drop n).drop 56) < N + 1 := by
 have hmN : N <= mostN := by unfold Sec.mostN; omega
 have hyl : y.length = 64 := by rw [hy]; exact packAt_len _ _ _
 obtain ⟨y1, y2⟩ := pack_ends N rec j hmN
 rw [<- hy, hyl] at y2
 rw [<- hy] at y1
 have y2' : getL (y.drop 56) = N := y2
 clear y2
 have fy1 := small_form (y.take 8) (by rw [List.length_take]; omega) (by omega)
 have fy2 := small_form (y.drop 56) (by rw [List.length_drop]; omega) (by omega)
 have fx1 := small_form (x.take 8) (by rw [List.length_take]; omega) (by omega)
 have fx2 := small_form (x.drop 56) (by rw [List.length_drop]; omega) (by omega)
 rw [y1] at fy1
 rw [y2'] at fy2
 by_cases hz : n = 0
 ·subst hz
  rw [List.take_zero, List.drop_zero, List.nil_append]
  exact ⟨.inl rfl, by omega, by omega⟩
 have hhead : (y.take n ++ x.drop n).take 8 = y.take 8 := by
  rw [take_mix y x n 8 (by omega), fx1, fy1]
  exact mix_form _ _ _ n (by omega)
 rw [hhead, y1]
 by_cases h56 : n <= 56
 ·have ht := drop_mix y x n 56 (by omega) h56
  rw [ht]
  refine ⟨.inr (.inr ?_), by omega, by omega⟩
  cases ho : openL (y.take n ++ x.drop n) with
  | none => rfl
  | some p =>
   obtain ⟨e, _⟩ := open_ends ho
   rw [hhead, ht] at e
   rw [<- e, y1] at x2
   omega
 ·have htail : (y.take n ++ x.drop n).drop 56 = y.drop 56 := by
   rw [drop_mix2 y x n 56 (by omega) (by omega), fx2, fy2]
   exact mix_form _ _ _ (n - 56) (by omega)
  have hd : x.drop n = y.drop n := by
   have e1 : x.drop n = (x.drop 56).drop (n - 56) := by rw [List.drop_drop]; congr 1; omega
   have e2 : y.drop n = (y.drop 56).drop (n - 56) := by rw [List.drop_drop]; congr 1; omega
   obtain ⟨m, hm⟩ : ∃ m, n - 56 = m + 1 := ⟨n - 57, by omega⟩
   rw [e1, e2, fx2, fy2, hm, List.drop_succ_cons, List.drop_succ_cons]
  refine ⟨.inr (.inl ?_), by omega, by rw [htail]; omega⟩
  rw [hd, List.take_append_drop]
end Go.Proofs.YtpghocekofdpbaaGreatDoor
