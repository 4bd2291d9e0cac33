import Derived.Test.YtpghocekofdpbaaGreatDoorQa17
namespace Go.Proofs.YtpghocekofdpbaaGreatDoor
open Sec (packL packAt countN mostN joinL openL secText getL putL putL_len get_put PartL packL_len packL_at packAt_len count_pos zeroL open_zero take_app drop_app get_zeros)
def Low (T : Rows8) (m : Nat) : Prop := ∀ (i : Nat) (s : List UInt8), T[i]? = some s -> getL (s.take 8) < m /\ getL (s.drop (s.length - 8)) < m
theorem nx_mono {k m a : Nat} (h : a < m) (hk : k <= m) : nx k a <= m := by
 unfold nx
 split <;> omega
theorem jnext_low : ∀ (T : Rows8) (k m : Nat), Low T m -> k <= m -> jnext T k <= m
 | [], _, _, _, h => h
 | s :: r, k, m, h, hk => by
  show jnext r _ <= m
  obtain ⟨h1, h2⟩ := h 0 s rfl
  exact jnext_low r _ m (fun i t ht => h (i + 1) t (by simpa using ht)) (nx_mono h2 (nx_mono h1 hk))
theorem low_jnext : ∀ (T : Rows8) (k : Nat), Low T (mostN + 1) -> Low T (jnext T k)
 | [], _, _ => fun i s h => by simp at h
 | s :: r, k, h => by
  obtain ⟨h1, h2⟩ := h 0 s rfl
  intro i t ht
  show _ < jnext r _ /\ _ < jnext r _
  cases i with
  | zero =>
   cases ht
   have a1 := nx_lt k (getL (s.take 8)) (by omega)
   have a2 := nx_lt (nx k (getL (s.take 8))) (getL (s.drop (s.length - 8))) (by omega)
   have a3 := nx_le (nx k (getL (s.take 8))) (getL (s.drop (s.length - 8)))
   have a4 := jnext_le r (nx (nx k (getL (s.take 8))) (getL (s.drop (s.length - 8))))
   exact ⟨by omega, by omega⟩
  | succ i => exact low_jnext r _ (fun i t ht => h (i + 1) t (by simpa using ht)) i t (by simpa using ht)
theorem low_up {T : Rows8} {m n : Nat} (h : Low T m) (hn : m <= n) : Low T n := fun i s hs => by
 obtain ⟨h1, h2⟩ := h i s hs
 exact ⟨Nat.lt_of_lt_of_le h1 hn, Nat.lt_of_lt_of_le h2 hn⟩
theorem put_take {T T' : Rows8} {o : Nat} {P : Rows8} (h : PutT T T' o P) (n : Nat) (i : Nat) (s : List UInt8) (hs : (T'.take n)[i]? = some s) : (T.take n)[i]? = some s \/ ∃ k, i = o + k /\ P[k]? = some s := by
 rw [List.getElem?_take] at hs ⊢
 split at hs
 ·rename_i hi
  rw [if_pos hi]
  exact h.at_ i s hs
 ·cases hs
theorem pack_ends (N : Nat) (t : List UInt8) (i : Nat) (hN : N <= mostN) : getL ((packAt N t i).take 8) = N /\ getL ((packAt N t i).drop ((packAt N t i).length - 8)) = N := by
 have hn : N < 256 ^ 8 := by unfold Sec.mostN at hN; omega
 have e1 : (packAt N t i).take 8 = putL N 8 := take_app _ _ (putL_len _ _)
 have htl : ((t.drop (44 * i)).take 44).length = min (t.length - 44 * i) 44 := by rw [List.length_take, List.length_drop, Nat.min_comm]
 have e4 : (packAt N t i).drop 56 = putL N 8 := by
  unfold Sec.packAt
  rw [drop_app _ _ (putL_len 8 N) (by omega), drop_app _ _ (putL_len 2 i) (by omega), drop_app _ _ (putL_len 2 _) (by omega), drop_app _ _ htl (by omega), drop_app _ _ (List.length_replicate) (by rw [htl]; omega), htl]
  rw [show 56 - 8 - 2 - 2 - min (t.length - 44 * i) 44 - (44 - min (t.length - 44 * i) 44) = 0 by omega]
  rfl
 rw [packAt_len, show 64 - 8 = 56 by rfl, e1, e4]
 exact ⟨get_put 8 N hn, get_put 8 N hn⟩
theorem low_put {T T' : Rows8} {o N : Nat} {t : List UInt8} (h : PutT T T' o (packL N t)) (hN : N <= mostN) (n : Nat) (hl : Low (T.take n) N) : Low (T'.take n) (N + 1) := by
 intro i s hs
 rcases put_take h n i s hs with h1 | ⟨k, _, h2⟩
 ·obtain ⟨a, b⟩ := hl i s h1
  exact ⟨by omega, by omega⟩
 ·unfold Sec.packL at h2
  rw [List.getElem?_map] at h2
  obtain ⟨j, _, rfl⟩ := Option.map_eq_some_iff.1 h2
  obtain ⟨a, b⟩ := pack_ends N t j hN
  rw [a, b]
  exact ⟨Nat.lt_succ_self N, Nat.lt_succ_self N⟩
section
variable {h : Nat} {J : Jrn} {M : List Sec} {t : ByteArray}
theorem append_low (I : JInv h J M) (hN : J.next <= mostN) (hl : Low ((nowL M).take (2 * h)) J.next) : Low ((nowL (jappend h t J M).2.2).take (2 * h)) (jappend h t J M).2.1.next := by
 unfold jappend
 split
 ·exact hl
 split
 ·exact hl
 rename_i hr
 have hb : J.bank * h + J.used + countN t.size <= M.length := by
  have := I.len
  rcases I.bank with e | e <;> rw [e] <;> omega
 have hp := low_put (put_rows (t := t) (N := J.next) I.fine I.clean hb) hN (2 * h) hl
 split
 ·exact hp
 ·exact hp
theorem compact_low (I : JInv h J M) (hN : J.next <= mostN) (hl : Low ((nowL M).take (2 * h)) J.next) : Low ((nowL (jcompact h t J M).2.2).take (2 * h)) (jcompact h t J M).2.1.next := by
 unfold jcompact
 split
 ·exact hl
 rename_i hr
 have hb : (1 - J.bank) * h + countN t.size <= M.length := by
  have := I.banks.2
  omega
 have hp := low_put (put_rows (t := t) (N := J.next) I.fine I.clean hb) hN (2 * h) hl
 split
 ·exact hp
 ·exact hp
theorem open_low (I : JInv h J M) (hl : Low ((nowL M).take (2 * h)) J.next) : (jopen h M).next <= J.next := jnext_low _ 1 _ hl I.next
theorem open_ends_low (hN : J.next <= mostN) (hl : Low ((nowL M).take (2 * h)) J.next) : Low ((nowL M).take (2 * h)) (jopen h M).next := low_jnext _ 1 (low_up hl (by omega))
theorem jopen_eq (I : JInv h J M) : jopen h M = ⟨J.bank, J.used, jnext ((nowL M).take (2 * h)) 1, J.l, false⟩ := by
 obtain ⟨e1, e2, e3⟩ := open_finds I
 rw [<- e1, <- e2, <- e3]
 rfl
end
def J0 : Jrn := ⟨0, 0, 1, [], false⟩
theorem zero_join (l : Rows8) (hl : ∀ s ∈ l, s = zeroL) : (joinL l).e ≠ 0 := by
 intro h
 obtain ⟨s0, p, _, h0, _, hp, _⟩ := join_head h
 rw [hl s0 (List.mem_of_getElem? h0), open_zero] at hp
 cases hp
theorem blank_now (n : Nat) : ∀ s ∈ nowL (List.replicate n Sec.blank), s = zeroL := by
 intro s hs
 unfold nowL at hs
 obtain ⟨x, hx, rfl⟩ := List.mem_map.1 hs
 rw [List.eq_of_mem_replicate hx]
 rfl
theorem bank_mem {T : Rows8} {o hh u : Nat} {s : List UInt8} (h : s ∈ bankAt T o hh u) : s ∈ T := by
 unfold bankAt at h
 exact List.mem_of_mem_drop (List.mem_of_mem_take (List.mem_of_mem_drop h))
theorem fresh_inv (n h : Nat) (h1 : 1 <= h) (hn : 2 * h <= n) : JInv h J0 (List.replicate n Sec.blank) := by
 have hz : ∀ o hh u, (joinL (bankAt (nowL (List.replicate n Sec.blank)) o hh u)).e ≠ 0 := fun o hh u => zero_join _ fun s hs => blank_now n s (bank_mem hs)
 refine ⟨fun x hx => ?_, fun x hx => ?_, by rw [List.length_replicate]; exact hn, h1, .inl rfl, Nat.zero_le _, Nat.le_refl _, fun i s p hs hp => ?_, Nat.zero_lt_one, ⟨[], .nil _ _, rfl⟩, ?_, fun e => absurd e (hz _ _ _), fun _ => rfl, fun i s _ hs => ?_⟩
 ·rw [List.eq_of_mem_replicate hx]
  exact ⟨zeros_size, zeros_size, fun e => by cases e⟩
 ·rw [List.eq_of_mem_replicate hx]
  rfl
 ·rw [blank_now n s (List.mem_of_getElem? hs), open_zero] at hp
  cases hp
 ·exact rec_none (by rw [nowL_len, List.length_replicate]; show 0 * h + h <= n; omega) (fun _ e => absurd e (hz _ _ _))
 ·rw [blank_now n s (List.mem_of_getElem? hs)]
  exact open_zero
theorem fresh_low (n m : Nat) : Low ((nowL (List.replicate n Sec.blank)).take m) 1 := by
 intro i s hs
 rw [blank_now n s (List.mem_of_mem_take (List.mem_of_getElem? hs))]
 exact ⟨by decide, by decide⟩
def Unworn (o : Nat) (M : List Sec) : Prop := ∀ (i : Nat) (x : Sec), o <= i -> M[i]? = some x -> x.worn = false
section
variable {h : Nat} {J : Jrn} {M : List Sec} {t : ByteArray}
theorem put_keeps {o N b : Nat} (hf : Fine M) (hc : Clean M) (hb : b + countN t.size <= M.length) (hw : Unworn o M) : Unworn o (putM (packB N t) b M) := by
 intro i y hi hy
 have hl := (List.getElem?_eq_some_iff.1 hy).1
 rw [putM_len] at hl
 have hb' : b + (packB N t).length <= M.length := by rw [packB_len]; exact hb
 have := putM_worn hf hc (packB_size N t) hb' i _ y (List.getElem?_eq_getElem hl) hy
 rw [this]
 exact hw i _ hi (List.getElem?_eq_getElem hl)
theorem unworn_put {N b : Nat} (hf : Fine M) (hc : Clean M) (hb : b + countN t.size <= M.length) (hw : Unworn b M) : badM (packB N t) b (putM (packB N t) b M) (countN t.size) = false :=
 put_unworn hf hc hb fun i x h1 _ hx => hw i x h1 hx
theorem unworn_up {a b : Nat} (h : Unworn a M) (hb : a <= b) : Unworn b M := fun i x hi hx => h i x (Nat.le_trans hb hi) hx
theorem append_unworn (I : JInv h J M) (hw : Unworn (J.bank * h) M) (hs : J.spoiled = false) (t : ByteArray) :
  jappend h t J M = if h < J.used + countN t.size then (((0 : Int), (15 : Int)), J, M) else (((J.next : Int), (0 : Int)), ⟨J.bank, J.used + countN t.size, J.next + 1, J.l ++ [(J.next, t)], false⟩, putM (packB J.next t) (J.bank * h + J.used) M) := by
 unfold jappend
 rw [if_neg (by rw [hs]; decide)]
 by_cases hr : h < J.used + countN t.size
 ·rw [if_pos hr, if_pos hr]
 ·rw [if_neg hr, if_neg hr]
  have hb : J.bank * h + J.used + countN t.size <= M.length := by
   have := I.len
   rcases I.bank with e | e <;> rw [e] <;> omega
  rw [unworn_put I.fine I.clean hb (unworn_up hw (Nat.le_add_right _ _))]
  rfl
theorem compact_unworn (I : JInv h J M) (hw : Unworn ((1 - J.bank) * h) M) (t : ByteArray) :
  jcompact h t J M = if h < countN t.size then (((0 : Int), (15 : Int)), J, M) else (((J.next : Int), (0 : Int)), ⟨1 - J.bank, countN t.size, J.next + 1, [(J.next, t)], false⟩, putM (packB J.next t) ((1 - J.bank) * h) M) := by
 unfold jcompact
 by_cases hr : h < countN t.size
 ·rw [if_pos hr, if_pos hr]
 ·rw [if_neg hr, if_neg hr]
  have hb : (1 - J.bank) * h + countN t.size <= M.length := by have := I.banks.2; omega
  rw [unworn_put I.fine I.clean hb hw]
  rfl
theorem append_worn {o : Nat} (I : JInv h J M) (hw : Unworn o M) : Unworn o (jappend h t J M).2.2 := by
 unfold jappend
 split
 ·exact hw
 split
 ·exact hw
 rename_i hr
 have hb : J.bank * h + J.used + countN t.size <= M.length := by
  have := I.len
  rcases I.bank with e | e <;> rw [e] <;> omega
 split <;> exact put_keeps I.fine I.clean hb hw
theorem compact_worn {o : Nat} (I : JInv h J M) (hw : Unworn o M) : Unworn o (jcompact h t J M).2.2 := by
 unfold jcompact
 split
 ·exact hw
 have hb : (1 - J.bank) * h + countN t.size <= M.length := by have := I.banks.2; omega
 split <;> exact put_keeps I.fine I.clean hb hw
theorem fresh_unworn (n o : Nat) : Unworn o (List.replicate n Sec.blank) := fun i x _ hx => by
 rw [List.eq_of_mem_replicate (List.mem_of_getElem? hx)]
 rfl
end
end Go.Proofs.YtpghocekofdpbaaGreatDoor
