import Derived.Test.YtpghocekofdpbaaGreatDoorQb17
import Derived.Test.YtpghocekofdpbaaGreatDoorQb18
namespace Go.Proofs.YtpghocekofdpbaaGreatDoor
open Sec (packL packAt countN mostN openL secText getL packL_len packL_at packAt_len count_pos)
structure DOn (D : Dev) : Prop where
 down : D.down = false
 left : -1 <= D.left /\ D.left <= 9223372036854775807
theorem DUp.on {D : Dev} (h : DUp D) : DOn D := ⟨h.down, h.le⟩
def lft (f : Int) (k : Nat) : Int := if f < 0 then f else f - k
theorem lft_zero (f : Int) : lft f 0 = f := by unfold lft; split <;> omega
def Dev.on (D : Dev) (k : Nat) (M : List Sec) : Dev := { D with M := M, left := lft D.left k }
def Dev.off (D : Dev) (M : List Sec) : Dev := { D with M := M, down := true, left := -1 }
theorem step_on {D : Dev} (h : DOn D) (F : Dev -> Dev) (k : Nat) (M : List Sec) (hk : D.left < 0 \/ (k : Int) < D.left) : (D.on k M).dstep 0 F = (0, F (D.on (k + 1) M)) := by
 have h1 := h.down
 have h2 := h.left
 unfold Dev.dstep Dev.on
 dsimp only
 rw [if_neg (by rw [h1]; decide), if_neg (by decide)]
 have hl : ¬ lft D.left k = 0 := by unfold lft; split <;> omega
 rw [if_neg hl]
 have e : max (lft D.left k - 1) (-1) = lft D.left (k + 1) := by
  unfold lft
  split <;> omega
 rw [e]
theorem step_off {D : Dev} (h : DOn D) (F : Dev -> Dev) (k : Nat) (M : List Sec) (hk : (k : Int) = D.left) : (D.on k M).dstep 0 F = (14, D.off M) := by
 have h1 := h.down
 unfold Dev.dstep Dev.on Dev.off
 dsimp only
 rw [if_neg (by rw [h1]; decide), if_neg (by decide)]
 have hl : lft D.left k = 0 := by unfold lft; split <;> omega
 rw [if_pos hl]
theorem on_zero (D : Dev) : D.on 0 D.M = D := by
 unfold Dev.on
 rw [lft_zero]
def Dev.fails (D : Dev) (n : Nat) : Prop := 0 <= D.left /\ D.left < n
instance (D : Dev) (n : Nat) : Decidable (D.fails n) := inferInstanceAs (Decidable (_ /\ _))
theorem on_on {D : Dev} (hd : DOn D) {k : Nat} {M : List Sec} (hk : D.left < 0 \/ (k : Int) <= D.left) : DOn (D.on k M) := by
 refine ⟨hd.down, ?_⟩
 have := hd.left
 show -1 <= lft D.left k /\ lft D.left k <= _
 unfold lft
 split <;> omega
theorem not_fails {D : Dev} {n : Nat} (h : ¬ D.fails n) : D.left < 0 \/ (n : Int) <= D.left := by unfold Dev.fails at h; omega
theorem settle_now (s : Sec) (n : Nat) (h1 : s.now.size = 64) : toL (s.settle n).now = if 0 < n then (toL s.fresh).take n ++ (toL s.now).drop n else toL s.now := by
 unfold Sec.settle
 split
 ·rename_i hn
  show toL (s.fresh.extract 0 n ++ s.now.extract n s.now.size) = _
  rw [toL_append, toL_extract, toL_extract, h1, Nat.sub_zero, List.drop_zero]
  congr 1
  rw [List.take_of_length_le]
  rw [List.length_drop, toL_len, h1]
  exact Nat.le_refl _
 ·rfl
theorem settle_worn (s : Sec) (n : Nat) : (s.settle n).worn = s.worn := by unfold Sec.settle; split <;> rfl
theorem unworn_write {x : Sec} (h : x.worn = false) (t : ByteArray) : x.write t = { x with fresh := t, dirty := true } := by unfold Sec.write; rw [if_neg (by rw [h]; decide)]
theorem low_get {T : Rows8} {n m i : Nat} {s : List UInt8} (h : Low (T.take n) m) (hi : i < n) (hs : T[i]? = some s) : getL (s.take 8) < m /\ getL (s.drop (s.length - 8)) < m :=
 h i s (by rw [List.getElem?_take, if_pos hi]; exact hs)
section
variable {M : List Sec} {t : ByteArray} {o N h k : Nat}
def tornM (M : List Sec) (P : List Int) : List Sec := doneM (pick P) M (idxs Sec.dirty M)
theorem torn_len (P : List Int) : (tornM M P).length = M.length := doneM_len _ _ _
theorem torn_get (hf : Fine M) (hc : Clean M) (hw : Unworn 0 M) (hk : k <= countN t.size) (_hb : o + countN t.size <= M.length) (P : List Int) (i : Nat) (y : Sec) (hy : (tornM (wrL ((packB N t).take k) o M) P)[i]? = some y) :
  y.dirty = false /\ y.worn = false /\ ∃ x, M[i]? = some x /\ ((y = x) \/ ∃ j n, i = o + j /\ j < k /\ n <= 64 /\ y.now.data.toList = (packAt N t.data.toList j).take n ++ x.now.data.toList.drop n /\ y.now.size = 64 /\ y.before.size = 64) := by
 have hl : ((packB N t).take k).length = k := by rw [List.length_take, packB_len]; omega
 have hi : i < M.length := by
  have := (List.getElem?_eq_some_iff.1 hy).1
  rw [torn_len, wrL_len] at this
  exact this
 obtain ⟨x, hx⟩ : ∃ x, M[i]? = some x := ⟨_, List.getElem?_eq_getElem hi⟩
 have hxc := hc x (List.mem_of_getElem? hx)
 have hxw := hw i x (Nat.zero_le _) hx
 obtain ⟨hx1, hx2, _⟩ := hf x (List.mem_of_getElem? hx)
 by_cases hin : i < o \/ o + k <= i
 ·have hz : (wrL ((packB N t).take k) o M)[i]? = some x := by rw [wrL_out _ _ _ _ (by rw [hl]; exact hin)]; exact hx
  rcases cut_get P hz with ⟨_, e⟩ | ⟨hd, _⟩
  ·unfold tornM at hy
   rw [e] at hy
   cases hy
   exact ⟨hxc, hxw, _, hx, .inl rfl⟩
  ·rw [hxc] at hd; cases hd
 ·obtain ⟨j, rfl⟩ : ∃ j, i = o + j := ⟨i - o, by omega⟩
  have hjk : j < k := by omega
  have hjc : j < countN t.size := by omega
  have hsj : ((packB N t).take k)[j]? = some (secText N t j) := by rw [List.getElem?_take, if_pos hjk]; exact packB_at N t j hjc
  have hz : (wrL ((packB N t).take k) o M)[o + j]? = some (x.write (secText N t j)) := wrL_in _ _ _ j x _ hx hsj
  rw [unworn_write hxw] at hz
  rcases cut_get P hz with ⟨hd, _⟩ | ⟨_, n, hn, e⟩
  ·cases hd
  ·unfold tornM at hy
   rw [e] at hy
   cases hy
   refine ⟨settle_clean _ _, by rw [settle_worn]; exact hxw, x, hx, ?_⟩
   have hnow := settle_now { x with fresh := secText N t j, dirty := true } n hx1
   by_cases h0 : 0 < n
   ·rw [if_pos h0] at hnow
    refine .inr ⟨j, n, rfl, hjk, hn, hnow, ?_, ?_⟩
    ·have h3 := congrArg List.length hnow
     rw [toL_len, List.length_append, List.length_take, List.length_drop, toL_len, toL_len] at h3
     have h4 : (secText N t j).size = 64 := secText_size N t j
     dsimp only at h3
     omega
    ·unfold Sec.settle
     rw [if_pos h0]
     exact hx1
   ·have hn0 : n = 0 := by omega
    subst hn0
    refine .inr ⟨j, 0, rfl, hjk, Nat.zero_le _, ?_, ?_, ?_⟩
    ·rw [List.take_zero, List.drop_zero, List.nil_append]
     rfl
    ·exact hx1
    ·exact hx2
theorem torn_rows (hf : Fine M) (hc : Clean M) (hw : Unworn 0 M) (hk : k <= countN t.size) (hb : o + countN t.size <= 2 * h) (hM : 2 * h <= M.length) (h1 : 1 <= N) (h255 : N <= 255) (hlow : Low ((nowL M).take (2 * h)) N) (P : List Int) :
  PutX (nowL M) (nowL (tornM (wrL ((packB N t).take k) o M) P)) o (packL N t.data.toList) /\ Low ((nowL (tornM (wrL ((packB N t).take k) o M) P)).take (2 * h)) (N + 1) /\
   Fine (tornM (wrL ((packB N t).take k) o M) P) /\ Clean (tornM (wrL ((packB N t).take k) o M) P) /\ Unworn 0 (tornM (wrL ((packB N t).take k) o M) P) := by
 have hg := torn_get (N := N) hf hc hw hk (Nat.le_trans hb hM) P
 have hlen : (tornM (wrL ((packB N t).take k) o M) P).length = M.length := by rw [torn_len, wrL_len]
 generalize tornM (wrL ((packB N t).take k) o M) P = M' at hg hlen
 have hsec : ∀ (i : Nat) (s : List UInt8), (nowL M')[i]? = some s -> ∃ x, (nowL M)[i]? = some x /\ x.length = 64 /\ (s = x \/ ∃ j n, i = o + j /\ j < k /\ n <= 64 /\ s = (packAt N t.data.toList j).take n ++ x.drop n) := by
  intro i s hs
  rw [nowL_get] at hs
  obtain ⟨y, hy, rfl⟩ := Option.map_eq_some_iff.1 hs
  obtain ⟨_, _, x, hx, hor⟩ := hg i y hy
  refine ⟨x.now.data.toList, by rw [nowL_get, hx]; rfl, ?_, ?_⟩
  ·have := (hf x (List.mem_of_getElem? hx)).1
   have h2 : x.now.data.toList.length = x.now.size := Array.length_toList
   omega
  ·rcases hor with rfl | ⟨j, n, e1, e2, e3, e4, _⟩
   ·exact .inl rfl
   ·exact .inr ⟨j, n, e1, e2, e3, e4⟩
 refine ⟨⟨by rw [nowL_len, nowL_len]; exact hlen, fun i s hs => ?_, fun i hi => ?_⟩, ?_, ?_, ?_, ?_⟩
 ·obtain ⟨x, hx, hxl, rfl | ⟨j, n, rfl, hj, hn, rfl⟩⟩ := hsec i s hs
  ·exact .inl hx
  ·obtain ⟨l1, l2⟩ := low_get hlow (by omega) hx
   rw [hxl] at l2
   obtain ⟨hor, _⟩ := torn_sector (rec := t.data.toList) (j := j) h1 h255 rfl hxl l1 l2 n hn
   rcases hor with e | e | e
   ·rw [e]; exact .inl hx
   ·exact .inr (.inl ⟨j, rfl, by rw [e]; exact packL_at N _ j (by show j < countN t.data.toList.length; have : countN t.data.toList.length = countN t.size := rfl; omega)⟩)
   ·exact .inr (.inr e)
 ·by_cases hiM : i < M.length
  ·obtain ⟨s, hs⟩ : ∃ s, (nowL M')[i]? = some s := ⟨_, List.getElem?_eq_getElem (by rw [nowL_len, hlen]; exact hiM)⟩
   obtain ⟨x, hx, _, rfl | ⟨j, n, rfl, hj, _, _⟩⟩ := hsec i s hs
   ·rw [hs, hx]
   ·rw [packL_len] at hi
    have : countN t.data.toList.length = countN t.size := rfl
    omega
  ·rw [List.getElem?_eq_none (by rw [nowL_len, hlen]; omega), List.getElem?_eq_none (by rw [nowL_len]; omega)]
 ·intro i s hs
  rw [List.getElem?_take] at hs
  split at hs
  ·rename_i hi
   obtain ⟨x, hx, hxl, rfl | ⟨j, n, rfl, hj, hn, rfl⟩⟩ := hsec i s hs
   ·obtain ⟨l1, l2⟩ := low_get hlow hi hx
    exact ⟨by omega, by omega⟩
   ·obtain ⟨l1, l2⟩ := low_get hlow hi hx
    rw [hxl] at l2
    obtain ⟨_, r1, r2⟩ := torn_sector (rec := t.data.toList) (j := j) h1 h255 rfl hxl l1 l2 n hn
    refine ⟨r1, ?_⟩
    have hl : ((packAt N t.data.toList j).take n ++ x.drop n).length = 64 := by rw [List.length_append, List.length_take, List.length_drop, packAt_len, hxl]; omega
    rw [hl]
    exact r2
  ·cases hs
 ·intro y hy
  obtain ⟨i, hi⟩ := List.mem_iff_getElem?.1 hy
  obtain ⟨hd, _, x, hx, rfl | ⟨_, _, _, _, _, _, e1, e2⟩⟩ := hg i y hi
  ·exact hf y (List.mem_of_getElem? hx)
  ·exact ⟨e1, e2, fun e => by rw [hd] at e; cases e⟩
 ·intro y hy
  obtain ⟨i, hi⟩ := List.mem_iff_getElem?.1 hy
  exact (hg i y hi).1
 ·exact fun i y _ hi => (hg i y hi).2.1
end
end Go.Proofs.YtpghocekofdpbaaGreatDoor
