import Derived.Test.YtpghocekofdpbaaGreatDoorQb14
import Derived.Test.YtpghocekofdpbaaGreatDoorQb15
import Derived.Test.YtpghocekofdpbaaGreatDoorQb08
namespace Go.Proofs.YtpghocekofdpbaaGreatDoor
open Sec (packL packAt countN mostN joinL openL secText getL PartL packL_len packL_at packAt_len count_pos)
def packB (N : Nat) (t : ByteArray) : List ByteArray := (List.range (countN t.size)).map (secText N t)
theorem packB_len (N : Nat) (t : ByteArray) : (packB N t).length = countN t.size := by simp [packB]
theorem packB_at (N : Nat) (t : ByteArray) (k : Nat) (h : k < countN t.size) : (packB N t)[k]? = some (secText N t k) := by
 unfold packB
 rw [List.getElem?_map, List.getElem?_range h]
 rfl
theorem packB_L (N : Nat) (t : ByteArray) : (packB N t).map (fun s => s.data.toList) = packL N t.data.toList := by
 unfold packB packL
 rw [List.map_map]
 rfl
theorem secText_size (N : Nat) (t : ByteArray) (k : Nat) : (secText N t k).size = 64 := by
 show (packAt N t.data.toList k).toArray.size = 64
 rw [List.size_toArray, packAt_len]
theorem packB_size (N : Nat) (t : ByteArray) : ∀ s ∈ packB N t, s.size = 64 := by
 intro s hs
 unfold packB at hs
 obtain ⟨k, _, rfl⟩ := List.mem_map.1 hs
 exact secText_size N t k
def Clean (M : List Sec) : Prop := ∀ s ∈ M, s.dirty = false
def wrL : List ByteArray -> Nat -> List Sec -> List Sec
 | [], _, M => M
 | s :: r, o, M => wrL r (o + 1) (upd (fun x => x.write s) M o)
theorem wrL_len : ∀ (l : List ByteArray) (o : Nat) (M : List Sec), (wrL l o M).length = M.length
 | [], _, _ => rfl
 | s :: r, o, M => by
  show (wrL r (o + 1) (upd _ M o)).length = _
  rw [wrL_len r, upd_len]
theorem wrL_snoc : ∀ (l : List ByteArray) (s : ByteArray) (o : Nat) (M : List Sec), wrL (l ++ [s]) o M = upd (fun x => x.write s) (wrL l o M) ((o + l.length : Nat) : Int)
 | [], _, _, _ => rfl
 | x :: r, s, o, M => by
  show wrL (r ++ [s]) (o + 1) _ = upd _ (wrL r (o + 1) _) _
  rw [wrL_snoc r s (o + 1)]
  congr 1
  simp
  omega
theorem wrL_out : ∀ (l : List ByteArray) (o : Nat) (M : List Sec) (i : Nat), i < o \/ o + l.length <= i -> (wrL l o M)[i]? = M[i]?
 | [], _, _, _, _ => rfl
 | s :: r, o, M, i, h => by
  show (wrL r (o + 1) (upd _ M o))[i]? = _
  rw [wrL_out r (o + 1) _ i (by simp at h; omega)]
  unfold upd
  rw [Int.toNat_natCast, List.getElem?_set_ne (by simp at h; omega)]
theorem wrL_in : ∀ (l : List ByteArray) (o : Nat) (M : List Sec) (k : Nat) (x : Sec) (s : ByteArray), M[o + k]? = some x -> l[k]? = some s -> (wrL l o M)[o + k]? = some (x.write s)
 | [], _, _, _, _, _, _, h => by simp at h
 | t :: r, o, M, 0, x, s, hx, hs => by
  simp at hs
  subst hs
  show (wrL r (o + 1) (upd _ M o))[o + 0]? = _
  rw [wrL_out r (o + 1) _ (o + 0) (by omega)]
  have hj := (List.getElem?_eq_some_iff.1 hx).1
  unfold upd
  rw [Int.toNat_natCast]
  have e : M.getD o default = x := by rw [List.getD_eq_getElem?_getD]; rw [Nat.add_zero] at hx; rw [hx]; rfl
  rw [e, Nat.add_zero, List.getElem?_set_self (by omega)]
 | t :: r, o, M, k + 1, x, s, hx, hs => by
  show (wrL r (o + 1) (upd _ M o))[o + (k + 1)]? = _
  have e : o + (k + 1) = (o + 1) + k := by omega
  rw [e]
  refine wrL_in r (o + 1) _ k x s ?_ (by simpa using hs)
  unfold upd
  rw [Int.toNat_natCast, List.getElem?_set_ne (by omega), <- e]
  exact hx
theorem wrL_fine : ∀ (l : List ByteArray) (o : Nat) (M : List Sec), Fine M -> (∀ s ∈ l, s.size = 64) -> o + l.length <= M.length -> Fine (wrL l o M)
 | [], _, _, h, _, _ => h
 | s :: r, o, M, h, hl, hb => by
  simp at hb
  exact wrL_fine r (o + 1) _ (fine_upd_write h s _ ⟨⟨by omega, by omega⟩, hl s (by simp)⟩) (fun x hx => hl x (by simp [hx])) (by rw [upd_len]; omega)
def putM (l : List ByteArray) (o : Nat) (M : List Sec) : List Sec := doneM (fun _ => 64) (wrL l o M) (idxs Sec.dirty (wrL l o M))
theorem putM_len (l : List ByteArray) (o : Nat) (M : List Sec) : (putM l o M).length = M.length := by unfold putM; rw [doneM_len, wrL_len]
section
variable {l : List ByteArray} {o : Nat} {M : List Sec}
theorem putM_map (hf : Fine M) (hl : ∀ s ∈ l, s.size = 64) (hb : o + l.length <= M.length) : putM l o M = (wrL l o M).map Sec.flushed := by
 unfold putM
 exact flush_map (wrL_fine l o M hf hl hb)
theorem flushed_of_clean {x : Sec} (h : x.dirty = false) : x.flushed = x := by unfold Sec.flushed; rw [if_neg (by rw [h]; decide)]
theorem write_flushed {x : Sec} (h : x.dirty = false) (s : ByteArray) : (x.worn = true /\ (x.write s).flushed = x) \/ (x.worn = false /\ (x.write s).flushed.now = s /\ (x.write s).flushed.worn = false) := by
 cases hw : x.worn
 ·right
  refine ⟨rfl, ?_, ?_⟩ <;> (unfold Sec.write Sec.flushed; rw [hw]; rfl)
 ·left
  refine ⟨rfl, ?_⟩
  have : x.write s = x := by unfold Sec.write; rw [if_pos hw]
  rw [this, flushed_of_clean h]
theorem putM_out (hf : Fine M) (hc : Clean M) (hl : ∀ s ∈ l, s.size = 64) (hb : o + l.length <= M.length) (i : Nat) (hi : i < o \/ o + l.length <= i) : (putM l o M)[i]? = M[i]? := by
 rw [putM_map hf hl hb, List.getElem?_map, wrL_out l o M i hi]
 cases hx : M[i]? with
 | none => rfl
 | some x => exact congrArg some (flushed_of_clean (hc x (List.mem_of_getElem? hx)))
theorem putM_in (hf : Fine M) (hl : ∀ s ∈ l, s.size = 64) (hb : o + l.length <= M.length) (k : Nat) (x : Sec) (s : ByteArray) (hx : M[o + k]? = some x) (hs : l[k]? = some s) : (putM l o M)[o + k]? = some (x.write s).flushed := by
 rw [putM_map hf hl hb, List.getElem?_map, wrL_in l o M k x s hx hs]
 rfl
theorem putM_clean (hf : Fine M) (hl : ∀ s ∈ l, s.size = 64) (hb : o + l.length <= M.length) : Clean (putM l o M) := by
 rw [putM_map hf hl hb]
 intro s hs
 obtain ⟨x, _, rfl⟩ := List.mem_map.1 hs
 exact flushed_clean x
theorem putM_fine (hf : Fine M) (hl : ∀ s ∈ l, s.size = 64) (hb : o + l.length <= M.length) : Fine (putM l o M) := by
 have h := wrL_fine l o M hf hl hb
 rw [putM_map hf hl hb]
 intro s hs
 obtain ⟨x, hx, rfl⟩ := List.mem_map.1 hs
 have hx2 := h x hx
 unfold Sec.flushed
 split
 ·rename_i hd
  exact ⟨hx2.2.2 hd, hx2.1, fun e => by cases e⟩
 ·exact hx2
theorem putM_worn (hf : Fine M) (hc : Clean M) (hl : ∀ s ∈ l, s.size = 64) (hb : o + l.length <= M.length) (i : Nat) (x y : Sec) (hx : M[i]? = some x) (hy : (putM l o M)[i]? = some y) : y.worn = x.worn := by
 by_cases hi : i < o \/ o + l.length <= i
 ·rw [putM_out hf hc hl hb i hi, hx] at hy
  cases hy
  rfl
 ·obtain ⟨k, rfl⟩ : ∃ k, i = o + k := ⟨i - o, by omega⟩
  have hk : k < l.length := by omega
  rw [putM_in hf hl hb k x _ hx (List.getElem?_eq_getElem hk)] at hy
  cases hy
  rcases write_flushed (hc x (List.mem_of_getElem? hx)) l[k] with ⟨h1, h2⟩ | ⟨h1, _, h2⟩
  ·rw [h2]
  ·rw [h2, h1]
end
def badM (l : List ByteArray) (o : Nat) (M : List Sec) (k : Nat) : Bool := (List.range k).any fun i => !((M.getD (o + i) default).now.data.toList == (l.getD i ⟨#[]⟩).data.toList)
theorem badM_succ (l : List ByteArray) (o : Nat) (M : List Sec) (k : Nat) (x : Sec) (s : ByteArray) (hx : M[o + k]? = some x) (hs : l[k]? = some s) : badM l o M (k + 1) = (badM l o M k || !(x.now.data.toList == s.data.toList)) := by
 have e1 : M.getD (o + k) default = x := by rw [List.getD_eq_getElem?_getD, hx]; rfl
 have e2 : l.getD k ⟨#[]⟩ = s := by rw [List.getD_eq_getElem?_getD, hs]; rfl
 unfold badM
 rw [List.range_succ, List.any_append, List.any_cons, List.any_nil, Bool.or_false, e1, e2]
theorem badM_no {l : List ByteArray} {o : Nat} {M : List Sec} {k : Nat} (h : badM l o M k = false) (i : Nat) (hi : i < k) (x : Sec) (s : ByteArray) (hx : M[o + i]? = some x) (hs : l[i]? = some s) : x.now = s := by
 unfold badM at h
 rw [List.any_eq_false] at h
 have h1 := h i (List.mem_range.2 hi)
 have e1 : M.getD (o + i) default = x := by rw [List.getD_eq_getElem?_getD, hx]; rfl
 have e2 : l.getD i ⟨#[]⟩ = s := by rw [List.getD_eq_getElem?_getD, hs]; rfl
 rw [e1, e2] at h1
 have h2 : x.now.data.toList = s.data.toList := by simpa using h1
 apply ByteArray.ext
 exact Array.ext' h2
theorem badM_yes {l : List ByteArray} {o : Nat} {M : List Sec} {k : Nat} (h : ∀ i, i < k -> ∃ (x : Sec) (s : ByteArray), M[o + i]? = some x /\ l[i]? = some s /\ x.now = s) : badM l o M k = false := by
 unfold badM
 rw [List.any_eq_false]
 intro i hi
 obtain ⟨x, s, hx, hs, e⟩ := h i (List.mem_range.1 hi)
 have e1 : M.getD (o + i) default = x := by rw [List.getD_eq_getElem?_getD, hx]; rfl
 have e2 : l.getD i ⟨#[]⟩ = s := by rw [List.getD_eq_getElem?_getD, hs]; rfl
 rw [e1, e2, e]
 simp
def nowL (M : List Sec) : Rows8 := M.map fun s => s.now.data.toList
theorem nowL_get (M : List Sec) (i : Nat) : (nowL M)[i]? = (M[i]?).map fun s => s.now.data.toList := List.getElem?_map ..
theorem nowL_len (M : List Sec) : (nowL M).length = M.length := List.length_map ..
theorem put_rows {M : List Sec} {o N : Nat} {t : ByteArray} (hf : Fine M) (hc : Clean M) (hb : o + countN t.size <= M.length) : PutT (nowL M) (nowL (putM (packB N t) o M)) o (packL N t.data.toList) := by
 have hl := packB_size N t
 have hb' : o + (packB N t).length <= M.length := by rw [packB_len]; exact hb
 refine ⟨by rw [nowL_len, nowL_len, putM_len], fun i s hs => ?_, fun i hi => ?_⟩
 ·rw [nowL_get] at hs ⊢
  by_cases hi : i < o \/ o + (packB N t).length <= i
  ·rw [putM_out hf hc hl hb' i hi] at hs
   exact .inl hs
  ·obtain ⟨k, rfl⟩ : ∃ k, i = o + k := ⟨i - o, by omega⟩
   have hk : k < (packB N t).length := by omega
   have hkc : k < countN t.size := by rw [packB_len] at hk; exact hk
   obtain ⟨x, hx⟩ : ∃ x, M[o + k]? = some x := ⟨_, List.getElem?_eq_getElem (by omega)⟩
   rw [putM_in hf hl hb' k x _ hx (packB_at N t k hkc)] at hs
   rcases write_flushed (hc x (List.mem_of_getElem? hx)) (secText N t k) with ⟨_, h2⟩ | ⟨_, h2, _⟩
   ·rw [h2] at hs
    left
    rw [hx]
    exact hs
   ·right
    refine ⟨k, rfl, ?_⟩
    rw [<- packB_L, List.getElem?_map, packB_at N t k hkc]
    have hs' : some ((secText N t k).data.toList) = some s := by rw [<- hs]; show _ = some (x.write (secText N t k)).flushed.now.data.toList; rw [h2]
    exact hs'
 ·rw [nowL_get, nowL_get, putM_out hf hc hl hb' i (by rw [packB_len]; rw [packL_len] at hi; exact hi)]
theorem put_good {M : List Sec} {o N : Nat} {t : ByteArray} (_hf : Fine M) (hb : o + countN t.size <= M.length) (hg : badM (packB N t) o (putM (packB N t) o M) (countN t.size) = false) (k : Nat) (hk : k < countN t.size) :
  (nowL (putM (packB N t) o M))[o + k]? = (packL N t.data.toList)[k]? := by
 obtain ⟨y, hy⟩ : ∃ y, (putM (packB N t) o M)[o + k]? = some y := ⟨_, List.getElem?_eq_getElem (by rw [putM_len]; omega)⟩
 have e := badM_no hg k hk y _ hy (packB_at N t k hk)
 rw [nowL_get, hy, <- packB_L, List.getElem?_map, packB_at N t k hk]
 show some y.now.data.toList = some _
 rw [e]
theorem put_unworn {M : List Sec} {o N : Nat} {t : ByteArray} (hf : Fine M) (hc : Clean M) (hb : o + countN t.size <= M.length) (hw : ∀ i x, o <= i -> i < o + countN t.size -> M[i]? = some x -> x.worn = false) :
  badM (packB N t) o (putM (packB N t) o M) (countN t.size) = false := by
 apply badM_yes
 intro i hi
 have hl := packB_size N t
 have hb' : o + (packB N t).length <= M.length := by rw [packB_len]; exact hb
 obtain ⟨x, hx⟩ : ∃ x, M[o + i]? = some x := ⟨_, List.getElem?_eq_getElem (by omega)⟩
 refine ⟨_, _, putM_in hf hl hb' i x _ hx (packB_at N t i hi), packB_at N t i hi, ?_⟩
 rcases write_flushed (hc x (List.mem_of_getElem? hx)) (secText N t i) with ⟨h1, _⟩ | ⟨_, h2, _⟩
 ·rw [hw (o + i) x (by omega) (by omega) hx] at h1
  cases h1
 ·exact h2
end Go.Proofs.YtpghocekofdpbaaGreatDoor
namespace Go.Proofs.YtpghocekofdpbaaGreatDoor
open Sec (packL packAt countN mostN joinL openL secText getL PartL packL_len packL_at packAt_len count_pos join_pack open_ends)
structure Jrn where
 bank : Nat
 used : Nat
 next : Nat
 l : List (Nat × ByteArray)
 spoiled : Bool
def lastN (l : List (Nat × ByteArray)) : Nat := (l.getLast?.map Prod.fst).getD 0
def firstN (l : List (Nat × ByteArray)) : Nat := (l.head?.map Prod.fst).getD 0
def jappend (h : Nat) (t : ByteArray) (J : Jrn) (M : List Sec) : (Int × Int) × Jrn × List Sec :=
 if J.spoiled = true then ((0, 23), J, M)
 else if h < J.used + countN t.size then ((0, 15), J, M)
 else if badM (packB J.next t) (J.bank * h + J.used) (putM (packB J.next t) (J.bank * h + J.used) M) (countN t.size) = true then
  ((0, 23), { J with next := J.next + 1, spoiled := true }, putM (packB J.next t) (J.bank * h + J.used) M)
 else ((J.next, 0), ⟨J.bank, J.used + countN t.size, J.next + 1, J.l ++ [(J.next, t)], false⟩, putM (packB J.next t) (J.bank * h + J.used) M)
def jcompact (h : Nat) (t : ByteArray) (J : Jrn) (M : List Sec) : (Int × Int) × Jrn × List Sec :=
 if h < countN t.size then ((0, 15), J, M)
 else if badM (packB J.next t) ((1 - J.bank) * h) (putM (packB J.next t) ((1 - J.bank) * h) M) (countN t.size) = true then
  ((0, 23), { J with next := J.next + 1 }, putM (packB J.next t) ((1 - J.bank) * h) M)
 else ((J.next, 0), ⟨1 - J.bank, countN t.size, J.next + 1, [(J.next, t)], false⟩, putM (packB J.next t) ((1 - J.bank) * h) M)
structure JInv (h : Nat) (J : Jrn) (M : List Sec) : Prop where
 fine : Fine M
 clean : Clean M
 len : 2 * h <= M.length
 pos : 1 <= h
 bank : J.bank = 0 \/ J.bank = 1
 used : J.used <= h
 next : 1 <= J.next
 under : Under (nowL M) J.next
 last : lastN J.l < J.next
 path : ∃ xs, Path (bankAt (nowL M) (J.bank * h) h 0) 0 0 xs J.used (lastN J.l) /\ xs.map (fun x => (x.2.1, x.2.2)) = J.l.map fun e => (e.1, e.2.data.toList)
 stop : recAt (bankAt (nowL M) (J.bank * h) h 0) J.used (lastN J.l) = none
 other : (joinL (bankAt (nowL M) ((1 - J.bank) * h) h 0)).e = 0 -> J.l ≠ [] /\ (joinL (bankAt (nowL M) ((1 - J.bank) * h) h 0)).number < firstN J.l
 none0 : J.l = [] -> J.bank = 0
 rest : ∀ (i : Nat) (s : List UInt8), 2 * h <= i -> (nowL M)[i]? = some s -> openL s = none
theorem bankAt_drop (T : Rows8) (o h u : Nat) : (bankAt T o h 0).drop u = bankAt T o h u := by
 unfold bankAt
 rw [List.drop_zero]
theorem lastN_snoc (l : List (Nat × ByteArray)) (n : Nat) (t : ByteArray) : lastN (l ++ [(n, t)]) = n := by simp [lastN]
theorem firstN_snoc (l : List (Nat × ByteArray)) (e : Nat × ByteArray) (h : l ≠ []) : firstN (l ++ [e]) = firstN l := by
 cases l with
 | nil => exact absurd rfl h
 | cons x r => rfl
section
variable {h : Nat} {J : Jrn} {M : List Sec} {t : ByteArray}
theorem JInv.banks (I : JInv h J M) : J.bank * h + h <= M.length /\ (1 - J.bank) * h + h <= M.length := by
 have := I.len
 rcases I.bank with e | e <;> rw [e] <;> simp <;> omega
theorem bad_ghost {N o : Nat} (hb : o + countN t.size <= M.length) (hg : ∀ k, k < countN t.data.toList.length -> (nowL (putM (packB N t) o M))[o + k]? = (packL N t.data.toList)[k]?) : badM (packB N t) o (putM (packB N t) o M) (countN t.size) = false := by
 apply badM_yes
 intro i hi
 obtain ⟨y, hy⟩ : ∃ y, (putM (packB N t) o M)[o + i]? = some y := ⟨_, List.getElem?_eq_getElem (by rw [putM_len]; omega)⟩
 refine ⟨y, _, hy, packB_at N t i hi, ?_⟩
 have h1 := hg i hi
 rw [nowL_get, hy, <- packB_L, List.getElem?_map, packB_at N t i hi] at h1
 have h2 : y.now.data.toList = (secText N t i).data.toList := by simpa using h1
 apply ByteArray.ext
 exact Array.ext' h2
theorem rec_new {T' : Rows8} {o hh u N last : Nat} (hT : o + hh <= T'.length) (hN : 1 <= N /\ N <= mostN) (ht : t.size <= 8000) (hu : u + countN t.size <= hh) (hl : last < N) (hg : ∀ k, k < countN t.size -> T'[o + u + k]? = (packL N t.data.toList)[k]?) :
  recAt (bankAt T' o hh 0) u last = some (u + countN t.size, N, t.data.toList) := by
 have hp : joinL (packL N t.data.toList ++ []) = ⟨N, t.data.toList, countN t.size, 0⟩ := join_pack N t.data.toList [] hN.1 hN.2 ht
 have hc := count_pos t.size
 have e : joinL (bankAt T' o hh u) = ⟨N, t.data.toList, countN t.size, 0⟩ := by
  rw [<- hp]
  refine join_same (by rw [hp]) (fun i hi => ?_)
  rw [hp] at hi
  have hi' : i < countN t.size := hi
  rw [bankAt_get _ _ _ _ _ (by omega), hg i hi', List.append_nil]
 unfold recAt
 rw [bankAt_drop, e, if_pos ⟨by rw [bankAt_len _ _ _ _ hT]; omega, rfl, hl⟩]
theorem rec_none {T' : Rows8} {o hh u last : Nat} (hT : o + hh <= T'.length) (hj : u < hh -> (joinL (bankAt T' o hh u)).e = 0 -> (joinL (bankAt T' o hh u)).number <= last) : recAt (bankAt T' o hh 0) u last = none := by
 unfold recAt
 rw [bankAt_drop, if_neg]
 rintro ⟨h1, h2, h3⟩
 rw [bankAt_len _ _ _ _ hT] at h1
 have := hj (by omega) h2
 omega
theorem stop_up {T : Rows8} {o hh u last : Nat} (hT : o + hh <= T.length) (h0 : recAt (bankAt T o hh 0) u last = none) (hu : u < hh) (he : (joinL (bankAt T o hh u)).e = 0) : (joinL (bankAt T o hh u)).number <= last := by
 unfold recAt at h0
 rw [bankAt_drop] at h0
 split at h0
 ·cases h0
 ·rename_i hc
  by_cases hl : last < (joinL (bankAt T o hh u)).number
  ·exact absurd ⟨by rw [bankAt_len _ _ _ _ hT]; omega, he, hl⟩ hc
  ·omega
theorem rest_put {o N : Nat} (I : JInv h J M) (hb : o + countN t.size <= 2 * h) : ∀ (i : Nat) (s : List UInt8), 2 * h <= i -> (nowL (putM (packB N t) o M))[i]? = some s -> openL s = none := by
 intro i s hi hs
 have hp := put_rows (t := t) (N := N) (o := o) I.fine I.clean (by have := I.len; omega)
 rw [hp.out i (.inr (by rw [packL_len]; show o + countN t.size <= i; omega))] at hs
 exact I.rest i s hi hs
theorem append_inv (I : JInv h J M) (hN : J.next <= mostN) (ht : t.size <= 8000) : JInv h (jappend h t J M).2.1 (jappend h t J M).2.2 := by
 unfold jappend
 split
 ·exact I
 split
 ·exact I
 rename_i hr
 have hc := count_pos t.size
 obtain ⟨b1, b2⟩ := I.banks
 have hl := packB_size J.next t
 have hr3 : J.bank * h + J.used + countN t.size <= 2 * h := by
  rcases I.bank with e | e <;> rw [e] <;> omega
 have hb : J.bank * h + J.used + countN t.size <= M.length := by omega
 have hb' : J.bank * h + J.used + (packB J.next t).length <= M.length := by rw [packB_len]; exact hb
 have hp := put_rows (t := t) (N := J.next) (o := J.bank * h + J.used) I.fine I.clean hb
 have hNN : 1 <= J.next /\ J.next <= mostN := ⟨I.next, hN⟩
 have hjoin := fun (b u : Nat) (hbb : b + h <= (nowL M).length) => put_join hp hNN ht I.under b h u hbb
 obtain ⟨xs, hpath, hxs⟩ := I.path
 have hT : J.bank * h + h <= (nowL M).length := by rw [nowL_len]; exact b1
 have hT2 : (1 - J.bank) * h + h <= (nowL M).length := by rw [nowL_len]; exact b2
 have hT' : J.bank * h + h <= (nowL (putM (packB J.next t) (J.bank * h + J.used) M)).length := by rw [hp.len]; exact hT
 have hlen : (bankAt (nowL (putM (packB J.next t) (J.bank * h + J.used) M)) (J.bank * h) h 0).length = (bankAt (nowL M) (J.bank * h) h 0).length := by rw [bankAt_len _ _ _ _ hT', bankAt_len _ _ _ _ hT]
 have hkeep : ∀ i, i < J.used -> (bankAt (nowL (putM (packB J.next t) (J.bank * h + J.used) M)) (J.bank * h) h 0)[i]? = (bankAt (nowL M) (J.bank * h) h 0)[i]? := by
  intro i hi
  have := I.used
  rw [bankAt_get _ _ _ _ _ (by omega), bankAt_get _ _ _ _ _ (by omega)]
  exact hp.out _ (.inl (by omega))
 have hpath2 := path_keep hlen hpath hkeep
 have hplace : ¬ (1 - J.bank) * h + 0 = J.bank * h + J.used := by
  have := I.pos
  rcases I.bank with e | e <;> rw [e] <;> simp <;> omega
 have hoth : (joinL (bankAt (nowL (putM (packB J.next t) (J.bank * h + J.used) M)) ((1 - J.bank) * h) h 0)).e = 0 -> J.l ≠ [] /\ (joinL (bankAt (nowL (putM (packB J.next t) (J.bank * h + J.used) M)) ((1 - J.bank) * h) h 0)).number < firstN J.l := by
  intro he
  rcases hjoin _ 0 hT2 he with ⟨_, e⟩ | ⟨_, e, _⟩
  ·rw [<- e] at he ⊢
   exact I.other he
  ·exact absurd e hplace
 split
 ·rename_i hbad
  refine ⟨putM_fine I.fine hl hb', putM_clean I.fine hl hb', by rw [putM_len]; exact I.len, I.pos, I.bank, I.used, by show 1 <= J.next + 1; omega, put_under hp hNN ht I.under, Nat.lt_succ_of_lt I.last, ⟨xs, hpath2, hxs⟩, ?_, hoth, I.none0, rest_put I hr3⟩
  refine rec_none hT' (fun hu he => ?_)
  rcases hjoin _ _ hT he with ⟨_, e⟩ | ⟨_, _, hg⟩
  ·rw [<- e] at he ⊢
   exact stop_up hT I.stop hu he
  ·rw [bad_ghost hb hg] at hbad
   cases hbad
 ·rename_i hbad
  have hgood := put_good (t := t) (N := J.next) (o := J.bank * h + J.used) I.fine hb (by simpa using hbad)
  have hnew := rec_new (T' := nowL (putM (packB J.next t) (J.bank * h + J.used) M)) (last := lastN J.l) hT' hNN ht (by omega : J.used + countN t.size <= h) I.last hgood
  refine ⟨putM_fine I.fine hl hb', putM_clean I.fine hl hb', by rw [putM_len]; exact I.len, I.pos, I.bank, by show J.used + countN t.size <= h; omega, by show 1 <= J.next + 1; omega, put_under hp hNN ht I.under, by show lastN (J.l ++ [(J.next, t)]) < J.next + 1; rw [lastN_snoc]; omega, ⟨xs ++ [(J.used + countN t.size, J.next, t.data.toList)], ?_, ?_⟩, ?_, ?_, ?_, rest_put I hr3⟩
  ·show Path _ 0 0 _ (J.used + countN t.size) (lastN (J.l ++ [(J.next, t)]))
   rw [lastN_snoc]
   exact path_snoc hpath2 hnew
  ·show _ = (J.l ++ [(J.next, t)]).map _
   rw [List.map_append, hxs, List.map_append]
   rfl
  ·show recAt (bankAt (nowL (putM (packB J.next t) (J.bank * h + J.used) M)) (J.bank * h) h 0) (J.used + countN t.size) (lastN (J.l ++ [(J.next, t)])) = none
   rw [lastN_snoc]
   refine rec_none hT' (fun hu he => ?_)
   rcases hjoin _ _ hT he with ⟨e, _⟩ | ⟨_, e, _⟩
   ·omega
   ·omega
  ·show (joinL (bankAt (nowL (putM (packB J.next t) (J.bank * h + J.used) M)) ((1 - J.bank) * h) h 0)).e = 0 -> J.l ++ [(J.next, t)] ≠ [] /\ (joinL (bankAt (nowL (putM (packB J.next t) (J.bank * h + J.used) M)) ((1 - J.bank) * h) h 0)).number < firstN (J.l ++ [(J.next, t)])
   intro he
   obtain ⟨h1, h2⟩ := hoth he
   exact ⟨by simp, by rw [firstN_snoc _ _ h1]; exact h2⟩
  ·show J.l ++ [(J.next, t)] = [] -> _
   intro e
   simp at e
theorem compact_inv (I : JInv h J M) (hN : J.next <= mostN) (ht : t.size <= 8000) : JInv h (jcompact h t J M).2.1 (jcompact h t J M).2.2 := by
 unfold jcompact
 split
 ·exact I
 rename_i hr
 have hc := count_pos t.size
 obtain ⟨b1, b2⟩ := I.banks
 have hl := packB_size J.next t
 have hb : (1 - J.bank) * h + countN t.size <= M.length := by omega
 have hb' : (1 - J.bank) * h + (packB J.next t).length <= M.length := by rw [packB_len]; exact hb
 have hp := put_rows (t := t) (N := J.next) (o := (1 - J.bank) * h) I.fine I.clean hb
 have hNN : 1 <= J.next /\ J.next <= mostN := ⟨I.next, hN⟩
 have hjoin := fun (b u : Nat) (hbb : b + h <= (nowL M).length) => put_join hp hNN ht I.under b h u hbb
 have hT : J.bank * h + h <= (nowL M).length := by rw [nowL_len]; exact b1
 have hT2 : (1 - J.bank) * h + h <= (nowL M).length := by rw [nowL_len]; exact b2
 have hT' : J.bank * h + h <= (nowL (putM (packB J.next t) ((1 - J.bank) * h) M)).length := by rw [hp.len]; exact hT
 have hT2' : (1 - J.bank) * h + h <= (nowL (putM (packB J.next t) ((1 - J.bank) * h) M)).length := by rw [hp.len]; exact hT2
 have hr2 : (1 - J.bank) * h + countN t.size <= 2 * h := by rcases I.bank with e | e <;> rw [e] <;> simp <;> omega
 split
 ·rename_i hbad
  obtain ⟨xs, hpath, hxs⟩ := I.path
  have hlen : (bankAt (nowL (putM (packB J.next t) ((1 - J.bank) * h) M)) (J.bank * h) h 0).length = (bankAt (nowL M) (J.bank * h) h 0).length := by rw [bankAt_len _ _ _ _ hT', bankAt_len _ _ _ _ hT]
  have hkeep : ∀ i, i < J.used -> (bankAt (nowL (putM (packB J.next t) ((1 - J.bank) * h) M)) (J.bank * h) h 0)[i]? = (bankAt (nowL M) (J.bank * h) h 0)[i]? := by
   intro i hi
   have hu := I.used
   rw [bankAt_get _ _ _ _ _ (by omega), bankAt_get _ _ _ _ _ (by omega)]
   refine hp.out _ ?_
   rw [packL_len]
   have hcc : countN t.data.toList.length = countN t.size := rfl
   rcases I.bank with e | e <;> rw [e] <;> simp <;> omega
  refine ⟨putM_fine I.fine hl hb', putM_clean I.fine hl hb', by rw [putM_len]; exact I.len, I.pos, I.bank, I.used, by show 1 <= J.next + 1; omega, put_under hp hNN ht I.under, Nat.lt_succ_of_lt I.last, ⟨xs, path_keep hlen hpath hkeep, hxs⟩, ?_, ?_, I.none0, rest_put I hr2⟩
  ·show recAt (bankAt (nowL (putM (packB J.next t) ((1 - J.bank) * h) M)) (J.bank * h) h 0) J.used (lastN J.l) = none
   refine rec_none hT' (fun hu he => ?_)
   rcases hjoin _ _ hT he with ⟨_, e⟩ | ⟨_, e, _⟩
   ·rw [<- e] at he ⊢
    exact stop_up hT I.stop hu he
   ·exfalso
    have := I.pos
    rcases I.bank with e0 | e0 <;> rw [e0] at e <;> simp at e <;> omega
  ·intro he
   rcases hjoin _ 0 hT2 he with ⟨_, e⟩ | ⟨_, _, hg⟩
   ·have h3 := I.other
    rw [e] at h3
    exact h3 he
   ·rw [bad_ghost hb hg] at hbad
    cases hbad
 ·rename_i hbad
  have hgood := put_good (t := t) (N := J.next) (o := (1 - J.bank) * h) I.fine hb (by simpa using hbad)
  have hnew := rec_new (T' := nowL (putM (packB J.next t) ((1 - J.bank) * h) M)) (u := 0) (last := 0) hT2' hNN ht (by omega : 0 + countN t.size <= h) hNN.1 (fun k hk => by rw [Nat.add_zero]; exact hgood k hk)
  rw [Nat.zero_add] at hnew
  have hbk : 1 - J.bank = 0 \/ 1 - J.bank = 1 := by omega
  have hbb : 1 - (1 - J.bank) = J.bank := by rcases I.bank with e | e <;> rw [e]
  refine ⟨putM_fine I.fine hl hb', putM_clean I.fine hl hb', by rw [putM_len]; exact I.len, I.pos, hbk, by show countN t.size <= h; omega, by show 1 <= J.next + 1; omega, put_under hp hNN ht I.under, by show J.next < J.next + 1; omega, ⟨[(countN t.size, J.next, t.data.toList)], .cons hnew (.nil _ _), rfl⟩, ?_, ?_, fun e => (by cases e), rest_put I hr2⟩
  ·show recAt (bankAt (nowL (putM (packB J.next t) ((1 - J.bank) * h) M)) ((1 - J.bank) * h) h 0) (countN t.size) J.next = none
   refine rec_none hT2' (fun hu he => ?_)
   rcases hjoin _ _ hT2 he with ⟨e, _⟩ | ⟨_, e, _⟩
   ·omega
   ·omega
  ·show (joinL (bankAt (nowL (putM (packB J.next t) ((1 - J.bank) * h) M)) ((1 - (1 - J.bank)) * h) h 0)).e = 0 -> [(J.next, t)] ≠ [] /\ (joinL (bankAt (nowL (putM (packB J.next t) ((1 - J.bank) * h) M)) ((1 - (1 - J.bank)) * h) h 0)).number < J.next
   rw [hbb]
   intro he
   refine ⟨by simp, ?_⟩
   rcases hjoin _ 0 hT he with ⟨e, _⟩ | ⟨_, e, _⟩
   ·exact e
   ·exfalso
    have := I.pos
    rcases I.bank with e0 | e0 <;> rw [e0] at e <;> simp at e <;> omega
end
end Go.Proofs.YtpghocekofdpbaaGreatDoor
namespace Go.Proofs.YtpghocekofdpbaaGreatDoor
open Sec (joinL)
theorem path_rest {B : Rows8} {u last u' last' : Nat} {xs : List (Nat × Nat × List UInt8)} (h : Path B u last xs u' last') : ∀ f, B.length < f + u -> ∃ f', recsF f B u last = xs ++ recsF f' B u' last' /\ B.length < f' + u' := by
 induction h with
 | nil u last => exact fun f hf => ⟨f, rfl, hf⟩
 | cons hx r ih =>
  intro f hf
  have h1 := recAt_up hx
  cases f with
  | zero => omega
  | succ f =>
   obtain ⟨f', e, hf'⟩ := ih f (by omega)
   refine ⟨f', ?_, hf'⟩
   show (match recAt B _ _ with | none => [] | some x => x :: recsF f B x.1 x.2.1) = _
   rw [hx]
   show _ :: recsF f B _ _ = _
   rw [e]
   rfl
theorem recs_next {B : Rows8} {u last : Nat} {xs : List (Nat × Nat × List UInt8)} {x : Nat × Nat × List UInt8} (h : Path B 0 0 xs u last) (hx : recAt B u last = some x) : (recs B)[xs.length]? = some x := by
 obtain ⟨f, e, hf⟩ := path_rest h (B.length + 1) (by omega)
 unfold recs
 rw [e, List.getElem?_append_right (Nat.le_refl _), Nat.sub_self]
 have h1 := recAt_up hx
 cases f with
 | zero => omega
 | succ f =>
  show (match recAt B _ _ with | none => [] | some x => x :: recsF f B x.1 x.2.1)[0]? = _
  rw [hx]
  rfl
theorem recs_end {B : Rows8} {u last : Nat} {xs : List (Nat × Nat × List UInt8)} (h : Path B 0 0 xs u last) (hx : recAt B u last = none) : recs B = xs := path_recs h hx _ (by omega)
theorem path_to {B : Rows8} {u last : Nat} {xs : List (Nat × Nat × List UInt8)} {u0 last0 : Nat} (h : Path B u0 last0 xs u last) : u <= max u0 B.length := by
 induction h with
 | nil u last => omega
 | cons hx r ih =>
  have := recAt_up hx
  omega
end Go.Proofs.YtpghocekofdpbaaGreatDoor
namespace Go.Proofs.YtpghocekofdpbaaGreatDoor
open Sec (joinL openL getL PartL mostN open_ends)
def nx (m n : Nat) : Nat := if n <= mostN then max m (n + 1) else m
def jnext : Rows8 -> Nat -> Nat
 | [], m => m
 | s :: r, m => jnext r (nx (nx m (getL (s.take 8))) (getL (s.drop (s.length - 8))))
theorem nx_le (m n : Nat) : m <= nx m n := by
 unfold nx
 split
 ·exact Nat.le_max_left _ _
 ·exact Nat.le_refl _
theorem nx_lt (m n : Nat) (h : n <= mostN) : n < nx m n := by
 unfold nx
 rw [if_pos h]
 exact Nat.lt_of_lt_of_le (Nat.lt_succ_self n) (Nat.le_max_right _ _)
theorem jnext_le : ∀ (l : Rows8) (m : Nat), m <= jnext l m
 | [], _ => Nat.le_refl _
 | _ :: r, m => Nat.le_trans (Nat.le_trans (nx_le m _) (nx_le _ _)) (jnext_le r _)
theorem open_most {s : List UInt8} {p : PartL} (h : openL s = some p) : getL (s.take 8) <= mostN := by
 unfold openL at h
 split at h
 ·rename_i hc
  exact hc.2.2.1
 ·cases h
theorem jnext_under : ∀ (l : Rows8) (m : Nat) (s : List UInt8) (p : PartL), s ∈ l -> openL s = some p -> p.number < jnext l m
 | [], _, _, _, h, _ => by simp at h
 | t :: r, m, s, p, h, hp => by
  show p.number < jnext r _
  rcases List.mem_cons.1 h with rfl | h1
  ·have h2 := (open_ends hp).2.1
   have h3 := nx_lt m _ (open_most hp)
   rw [<- h2] at h3
   exact Nat.lt_of_lt_of_le h3 (Nat.le_trans (by rw [h2]; exact nx_le _ _) (jnext_le r _))
  ·exact jnext_under r _ s p h1 hp
def firstNo (B : Rows8) : Nat := ((recs B).head?.map fun x => x.2.1).getD 0
def openBank (h : Nat) (M : List Sec) : Nat := if firstNo (bankAt (nowL M) (0 * h) h 0) < firstNo (bankAt (nowL M) (1 * h) h 0) then 1 else 0
def jopen (h : Nat) (M : List Sec) : Jrn :=
 ⟨openBank h M, ((recs (bankAt (nowL M) (openBank h M * h) h 0)).getLast?.map fun x => x.1).getD 0, jnext ((nowL M).take (2 * h)) 1, (recs (bankAt (nowL M) (openBank h M * h) h 0)).map fun x => (x.2.1, ⟨x.2.2.toArray⟩), false⟩
section
variable {h : Nat} {J : Jrn} {M : List Sec}
theorem path_last {B : Rows8} {u last u0 last0 : Nat} {xs : List (Nat × Nat × List UInt8)} (h : Path B u0 last0 xs u last) : u = (xs.getLast?.map fun x => x.1).getD u0 /\ last = (xs.getLast?.map fun x => x.2.1).getD last0 := by
 induction h with
 | nil u last => exact ⟨rfl, rfl⟩
 | cons hx r ih =>
  rename_i u last x xs u' last'
  cases xs with
  | nil => exact ih
  | cons y ys =>
   rw [List.getLast?_cons_cons]
   obtain ⟨e1, e2⟩ := ih
   cases hg : (y :: ys).getLast? with
   | none => simp at hg
   | some z => rw [hg] at e1 e2; exact ⟨e1, e2⟩
theorem rec_back (l : List (Nat × ByteArray)) (xs : List (Nat × Nat × List UInt8)) (hx : xs.map (fun x => (x.2.1, x.2.2)) = l.map fun e => (e.1, e.2.data.toList)) : (xs.map fun x => ((x.2.1, ⟨x.2.2.toArray⟩) : Nat × ByteArray)) = l := by
 have e : (xs.map fun x => ((x.2.1, ⟨x.2.2.toArray⟩) : Nat × ByteArray)) = (xs.map (fun x => (x.2.1, x.2.2))).map fun y : Nat × List UInt8 => (y.1, (⟨y.2.toArray⟩ : ByteArray)) := by
  rw [List.map_map]; rfl
 rw [e, hx, List.map_map]
 have : ∀ y : Nat × ByteArray, ((fun y : Nat × List UInt8 => (y.1, (⟨y.2.toArray⟩ : ByteArray))) ∘ fun e : Nat × ByteArray => (e.1, e.2.data.toList)) y = y := fun y => rfl
 conv => rhs; rw [<- List.map_id l]
 apply List.map_congr_left
 intro y _
 exact this y
theorem open_finds (I : JInv h J M) : (jopen h M).bank = J.bank /\ (jopen h M).used = J.used /\ (jopen h M).l = J.l := by
 obtain ⟨xs, hp, hx⟩ := I.path
 have hre := recs_end hp I.stop
 have hfirst : firstNo (bankAt (nowL M) (J.bank * h) h 0) = firstN J.l := by
  unfold firstNo firstN
  rw [hre]
  cases xs with
  | nil =>
   cases hl : J.l with
   | nil => rfl
   | cons y ys => rw [hl] at hx; simp at hx
  | cons x r =>
   cases hl : J.l with
   | nil => rw [hl] at hx; simp at hx
   | cons y ys =>
    rw [hl] at hx
    simp at hx
    exact hx.1.1
 have hother : firstNo (bankAt (nowL M) ((1 - J.bank) * h) h 0) = 0 \/ (J.l ≠ [] /\ firstNo (bankAt (nowL M) ((1 - J.bank) * h) h 0) < firstN J.l) := by
  cases hr : recAt (bankAt (nowL M) ((1 - J.bank) * h) h 0) 0 0 with
  | none =>
   left
   unfold firstNo
   rw [recs_end (.nil 0 0) hr]
   rfl
  | some x =>
   right
   have h1 : (recs (bankAt (nowL M) ((1 - J.bank) * h) h 0))[0]? = some x := recs_next (.nil 0 0) hr
   have h2 : firstNo (bankAt (nowL M) ((1 - J.bank) * h) h 0) = x.2.1 := by
    unfold firstNo
    rw [List.head?_eq_getElem?, h1]
    rfl
   rw [h2]
   unfold recAt at hr
   split at hr
   ·rename_i hc
    cases hr
    rw [List.drop_zero] at hc ⊢
    exact I.other hc.2.1
   ·cases hr
 have hbank : openBank h M = J.bank := by
  unfold openBank
  rcases I.bank with e | e
  ·rw [e] at hfirst hother ⊢
   rw [hfirst]
   rcases hother with h0 | ⟨_, h0⟩
   ·rw [if_neg]
    have h0' : firstNo (bankAt (nowL M) (1 * h) h 0) = 0 := h0
    omega
   ·rw [if_neg]
    have h0' : firstNo (bankAt (nowL M) (1 * h) h 0) < firstN J.l := h0
    omega
  ·rw [e] at hfirst hother ⊢
   rw [hfirst]
   have hne : J.l ≠ [] := fun e0 => by have := I.none0 e0; omega
   have hpos : 0 < firstN J.l := by
    cases xs with
    | nil =>
     cases hl : J.l with
     | nil => exact absurd hl hne
     | cons y ys => rw [hl] at hx; simp at hx
    | cons x r =>
     cases hp with
     | cons hx0 _ =>
      have := recAt_up hx0
      have e1 : firstN J.l = x.2.1 := by
       rw [<- hfirst]
       rw [e] at hre
       unfold firstNo
       rw [hre]
       rfl
      omega
   rcases hother with h0 | ⟨_, h0⟩
   ·rw [if_pos]
    have h0' : firstNo (bankAt (nowL M) (0 * h) h 0) = 0 := h0
    omega
   ·rw [if_pos]
    exact h0
 obtain ⟨p1, _⟩ := path_last hp
 refine ⟨hbank, ?_, ?_⟩
 ·show ((recs (bankAt (nowL M) (openBank h M * h) h 0)).getLast?.map fun x => x.1).getD 0 = _
  rw [hbank, hre]
  exact p1.symm
 ·show (recs (bankAt (nowL M) (openBank h M * h) h 0)).map _ = _
  rw [hbank, hre]
  exact rec_back _ _ hx
end
end Go.Proofs.YtpghocekofdpbaaGreatDoor
namespace Go.Proofs.YtpghocekofdpbaaGreatDoor
open Sec (joinL openL getL PartL mostN)
theorem path_has {B : Rows8} {u last u0 last0 : Nat} {xs : List (Nat × Nat × List UInt8)} (h : Path B u0 last0 xs u last) : last = last0 \/ ∃ (i : Nat) (s : List UInt8) (p : PartL), B[i]? = some s /\ openL s = some p /\ p.number = last := by
 induction h with
 | nil u last => exact .inl rfl
 | cons hx r ih =>
  rename_i u last x xs u' last'
  rcases ih with e | ih
  ·right
   unfold recAt at hx
   split at hx
   ·rename_i hc
    cases hx
    obtain ⟨s, p, hs, hp, hn, _⟩ := join_parts hc.2.1 0 (by have := join_used hc.2.1; omega)
    rw [List.getElem?_drop] at hs
    exact ⟨_, s, p, hs, hp, hn.trans e.symm⟩
   ·cases hx
  ·exact .inr ih
section
variable {h : Nat} {J : Jrn} {M : List Sec}
theorem open_inv (I : JInv h J M) : JInv h (jopen h M) M := by
 obtain ⟨e1, e2, e3⟩ := open_finds I
 have hK : jopen h M = ⟨J.bank, J.used, jnext ((nowL M).take (2 * h)) 1, J.l, false⟩ := by
  rw [<- e1, <- e2, <- e3]
  rfl
 have hunder : Under (nowL M) (jnext ((nowL M).take (2 * h)) 1) := by
  intro i s p hs hp
  by_cases hi : i < 2 * h
  ·refine jnext_under _ 1 s p (List.mem_of_getElem? (i := i) ?_) hp
   rw [List.getElem?_take, if_pos hi]
   exact hs
  ·rw [I.rest i s (by omega) hs] at hp
   cases hp
 have hlast : lastN J.l < jnext ((nowL M).take (2 * h)) 1 := by
  obtain ⟨xs, hp, _⟩ := I.path
  rcases path_has hp with e | ⟨i, s, p, hs, ho, hn⟩
  ·rw [e]
   exact Nat.lt_of_lt_of_le Nat.zero_lt_one (jnext_le _ 1)
  ·have hil : i < h := by
    have h1 := (List.getElem?_eq_some_iff.1 hs).1
    obtain ⟨b1, _⟩ := I.banks
    rw [bankAt_len _ _ _ _ (by rw [nowL_len]; exact b1)] at h1
    omega
   rw [bankAt_get _ _ _ _ _ (by omega)] at hs
   have := hunder _ s p hs ho
   omega
 rw [hK]
 exact ⟨I.fine, I.clean, I.len, I.pos, I.bank, I.used, jnext_le _ 1, hunder, hlast, I.path, I.stop, I.other, I.none0, I.rest⟩
end
end Go.Proofs.YtpghocekofdpbaaGreatDoor
namespace Go.Proofs.YtpghocekofdpbaaGreatDoor
open Sec (packL packAt countN mostN joinL openL secText getL putL putL_len get_put PartL packL_len packL_at packAt_len count_pos zeroL open_zero take_app drop_app get_zeros)
def Low (T : Rows8) (m : Nat) : Prop := ∀ (i : Nat) (s : List UInt8), T[i]? = some s -> getL (s.take 8) < m /\ getL (s.drop (s.length - 8)) < m
theorem nx_mono {k m a : Nat} (h : a < m) (hk : k <= m) : nx k a <= m := by
 unfold nx
 split <;> omega
theorem jnext_low : ∀ (T : Rows8) (k m : Nat), Low T m -> k <= m -> jnext T k <= m
 | [], _, _, _, h => h
 | s :: r, k, m, h, hk => by
  show jnext r _ <= m
  obtain ⟨h1, h2⟩ := h 0 s rfl
  exact jnext_low r _ m (fun i t ht => h (i + 1) t (by simpa using ht)) (nx_mono h2 (nx_mono h1 hk))
theorem low_jnext : ∀ (T : Rows8) (k : Nat), Low T (mostN + 1) -> Low T (jnext T k)
 | [], _, _ => fun i s h => by simp at h
 | s :: r, k, h => by
  obtain ⟨h1, h2⟩ := h 0 s rfl
  intro i t ht
  show _ < jnext r _ /\ _ < jnext r _
  cases i with
  | zero =>
   cases ht
   have a1 := nx_lt k (getL (s.take 8)) (by omega)
   have a2 := nx_lt (nx k (getL (s.take 8))) (getL (s.drop (s.length - 8))) (by omega)
   have a3 := nx_le (nx k (getL (s.take 8))) (getL (s.drop (s.length - 8)))
   have a4 := jnext_le r (nx (nx k (getL (s.take 8))) (getL (s.drop (s.length - 8))))
   exact ⟨by omega, by omega⟩
  | succ i => exact low_jnext r _ (fun i t ht => h (i + 1) t (by simpa using ht)) i t (by simpa using ht)
theorem low_up {T : Rows8} {m n : Nat} (h : Low T m) (hn : m <= n) : Low T n := fun i s hs => by
 obtain ⟨h1, h2⟩ := h i s hs
 exact ⟨Nat.lt_of_lt_of_le h1 hn, Nat.lt_of_lt_of_le h2 hn⟩
theorem put_take {T T' : Rows8} {o : Nat} {P : Rows8} (h : PutT T T' o P) (n : Nat) (i : Nat) (s : List UInt8) (hs : (T'.take n)[i]? = some s) : (T.take n)[i]? = some s \/ ∃ k, i = o + k /\ P[k]? = some s := by
 rw [List.getElem?_take] at hs ⊢
 split at hs
 ·rename_i hi
  rw [if_pos hi]
  exact h.at_ i s hs
 ·cases hs
theorem pack_ends (N : Nat) (t : List UInt8) (i : Nat) (hN : N <= mostN) : getL ((packAt N t i).take 8) = N /\ getL ((packAt N t i).drop ((packAt N t i).length - 8)) = N := by
 have hn : N < 256 ^ 8 := by unfold Sec.mostN at hN; omega
 have e1 : (packAt N t i).take 8 = putL N 8 := take_app _ _ (putL_len _ _)
 have htl : ((t.drop (44 * i)).take 44).length = min (t.length - 44 * i) 44 := by rw [List.length_take, List.length_drop, Nat.min_comm]
 have e4 : (packAt N t i).drop 56 = putL N 8 := by
  unfold Sec.packAt
  rw [drop_app _ _ (putL_len 8 N) (by omega), drop_app _ _ (putL_len 2 i) (by omega), drop_app _ _ (putL_len 2 _) (by omega), drop_app _ _ htl (by omega), drop_app _ _ (List.length_replicate) (by rw [htl]; omega), htl]
  rw [show 56 - 8 - 2 - 2 - min (t.length - 44 * i) 44 - (44 - min (t.length - 44 * i) 44) = 0 by omega]
  rfl
 rw [packAt_len, show 64 - 8 = 56 by rfl, e1, e4]
 exact ⟨get_put 8 N hn, get_put 8 N hn⟩
theorem low_put {T T' : Rows8} {o N : Nat} {t : List UInt8} (h : PutT T T' o (packL N t)) (hN : N <= mostN) (n : Nat) (hl : Low (T.take n) N) : Low (T'.take n) (N + 1) := by
 intro i s hs
 rcases put_take h n i s hs with h1 | ⟨k, _, h2⟩
 ·obtain ⟨a, b⟩ := hl i s h1
  exact ⟨by omega, by omega⟩
 ·unfold Sec.packL at h2
  rw [List.getElem?_map] at h2
  obtain ⟨j, _, rfl⟩ := Option.map_eq_some_iff.1 h2
  obtain ⟨a, b⟩ := pack_ends N t j hN
  rw [a, b]
  exact ⟨Nat.lt_succ_self N, Nat.lt_succ_self N⟩
section
variable {h : Nat} {J : Jrn} {M : List Sec} {t : ByteArray}
theorem append_low (I : JInv h J M) (hN : J.next <= mostN) (hl : Low ((nowL M).take (2 * h)) J.next) : Low ((nowL (jappend h t J M).2.2).take (2 * h)) (jappend h t J M).2.1.next := by
 unfold jappend
 split
 ·exact hl
 split
 ·exact hl
 rename_i hr
 have hb : J.bank * h + J.used + countN t.size <= M.length := by
  have := I.len
  rcases I.bank with e | e <;> rw [e] <;> omega
 have hp := low_put (put_rows (t := t) (N := J.next) I.fine I.clean hb) hN (2 * h) hl
 split
 ·exact hp
 ·exact hp
theorem compact_low (I : JInv h J M) (hN : J.next <= mostN) (hl : Low ((nowL M).take (2 * h)) J.next) : Low ((nowL (jcompact h t J M).2.2).take (2 * h)) (jcompact h t J M).2.1.next := by
 unfold jcompact
 split
 ·exact hl
 rename_i hr
 have hb : (1 - J.bank) * h + countN t.size <= M.length := by
  have := I.banks.2
  omega
 have hp := low_put (put_rows (t := t) (N := J.next) I.fine I.clean hb) hN (2 * h) hl
 split
 ·exact hp
 ·exact hp
theorem open_low (I : JInv h J M) (hl : Low ((nowL M).take (2 * h)) J.next) : (jopen h M).next <= J.next := jnext_low _ 1 _ hl I.next
theorem open_ends_low (hN : J.next <= mostN) (hl : Low ((nowL M).take (2 * h)) J.next) : Low ((nowL M).take (2 * h)) (jopen h M).next := low_jnext _ 1 (low_up hl (by omega))
theorem jopen_eq (I : JInv h J M) : jopen h M = ⟨J.bank, J.used, jnext ((nowL M).take (2 * h)) 1, J.l, false⟩ := by
 obtain ⟨e1, e2, e3⟩ := open_finds I
 rw [<- e1, <- e2, <- e3]
 rfl
end
def J0 : Jrn := ⟨0, 0, 1, [], false⟩
theorem zero_join (l : Rows8) (hl : ∀ s ∈ l, s = zeroL) : (joinL l).e ≠ 0 := by
 intro h
 obtain ⟨s0, p, _, h0, _, hp, _⟩ := join_head h
 rw [hl s0 (List.mem_of_getElem? h0), open_zero] at hp
 cases hp
theorem blank_now (n : Nat) : ∀ s ∈ nowL (List.replicate n Sec.blank), s = zeroL := by
 intro s hs
 unfold nowL at hs
 obtain ⟨x, hx, rfl⟩ := List.mem_map.1 hs
 rw [List.eq_of_mem_replicate hx]
 rfl
theorem bank_mem {T : Rows8} {o hh u : Nat} {s : List UInt8} (h : s ∈ bankAt T o hh u) : s ∈ T := by
 unfold bankAt at h
 exact List.mem_of_mem_drop (List.mem_of_mem_take (List.mem_of_mem_drop h))
theorem fresh_inv (n h : Nat) (h1 : 1 <= h) (hn : 2 * h <= n) : JInv h J0 (List.replicate n Sec.blank) := by
 have hz : ∀ o hh u, (joinL (bankAt (nowL (List.replicate n Sec.blank)) o hh u)).e ≠ 0 := fun o hh u => zero_join _ fun s hs => blank_now n s (bank_mem hs)
 refine ⟨fun x hx => ?_, fun x hx => ?_, by rw [List.length_replicate]; exact hn, h1, .inl rfl, Nat.zero_le _, Nat.le_refl _, fun i s p hs hp => ?_, Nat.zero_lt_one, ⟨[], .nil _ _, rfl⟩, ?_, fun e => absurd e (hz _ _ _), fun _ => rfl, fun i s _ hs => ?_⟩
 ·rw [List.eq_of_mem_replicate hx]
  exact ⟨zeros_size, zeros_size, fun e => by cases e⟩
 ·rw [List.eq_of_mem_replicate hx]
  rfl
 ·rw [blank_now n s (List.mem_of_getElem? hs), open_zero] at hp
  cases hp
 ·exact rec_none (by rw [nowL_len, List.length_replicate]; show 0 * h + h <= n; omega) (fun _ e => absurd e (hz _ _ _))
 ·rw [blank_now n s (List.mem_of_getElem? hs)]
  exact open_zero
theorem fresh_low (n m : Nat) : Low ((nowL (List.replicate n Sec.blank)).take m) 1 := by
 intro i s hs
 rw [blank_now n s (List.mem_of_mem_take (List.mem_of_getElem? hs))]
 exact ⟨by decide, by decide⟩
def Unworn (o : Nat) (M : List Sec) : Prop := ∀ (i : Nat) (x : Sec), o <= i -> M[i]? = some x -> x.worn = false
section
variable {h : Nat} {J : Jrn} {M : List Sec} {t : ByteArray}
theorem put_keeps {o N b : Nat} (hf : Fine M) (hc : Clean M) (hb : b + countN t.size <= M.length) (hw : Unworn o M) : Unworn o (putM (packB N t) b M) := by
 intro i y hi hy
 have hl := (List.getElem?_eq_some_iff.1 hy).1
 rw [putM_len] at hl
 have hb' : b + (packB N t).length <= M.length := by rw [packB_len]; exact hb
 have := putM_worn hf hc (packB_size N t) hb' i _ y (List.getElem?_eq_getElem hl) hy
 rw [this]
 exact hw i _ hi (List.getElem?_eq_getElem hl)
theorem unworn_put {N b : Nat} (hf : Fine M) (hc : Clean M) (hb : b + countN t.size <= M.length) (hw : Unworn b M) : badM (packB N t) b (putM (packB N t) b M) (countN t.size) = false :=
 put_unworn hf hc hb fun i x h1 _ hx => hw i x h1 hx
theorem unworn_up {a b : Nat} (h : Unworn a M) (hb : a <= b) : Unworn b M := fun i x hi hx => h i x (Nat.le_trans hb hi) hx
theorem append_unworn (I : JInv h J M) (hw : Unworn (J.bank * h) M) (hs : J.spoiled = false) (t : ByteArray) :
  jappend h t J M = if h < J.used + countN t.size then (((0 : Int), (15 : Int)), J, M) else (((J.next : Int), (0 : Int)), ⟨J.bank, J.used + countN t.size, J.next + 1, J.l ++ [(J.next, t)], false⟩, putM (packB J.next t) (J.bank * h + J.used) M) := by
 unfold jappend
 rw [if_neg (by rw [hs]; decide)]
 by_cases hr : h < J.used + countN t.size
 ·rw [if_pos hr, if_pos hr]
 ·rw [if_neg hr, if_neg hr]
  have hb : J.bank * h + J.used + countN t.size <= M.length := by
   have := I.len
   rcases I.bank with e | e <;> rw [e] <;> omega
  rw [unworn_put I.fine I.clean hb (unworn_up hw (Nat.le_add_right _ _))]
  rfl
theorem compact_unworn (I : JInv h J M) (hw : Unworn ((1 - J.bank) * h) M) (t : ByteArray) :
  jcompact h t J M = if h < countN t.size then (((0 : Int), (15 : Int)), J, M) else (((J.next : Int), (0 : Int)), ⟨1 - J.bank, countN t.size, J.next + 1, [(J.next, t)], false⟩, putM (packB J.next t) ((1 - J.bank) * h) M) := by
 unfold jcompact
 by_cases hr : h < countN t.size
 ·rw [if_pos hr, if_pos hr]
 ·rw [if_neg hr, if_neg hr]
  have hb : (1 - J.bank) * h + countN t.size <= M.length := by have := I.banks.2; omega
  rw [unworn_put I.fine I.clean hb hw]
  rfl
theorem append_worn {o : Nat} (I : JInv h J M) (hw : Unworn o M) : Unworn o (jappend h t J M).2.2 := by
 unfold jappend
 split
 ·exact hw
 split
 ·exact hw
 rename_i hr
 have hb : J.bank * h + J.used + countN t.size <= M.length := by
  have := I.len
  rcases I.bank with e | e <;> rw [e] <;> omega
 split <;> exact put_keeps I.fine I.clean hb hw
theorem compact_worn {o : Nat} (I : JInv h J M) (hw : Unworn o M) : Unworn o (jcompact h t J M).2.2 := by
 unfold jcompact
 split
 ·exact hw
 have hb : (1 - J.bank) * h + countN t.size <= M.length := by have := I.banks.2; omega
 split <;> exact put_keeps I.fine I.clean hb hw
theorem fresh_unworn (n o : Nat) : Unworn o (List.replicate n Sec.blank) := fun i x _ hx => by
 rw [List.eq_of_mem_replicate (List.mem_of_getElem? hx)]
 rfl
end
end Go.Proofs.YtpghocekofdpbaaGreatDoor
