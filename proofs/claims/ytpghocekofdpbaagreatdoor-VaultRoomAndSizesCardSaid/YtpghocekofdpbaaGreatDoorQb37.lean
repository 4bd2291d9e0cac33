import Derived.Test.YtpghocekofdpbaaGreatDoorQb19
import Derived.Test.YtpghocekofdpbaaGreatDoorQb36
import Derived.Test.YtpghocekofdpbaaGreatDoorQb23
namespace Go.Proofs.YtpghocekofdpbaaGreatDoor
def jlabel : ByteArray := ⟨#[106, 111, 117, 114, 110, 97, 108]⟩
def jkey (root : ByteArray) : List UInt8 := deriveL (bl root) (bl jlabel) []
theorem jkey_len (root : ByteArray) : (jkey root).length = 32 := deriveL_len _ _ _
def blobOf (root : ByteArray) (n : Nat) (t : ByteArray) : ByteArray := txt (sealL (jkey root) (intL n) (bl t))
theorem blobOf_size (root : ByteArray) (n : Nat) (t : ByteArray) : (blobOf root n t).size = t.size + 28 := by
 unfold blobOf
 rw [txt_size, sealL_len, bl_len]
structure Part where
 kind : Nat
 start : ByteArray
 text : ByteArray
def noPart : Part := ⟨0, ⟨#[]⟩, ⟨#[]⟩⟩
def partL : List UInt8 -> Part
 | [] => noPart
 | c :: s => if c = 82 then ⟨82, ⟨#[]⟩, txt s⟩ else if c = 73 /\ 32 <= s.length then ⟨73, txt (s.take 32), txt (s.drop 32)⟩ else noPart
theorem partL_cons (c : UInt8) (s : List UInt8) : partL (c :: s) = if c = 82 then ⟨82, ⟨#[]⟩, txt s⟩ else if c = 73 /\ 32 <= s.length then ⟨73, txt (s.take 32), txt (s.drop 32)⟩ else noPart := rfl
def openB (root : ByteArray) (n : Nat) (blob : ByteArray) : Part :=
 if (openL (jkey root) (intL n) (bl blob)).2 = 0 then partL (openL (jkey root) (intL n) (bl blob)).1 else noPart
def linkB (chain : ByteArray) (n : Nat) (blob : ByteArray) : ByteArray := txt (macL (bl chain) (intL n ++ bl blob))
theorem linkB_size (chain : ByteArray) (n : Nat) (blob : ByteArray) : (linkB chain n blob).size = 32 := by
 unfold linkB
 rw [txt_size, macL_len]
def recT (t : ByteArray) : ByteArray := ⟨#[82]⟩ ++ t
def imgT (chain image : ByteArray) : ByteArray := ⟨#[73]⟩ ++ chain ++ image
theorem recT_size (t : ByteArray) : (recT t).size = t.size + 1 := by unfold recT; rw [ByteArray.size_append]; show 1 + t.size = _; omega
theorem imgT_size (c t : ByteArray) : (imgT c t).size = c.size + t.size + 1 := by unfold imgT; rw [ByteArray.size_append, ByteArray.size_append]; show 1 + c.size + t.size = _; omega
theorem open_blob (root : ByteArray) (n : Nat) (t : ByteArray) : openB root n (blobOf root n t) = partL (bl t) := by
 unfold openB blobOf
 rw [bl_txt, open_seal]
 exact if_pos rfl
theorem open_rec (root : ByteArray) (n : Nat) (t : ByteArray) : openB root n (blobOf root n (recT t)) = ⟨82, ⟨#[]⟩, t⟩ := by
 rw [open_blob]
 have e : bl (recT t) = 82 :: bl t := by unfold recT; rw [bl_append]; rfl
 rw [e, partL_cons, if_pos rfl, txt_bl]
theorem open_img (root : ByteArray) (n : Nat) (c t : ByteArray) (hc : c.size = 32) : openB root n (blobOf root n (imgT c t)) = ⟨73, c, t⟩ := by
 rw [open_blob]
 have e : bl (imgT c t) = 73 :: (bl c ++ bl t) := by unfold imgT; rw [bl_append, bl_append]; rfl
 have hl : (bl c).length = 32 := by rw [bl_len]; exact hc
 rw [e, partL_cons, if_neg (by decide), if_pos ⟨rfl, by rw [List.length_append]; omega⟩, List.take_append_of_le_length (by omega), List.take_of_length_le (by omega), List.drop_append_of_le_length (by omega), List.drop_of_length_le (by omega), List.nil_append, txt_bl, txt_bl]
structure RdV where
 chain : ByteArray
 before : ByteArray
 image : Option ByteArray
 texts : List ByteArray
def rd0 : RdV := ⟨zero32, ⟨#[]⟩, none, []⟩
def rdStep (root : ByteArray) (first : Bool) (r : RdV) (e : Nat × ByteArray) : Option RdV :=
 if (openB root e.1 e.2).kind = 0 \/ ((openB root e.1 e.2).kind = 73 /\ first = false) then none
 else if (openB root e.1 e.2).kind = 73 then some ⟨linkB (openB root e.1 e.2).start e.1 e.2, (openB root e.1 e.2).start, some (openB root e.1 e.2).text, r.texts⟩
 else some ⟨linkB r.chain e.1 e.2, r.chain, r.image, r.texts ++ [(openB root e.1 e.2).text]⟩
def readN (root : ByteArray) (l : List (Nat × ByteArray)) : Nat -> Option RdV
 | 0 => some rd0
 | k + 1 => match readN root l k, l[k]? with
  | some r, some e => rdStep root (decide (k = 0)) r e
  | _, _ => none
def readV (root : ByteArray) (l : List (Nat × ByteArray)) : Option RdV := readN root l l.length
theorem readN_succ {root : ByteArray} {l : List (Nat × ByteArray)} {k : Nat} {r : RdV} {e : Nat × ByteArray} (hr : readN root l k = some r) (he : l[k]? = some e) : readN root l (k + 1) = rdStep root (decide (k = 0)) r e := by
 show (match readN root l k, l[k]? with | some r, some e => rdStep root (decide (k = 0)) r e | _, _ => none) = _
 rw [hr, he]
theorem readN_app (root : ByteArray) (l m : List (Nat × ByteArray)) : ∀ k, k <= l.length -> readN root (l ++ m) k = readN root l k
 | 0, _ => rfl
 | k + 1, h => by
  show (match readN root (l ++ m) k, (l ++ m)[k]? with | some r, some e => rdStep root (decide (k = 0)) r e | _, _ => none) = (match readN root l k, l[k]? with | some r, some e => rdStep root (decide (k = 0)) r e | _, _ => none)
  rw [readN_app root l m k (by omega), List.getElem?_append_left (by omega)]
theorem readN_none {root : ByteArray} {l : List (Nat × ByteArray)} {k : Nat} (h : readN root l k = none) : ∀ m, k <= m -> readN root l m = none
 | 0, hm => by
  have : k = 0 := by omega
  rw [<- this]; exact h
 | m + 1, hm => by
  rcases Nat.lt_or_ge k (m + 1) with hk | hk
  ·show (match readN root l m, l[m]? with | some r, some e => rdStep root (decide (m = 0)) r e | _, _ => none) = none
   rw [readN_none h m (by omega)]
  ·have : k = m + 1 := by omega
   rw [<- this]; exact h
theorem readV_snoc {root : ByteArray} {l : List (Nat × ByteArray)} {r : RdV} (h : readV root l = some r) (e : Nat × ByteArray) : readV root (l ++ [e]) = rdStep root (decide (l.length = 0)) r e := by
 unfold readV
 rw [List.length_append, List.length_singleton]
 exact readN_succ (by rw [readN_app _ _ _ _ (Nat.le_refl _)]; exact h) (by rw [List.getElem?_append_right (Nat.le_refl _), Nat.sub_self]; rfl)
theorem readV_rec {root : ByteArray} {l : List (Nat × ByteArray)} {r : RdV} (h : readV root l = some r) (n : Nat) (t : ByteArray) :
  readV root (l ++ [(n, blobOf root n (recT t))]) = some ⟨linkB r.chain n (blobOf root n (recT t)), r.chain, r.image, r.texts ++ [t]⟩ := by
 rw [readV_snoc h]
 unfold rdStep
 dsimp only
 rw [open_rec, if_neg (by rintro (h | ⟨h, _⟩) <;> cases h)]
 exact if_neg (show ¬ (82 : Nat) = 73 by decide)
theorem readV_img (root : ByteArray) (n : Nat) (c t : ByteArray) (hc : c.size = 32) :
  readV root [(n, blobOf root n (imgT c t))] = some ⟨linkB c n (blobOf root n (imgT c t)), c, some t, []⟩ := by
 have h := readV_snoc (root := root) (l := []) (r := rd0) rfl (n, blobOf root n (imgT c t))
 rw [List.nil_append] at h
 rw [h]
 unfold rdStep
 dsimp only
 rw [open_img _ _ _ _ hc, if_neg (by rintro (h | ⟨_, h⟩) <;> cases h)]
 exact if_pos rfl
theorem rdStep_size {root : ByteArray} {f : Bool} {r r' : RdV} {e : Nat × ByteArray} (h : rdStep root f r e = some r') : r'.chain.size = 32 := by
 unfold rdStep at h
 split at h
 ·cases h
 ·split at h
  ·cases h; exact linkB_size _ _ _
  ·cases h; exact linkB_size _ _ _
theorem zero32_size : zero32.size = 32 := rfl
theorem readN_size {root : ByteArray} {l : List (Nat × ByteArray)} {r : RdV} : ∀ {k : Nat}, readN root l k = some r -> r.chain.size = 32
 | 0, h => by cases h; exact zero32_size
 | k + 1, h => by
  have h' : (match readN root l k, l[k]? with | some r, some e => rdStep root (decide (k = 0)) r e | _, _ => none) = some r := h
  split at h'
  ·exact rdStep_size h'
  ·cases h'
theorem readN_texts {root : ByteArray} {l : List (Nat × ByteArray)} {r : RdV} : ∀ {k : Nat}, readN root l k = some r -> r.texts.length <= k
 | 0, h => by cases h; exact Nat.le_refl _
 | k + 1, h => by
  have h' : (match readN root l k, l[k]? with | some r, some e => rdStep root (decide (k = 0)) r e | _, _ => none) = some r := h
  split at h'
  ·rename_i q e hq he
   have ih := readN_texts hq
   unfold rdStep at h'
   split at h'
   ·cases h'
   ·split at h'
    ·cases h'; exact Nat.le_succ_of_le ih
    ·cases h'; rw [List.length_append]; exact Nat.succ_le_succ ih
  ·cases h'
def firstOpens (root : ByteArray) (l : List (Nat × ByteArray)) : Bool := match l with
 | [] => false
 | e :: _ => !decide ((openB root e.1 e.2).kind = 0)
theorem read_opens {root : ByteArray} {l : List (Nat × ByteArray)} {r : RdV} (h : readV root l = some r) (hl : l ≠ []) : firstOpens root l = true := by
 cases l with
 | nil => exact absurd rfl hl
 | cons e m =>
  unfold firstOpens
  cases hk : decide ((openB root e.1 e.2).kind = 0) with
  | false =>
   show (!decide ((openB root e.1 e.2).kind = 0)) = true
   rw [hk]
   rfl
  | true =>
   have h1 : readN root (e :: m) 1 = none := by
    show (match readN root (e :: m) 0, (e :: m)[0]? with | some r, some e => rdStep root (decide (0 = 0)) r e | _, _ => none) = none
    show rdStep root _ rd0 e = none
    unfold rdStep
    rw [if_pos (.inl (of_decide_eq_true hk))]
   have h2 := readN_none h1 (e :: m).length (by simp)
   unfold readV at h
   rw [h2] at h
   cases h
def isRoot (s : ByteArray) (l : List (Nat × ByteArray)) : Bool := !decide (s = zero32) && (decide (l = []) || firstOpens s l)
def rootOf (s0 s2 : ByteArray) (l : List (Nat × ByteArray)) : Option ByteArray := if isRoot s0 l = true then some s0 else if isRoot s2 l = true then some s2 else none
def twoRoots (l : List (Nat × ByteArray)) (a b : ByteArray) : Bool := !decide (a = b) && !decide (a = zero32) && !decide (b = zero32) && firstOpens a l && firstOpens b l
theorem isRoot_mk {s : ByteArray} {l : List (Nat × ByteArray)} (hs : s ≠ zero32) (h : l = [] \/ firstOpens s l = true) : isRoot s l = true := by
 unfold isRoot
 rw [decide_eq_false hs]
 rcases h with rfl | h
 ·rfl
 ·rw [h, Bool.or_true]; rfl
theorem rootOf_first {s0 s2 : ByteArray} {l : List (Nat × ByteArray)} {r : RdV} (hs : s0 ≠ zero32) (h : readV s0 l = some r) : rootOf s0 s2 l = some s0 := by
 unfold rootOf
 rw [if_pos (isRoot_mk hs ?_)]
 by_cases hl : l = []
 ·exact .inl hl
 ·exact .inr (read_opens h hl)
theorem rootOf_second {s0 s2 : ByteArray} {l : List (Nat × ByteArray)} {r : RdV} (hs : s2 ≠ zero32) (h : readV s2 l = some r) (hl : l ≠ []) (ht : twoRoots l s0 s2 = false) : rootOf s0 s2 l = some s2 := by
 by_cases he : s0 = s2
 ·subst he
  exact rootOf_first hs h
 have h2 := read_opens h hl
 unfold rootOf
 have h0 : isRoot s0 l = false := by
  unfold twoRoots at ht
  unfold isRoot
  rw [decide_eq_false hl]
  rw [decide_eq_false he, decide_eq_false hs, h2] at ht
  simpa using ht
 rw [h0, if_neg (by decide), if_pos (isRoot_mk hs (.inr h2))]
end Go.Proofs.YtpghocekofdpbaaGreatDoor
namespace Go.Proofs.YtpghocekofdpbaaGreatDoor
open Sec (countN mostN packL packAt packL_len packL_at packAt_len count_pos)
structure Vlt where
 J : Jrn
 root : ByteArray
 chain : ByteArray
 image : Option ByteArray
 texts : List ByteArray
inductive JRes where
 | err (c : Int)
 | down (D : Dev)
 | ok (n : Nat) (J : Jrn) (D : Dev)
def dappend (h : Nat) (t : ByteArray) (J : Jrn) (D : Dev) : JRes :=
 if h < J.used + countN t.size then .err 15
 else if D.fails (countN t.size + 1) then .down (D.off (wrL ((packB J.next t).take D.left.toNat) (J.bank * h + J.used) D.M))
 else .ok J.next ⟨J.bank, J.used + countN t.size, J.next + 1, J.l ++ [(J.next, t)], false⟩ (D.on (countN t.size + 1) (putM (packB J.next t) (J.bank * h + J.used) D.M))
def dcompact (h : Nat) (t : ByteArray) (J : Jrn) (D : Dev) : JRes :=
 if h < countN t.size then .err 15
 else if D.fails (countN t.size + 1) then .down (D.off (wrL ((packB J.next t).take D.left.toNat) ((1 - J.bank) * h) D.M))
 else .ok J.next ⟨1 - J.bank, countN t.size, J.next + 1, [(J.next, t)], false⟩ (D.on (countN t.size + 1) (putM (packB J.next t) ((1 - J.bank) * h) D.M))
def Dev.slot (D : Dev) (x : Nat × ByteArray) : Int × Dev := D.dstep 0 fun D => { D with slots := D.slots.set x.1 x.2 }
def dstores : List (Nat × ByteArray) -> Dev -> Int × Dev
 | [], D => (0, D)
 | x :: r, D => if (D.slot x).1 = 0 then dstores r (D.slot x).2 else D.slot x
abbrev VRes := Int × Option Vlt × Dev
def vchain (ch : ByteArray) (V : Vlt) (D : Dev) : VRes := if (D.slot (1, ch)).1 = 0 then (0, some V, (D.slot (1, ch)).2) else (14, none, (D.slot (1, ch)).2)
def vcommit (h : Nat) (V : Vlt) (D : Dev) (t : ByteArray) : VRes :=
 if 7971 < t.size then (2, some V, D) else
 match dappend h (blobOf V.root V.J.next (recT t)) V.J D with
 | .err c => (c, some V, D)
 | .down D' => (14, none, D')
 | .ok n J' D' => vchain (linkB V.chain n (blobOf V.root V.J.next (recT t))) ⟨J', V.root, linkB V.chain n (blobOf V.root V.J.next (recT t)), V.image, V.texts ++ [t]⟩ D'
def vreplace (h : Nat) (V : Vlt) (D : Dev) (root image : ByteArray) : VRes :=
 match dcompact h (blobOf root V.J.next (imgT V.chain image)) V.J D with
 | .err c => (c, some V, D)
 | .down D' => (14, none, D')
 | .ok n J' D' => (0, some ⟨J', root, linkB V.chain n (blobOf root V.J.next (imgT V.chain image)), some image, []⟩, D')
def vcompact (h : Nat) (V : Vlt) (D : Dev) (image : ByteArray) : VRes :=
 if 7939 < image.size then (2, some V, D) else
 match vreplace h V D V.root image with
 | (0, some V', D') => vchain V'.chain V' D'
 | x => x
def vall (V : Vlt) (D : Dev) : VRes :=
 if (dstores [(0, V.root), (1, V.chain), (2, zero32)] D).1 = 0 then (0, some V, (dstores [(0, V.root), (1, V.chain), (2, zero32)] D).2) else (14, none, (dstores [(0, V.root), (1, V.chain), (2, zero32)] D).2)
def vrekey (h : Nat) (V : Vlt) (D : Dev) (root image : ByteArray) : VRes :=
 if 7939 < image.size then (2, some V, D)
 else if ¬ (D.slot (2, root)).1 = 0 then (14, none, (D.slot (2, root)).2) else
 match vreplace h V (D.slot (2, root)).2 root image with
 | (0, some V', D') => vall V' D'
 | (_, none, D') => (14, none, D')
 | (c, some V', D') => (c, if (D'.slot (2, zero32)).1 = 0 then some V' else none, (D'.slot (2, zero32)).2)
def needed (slots : List ByteArray) (l : List (Nat × ByteArray)) : List (Nat × ByteArray) := l.filter fun x => !decide (slots.getD x.1 ⟨#[]⟩ = x.2)
def vopen (h : Nat) (D : Dev) : VRes :=
 if D.slots.getD 0 ⟨#[]⟩ = zero32 /\ D.slots.getD 2 ⟨#[]⟩ = zero32 then (19, none, D) else
 match rootOf (D.slots.getD 0 ⟨#[]⟩) (D.slots.getD 2 ⟨#[]⟩) (jopen h D.M).l with
 | none => (7, none, D)
 | some root =>
  match readV root (jopen h D.M).l with
  | none => (7, none, D)
  | some R =>
   if D.slots.getD 1 ⟨#[]⟩ ≠ R.chain /\ ((jopen h D.M).l = [] \/ D.slots.getD 1 ⟨#[]⟩ ≠ R.before) then (9, none, D)
   else if (dstores (needed D.slots [(0, root), (1, R.chain), (2, zero32)]) D).1 = 0 then (0, some ⟨jopen h D.M, root, R.chain, R.image, R.texts⟩, (dstores (needed D.slots [(0, root), (1, R.chain), (2, zero32)]) D).2)
   else (14, none, (dstores (needed D.slots [(0, root), (1, R.chain), (2, zero32)]) D).2)
def Dev.mount (D : Dev) (P : List Int) : Dev := { D with M := tornM D.M P, down := false, left := -1 }
structure JOk (h : Nat) (J : Jrn) (M : List Sec) (b : Nat) : Prop where
 inv : JInv h J M
 low : Low ((nowL M).take (2 * h)) J.next
 worn : Unworn 0 M
 next : J.next <= b
theorem JOk.most {h b : Nat} {J : Jrn} {M : List Sec} (k : JOk h J M b) (hb : b <= 255) : J.next <= mostN := by have := k.next; unfold Sec.mostN; omega
theorem JOk.up {h b c : Nat} {J : Jrn} {M : List Sec} (k : JOk h J M b) (hb : b <= c) : JOk h J M c := ⟨k.inv, k.low, k.worn, Nat.le_trans k.next hb⟩
theorem JOk.open_ {h b : Nat} {J : Jrn} {M : List Sec} (k : JOk h J M b) (hb : b <= 255) : JOk h (jopen h M) M b :=
 ⟨open_inv k.inv, open_ends_low (k.most hb) k.low, k.worn, Nat.le_trans (open_low k.inv k.low) k.next⟩
theorem fresh_jok (n h : Nat) (h1 : 1 <= h) (hn : 2 * h <= n) : JOk h J0 (List.replicate n Sec.blank) 1 := ⟨fresh_inv n h h1 hn, fresh_low _ _, fresh_unworn _ _, Nat.le_refl _⟩
section
variable {h b : Nat} {J : Jrn} {D : Dev} {t : ByteArray}
theorem append_ok (k : JOk h J D.M b) (hb : b < 255) (ht : t.size <= 8000) (hr : J.used + countN t.size <= h) (hs : J.spoiled = false) :
  JOk h ⟨J.bank, J.used + countN t.size, J.next + 1, J.l ++ [(J.next, t)], false⟩ (putM (packB J.next t) (J.bank * h + J.used) D.M) (b + 1) := by
 have hm := k.most (by omega)
 have e := append_unworn k.inv (unworn_up k.worn (Nat.zero_le _)) hs t
 rw [if_neg (by omega)] at e
 have i := append_inv k.inv hm ht
 have l := append_low (t := t) k.inv hm k.low
 have u := append_worn (t := t) k.inv k.worn
 rw [e] at i l u
 exact ⟨i, l, u, Nat.succ_le_succ k.next⟩
theorem compact_ok (k : JOk h J D.M b) (hb : b < 255) (ht : t.size <= 8000) (hr : countN t.size <= h) :
  JOk h ⟨1 - J.bank, countN t.size, J.next + 1, [(J.next, t)], false⟩ (putM (packB J.next t) ((1 - J.bank) * h) D.M) (b + 1) := by
 have hm := k.most (by omega)
 have e := compact_unworn k.inv (unworn_up k.worn (Nat.zero_le _)) t
 rw [if_neg (by omega)] at e
 have i := compact_inv k.inv hm ht
 have l := compact_low (t := t) k.inv hm k.low
 have u := compact_worn (t := t) k.inv k.worn
 rw [e] at i l u
 exact ⟨i, l, u, Nat.succ_le_succ k.next⟩
theorem wr_take (D : Dev) (hf : D.fails (countN t.size + 1)) : D.left.toNat <= countN t.size := by unfold Dev.fails at hf; omega
theorem append_off (k : JOk h J D.M b) (hb : b < 255) (ht : t.size <= 8000) (hr : J.used + countN t.size <= h) (hf : D.fails (countN t.size + 1)) (P : List Int) :
  JOk h { J with next := J.next + 1 } (tornM (wrL ((packB J.next t).take D.left.toNat) (J.bank * h + J.used) D.M) P) (b + 1) \/
  JOk h ⟨J.bank, J.used + countN t.size, J.next + 1, J.l ++ [(J.next, t)], false⟩ (tornM (wrL ((packB J.next t).take D.left.toNat) (J.bank * h + J.used) D.M) P) (b + 1) := by
 have hr3 : J.bank * h + J.used + countN t.size <= 2 * h := by rcases k.inv.bank with e | e <;> rw [e] <;> omega
 have hn := k.next
 obtain ⟨hp, hl, hfi, hcl, hw⟩ := torn_rows (N := J.next) k.inv.fine k.inv.clean k.worn (wr_take D hf) hr3 k.inv.len k.inv.next (by omega) k.low P
 rcases crash_append k.inv (k.most (by omega)) ht hr hfi hcl hp with i | i
 ·exact .inl ⟨i, hl, hw, Nat.succ_le_succ hn⟩
 ·exact .inr ⟨i, hl, hw, Nat.succ_le_succ hn⟩
theorem compact_off (k : JOk h J D.M b) (hb : b < 255) (ht : t.size <= 8000) (hr : countN t.size <= h) (hf : D.fails (countN t.size + 1)) (P : List Int) :
  JOk h { J with next := J.next + 1 } (tornM (wrL ((packB J.next t).take D.left.toNat) ((1 - J.bank) * h) D.M) P) (b + 1) \/
  JOk h ⟨1 - J.bank, countN t.size, J.next + 1, [(J.next, t)], false⟩ (tornM (wrL ((packB J.next t).take D.left.toNat) ((1 - J.bank) * h) D.M) P) (b + 1) := by
 have hr3 : (1 - J.bank) * h + countN t.size <= 2 * h := by rcases k.inv.bank with e | e <;> rw [e] <;> simp <;> omega
 have hn := k.next
 obtain ⟨hp, hl, hfi, hcl, hw⟩ := torn_rows (N := J.next) k.inv.fine k.inv.clean k.worn (wr_take D hf) hr3 k.inv.len k.inv.next (by omega) k.low P
 rcases crash_compact k.inv (k.most (by omega)) ht hr hfi hcl hp with i | i
 ·exact .inl ⟨i, hl, hw, Nat.succ_le_succ hn⟩
 ·exact .inr ⟨i, hl, hw, Nat.succ_le_succ hn⟩
theorem torn_clean {M : List Sec} (hc : Clean M) (P : List Int) : tornM M P = M := cut_none P hc
end
end Go.Proofs.YtpghocekofdpbaaGreatDoor
namespace Go.Proofs.YtpghocekofdpbaaGreatDoor
open Go.RowKit Go.Shelf
open Sec (countN mostN countZ)
attribute [local go_sem] Oper.semAt_some
section
variable {w w' : World} {a : DAt} {D : Dev} {jb h b : Nat} {J : Jrn} {v : Value}
set_option maxRecDepth 100000 in
set_option maxHeartbeats 4000000 in
theorem vcompact_ok (hd : DevIs w a D) (hup : DOn D) (hf : Fine D.M) (hc : Clean D.M) (hj : JIs w jb a h J v) (t : ByteArray) (hN : 1 <= J.next /\ J.next <= mostN) (ht : t.size <= 8000) (hh : h <= 4096) (hu : countN t.size <= h) (hbk : J.bank <= 1) (hb : (1 - J.bank) * h + h <= D.M.length) (hD : D.M.length <= 4096) (hl : D.left < 0 \/ ((countN t.size + 1 : Nat) : Int) <= D.left) (hbad : badM (packB J.next t) ((1 - J.bank) * h) (putM (packB J.next t) ((1 - J.bank) * h) D.M) (countN t.size) = false) :
  Calls Tryz.prog 94 #[.pointer (some ⟨jb, 0, none⟩), .string t] w (JPostD w a jb h (((J.next : Int), 0), ⟨1 - J.bank, countN t.size, J.next + 1, [(J.next, t)], false⟩, D.on (countN t.size + 1) (putM (packB J.next t) ((1 - J.bank) * h) D.M))) := by
 have hcc := Sec.count_any (t.size : Int) w
 rw [countZ_good t ht] at hcc
 obtain ⟨bq, hbq⟩ : ∃ bq, 1 - J.bank = bq := ⟨_, rfl⟩
 have hbz : (1 : Int) - (J.bank : Int) = (bq : Int) := by omega
 have hbq1 : bq <= 1048576 := by omega
 rw [hbq] at hb hbad ⊢
 obtain ⟨mm, hmm⟩ : ∃ mm, bq * h = mm := ⟨_, rfl⟩
 have hmz : (bq : Int) * (h : Int) = (mm : Int) := by rw [<- hmm]; push_cast; rfl
 rw [hmm] at hb hbad ⊢
 clear hmm hbk hbq
 have d2 : decide (4611686018427387904 < (J.next : Int)) = false := by
  have h1 := hN.2
  have hm : mostN = 4611686018427387904 := rfl
  clear hb hu hh hcc hmz hbz
  exact decide_eq_false (by omega)
 have hN2 := Lib.hid hN
 clear hN
 have hmle : mm <= 1048576 := by omega
 have HP : Hid (∀ wq, Below w.heap.size w wq -> Calls Tryz.prog 88 #[.pointer (some ⟨jb, 0, none⟩), .int .i64 (mm : Int), .string t] wq fun e w' => e = .returned (.tuple #[.int .i64 (J.next : Int), .int .i64 0]) /\ DevIs w' a (D.on (countN t.size + 1) (putM (packB J.next t) mm D.M)) /\ JIs w' jb a h { J with next := J.next + 1 } v /\ JLeft wq w' a jb) := by
  intro wq hB
  exact vput_ok (hd.below hB) hup hf hc (hj.below hB) mm t hN2.out ht (by omega) hD hl hbad
 obtain ⟨C, hC⟩ : ∃ C, countN t.size = C := ⟨_, rfl⟩
 rw [hC] at hcc hu hl HP ⊢
 have HC := Lib.hid hcc
 have d3 : decide (h < C) = false := decide_eq_false (by omega)
 have d3' : decide ((h : Int) < (C : Int)) = false := decide_eq_false (by omega)
 generalize D.on (C + 1) (putM (packB J.next t) mm D.M) = E at HP ⊢
 obtain ⟨c0, c1, c2, c3, c4, c5, c6, c7⟩ := hj.cells
 have d1 : decide (8000 < (t.size : Int)) = false := decide_eq_false (by omega)
 have HJ := Lib.hid hj
 clear hl hbad hd hup hf hc hj hN2 ht hC hu hh hcc hb hD
 have hwb : wrap64 ((1 : Int) - (J.bank : Int)) = (bq : Int) := by
  rw [hbz]
  exact wrap_small hbq1
 have hwm : wrap64 ((bq : Int) * (h : Int)) = (mm : Int) := by
  rw [hmz]
  exact wrap_small hmle
 have hwz : IntKind.i64.wrap (IntKind.i64.wrap ((1 : Int) - (J.bank : Int)) * (h : Int)) = (mm : Int) := by
  have e : ∀ x : Int, IntKind.i64.wrap x = wrap64 x := fun x => by rw [IntKind.wrap_i64, wrap64]
  rw [e, e, hwb, hwm]
 clear hmz hmle hbz hbq1
 unfold JPostD
 go_enter Tryz.func94, Tryz.ntmps94
 go_wp2_with (first | (go_at_call 39; refine HC.out.mono ?_; rintro e w1 ⟨rfl, rfl⟩))
 go_region_held3 (fun w' => w'.cell? ⟨jb, 2, none⟩ = some (.int .i64 J.bank) /\ w'.cell? ⟨jb, 1, none⟩ = some (.int .i64 h)) (go_keep)
  (first | (go_at_call 88; refine (HP.out _ (Below.refl _ w).drew).mono ?_; rintro e w3 ⟨rfl, hd3, hj3, hF3⟩; obtain ⟨e0, e1, e2, e3, e4, e5, e6, e7⟩ := hj3.cells))
 have HF3 : Hid (JLeft w w3 a jb) := (JLeft.ofBelow (Below.refl _ w).drew).trans hF3
 clear c0 c1 c2 c3 c4 c5 c6 c7 HP HC hF3
 have hbl := hj3.blk
 obtain ⟨w4, hw4⟩ : ∃ w4, w3.alloc (.cells #[.int .i64 (J.next : Int), .string t] 134) = w4 := ⟨_, rfl⟩
 have hb4 := hbl.alloc (.cells #[.int .i64 (J.next : Int), .string t] 134)
 rw [hw4] at hb4
 have y2 : w4.cell? ⟨jb, 2, none⟩ = some (.int .i64 (J.bank : Int)) := hb4.cell 2
 have y3 : w4.cell? ⟨jb, 3, none⟩ = some (.int .i64 (J.used : Int)) := hb4.cell 3
 have y5 : w4.cell? ⟨jb, 5, none⟩ = some v := hb4.cell 5
 have y6 : w4.cell? ⟨jb, 6, none⟩ = some (.bool J.spoiled) := hb4.cell 6
 have g2 := hb4.frozen 2
 have g3 := hb4.frozen 3
 have g5 := hb4.frozen 5
 have g6 := hb4.frozen 6
 have hfin : Hid (DevIs ((((w4.setCell ⟨jb, 2, none⟩ (.int .i64 (bq : Int))).setCell ⟨jb, 3, none⟩ (.int .i64 (C : Int))).setCell ⟨jb, 5, none⟩ (.slice (some ⟨w3.heap.size, 0, none⟩) 1 1)).setCell ⟨jb, 6, none⟩ (.bool false)) a E /\
   JIs ((((w4.setCell ⟨jb, 2, none⟩ (.int .i64 (bq : Int))).setCell ⟨jb, 3, none⟩ (.int .i64 (C : Int))).setCell ⟨jb, 5, none⟩ (.slice (some ⟨w3.heap.size, 0, none⟩) 1 1)).setCell ⟨jb, 6, none⟩ (.bool false)) jb a h ⟨bq, C, J.next + 1, [(J.next, t)], false⟩ (.slice (some ⟨w3.heap.size, 0, none⟩) 1 1) /\
   JLeft w ((((w4.setCell ⟨jb, 2, none⟩ (.int .i64 (bq : Int))).setCell ⟨jb, 3, none⟩ (.int .i64 (C : Int))).setCell ⟨jb, 5, none⟩ (.slice (some ⟨w3.heap.size, 0, none⟩) 1 1)).setCell ⟨jb, 6, none⟩ (.bool false)) a jb) := by
  rw [<- hw4]
  have hB : Below w3.heap.size w3 (w3.alloc (.cells #[.int .i64 (J.next : Int), .string t] 134)) := (Below.refl _ w3).alloc (Nat.le_refl _) _
  have hb0 := hbl.alloc (.cells #[.int .i64 (J.next : Int), .string t] 134)
  have d0 : DevIs (w3.alloc (.cells #[.int .i64 (J.next : Int), .string t] 134)) a E := hd3.below hB
  have q2 := hb0.set_ 2 (.int .i64 (bq : Int))
  have q3 := q2.set_ 3 (.int .i64 (C : Int))
  have q5 := q3.set_ 5 (.slice (some ⟨w3.heap.size, 0, none⟩) 1 1)
  have d2 : DevIs _ a E := isDev_past d0 hb0 (by decide) (grown_set _ jb 2 (.int .i64 (bq : Int)))
  have d3 : DevIs _ a E := isDev_past d2 q2 (by decide) (grown_set _ jb 3 (.int .i64 (C : Int)))
  have d5 : DevIs _ a E := isDev_past d3 q3 (by decide) (grown_set _ jb 5 (.slice (some ⟨w3.heap.size, 0, none⟩) 1 1))
  have d6 : DevIs _ a E := isDev_past d5 q5 (by decide) (grown_set _ jb 6 (.bool false))
  exact ⟨d6, hj3.fresh, HF3.out.trans (((((JLeft.ofBelow hB).set 2 _).set 3 _).set 5 _).set 6 _)⟩
 clear hbl hb4 hj3 hd3 HF3
 go_wp2_with fail
 go_ret2
 first | exact ⟨rfl, hfin.out.1, ⟨_, hfin.out.2.1⟩, hfin.out.2.2⟩ | exact ⟨_, rfl, hfin.out.1, hfin.out.2.1, hfin.out.2.2⟩
set_option maxRecDepth 100000 in
set_option maxHeartbeats 4000000 in
theorem vcompact_off (hd : DevIs w a D) (hup : DOn D) (hf : Fine D.M) (hc : Clean D.M) (hj : JIs w jb a h J v) (t : ByteArray) (hN : 1 <= J.next /\ J.next <= mostN) (ht : t.size <= 8000) (hh : h <= 4096) (hu : countN t.size <= h) (hbk : J.bank <= 1) (hb : (1 - J.bank) * h + h <= D.M.length) (hD : D.M.length <= 4096) (hl : D.fails (countN t.size + 1)) :
  Calls Tryz.prog 94 #[.pointer (some ⟨jb, 0, none⟩), .string t] w (JOffD w a jb (D.off (wrL ((packB J.next t).take D.left.toNat) ((1 - J.bank) * h) D.M))) := by
 have hcc := Sec.count_any (t.size : Int) w
 rw [countZ_good t ht] at hcc
 obtain ⟨bq, hbq⟩ : ∃ bq, 1 - J.bank = bq := ⟨_, rfl⟩
 have hbz : (1 : Int) - (J.bank : Int) = (bq : Int) := by omega
 have hbq1 : bq <= 1048576 := by omega
 rw [hbq] at hb ⊢
 obtain ⟨mm, hmm⟩ : ∃ mm, bq * h = mm := ⟨_, rfl⟩
 have hmz : (bq : Int) * (h : Int) = (mm : Int) := by rw [<- hmm]; push_cast; rfl
 rw [hmm] at hb ⊢
 clear hmm hbk hbq
 have d2 : decide (4611686018427387904 < (J.next : Int)) = false := by
  have h1 := hN.2
  have hm : mostN = 4611686018427387904 := rfl
  clear hb hu hh hcc hmz hbz
  exact decide_eq_false (by omega)
 have hN2 := Lib.hid hN
 clear hN
 have hmle : mm <= 1048576 := by omega
 have HP : Hid (∀ wq, Below w.heap.size w wq -> Calls Tryz.prog 88 #[.pointer (some ⟨jb, 0, none⟩), .int .i64 (mm : Int), .string t] wq fun e w' => e = .returned (.tuple #[.int .i64 0, .int .i64 14]) /\ DevIs w' a (D.off (wrL ((packB J.next t).take D.left.toNat) mm D.M)) /\ Blk w' jb 126 #[.pointer (some ⟨a.d, 0, none⟩), .int .i64 h, .int .i64 J.bank, .int .i64 J.used, .int .i64 ((J.next + 1 : Nat) : Int), v, .bool J.spoiled, .bool true] /\ JLeft wq w' a jb) := by
  intro wq hB
  exact vput_off (hd.below hB) hup hf hc (hj.below hB) mm t hN2.out ht (by omega) hD hl
 obtain ⟨C, hC⟩ : ∃ C, countN t.size = C := ⟨_, rfl⟩
 rw [hC] at hcc hu hl
 have HC := Lib.hid hcc
 have d3 : decide (h < C) = false := decide_eq_false (by omega)
 have d3' : decide ((h : Int) < (C : Int)) = false := decide_eq_false (by omega)
 generalize D.off (wrL ((packB J.next t).take D.left.toNat) mm D.M) = E at HP ⊢
 obtain ⟨c0, c1, c2, c3, c4, c5, c6, c7⟩ := hj.cells
 have d1 : decide (8000 < (t.size : Int)) = false := decide_eq_false (by omega)
 have HJ := Lib.hid hj
 clear hl hd hup hf hc hj hN2 ht hC hu hh hcc hb hD
 have hwb : wrap64 ((1 : Int) - (J.bank : Int)) = (bq : Int) := by
  rw [hbz]
  exact wrap_small hbq1
 have hwm : wrap64 ((bq : Int) * (h : Int)) = (mm : Int) := by
  rw [hmz]
  exact wrap_small hmle
 have hwz : IntKind.i64.wrap (IntKind.i64.wrap ((1 : Int) - (J.bank : Int)) * (h : Int)) = (mm : Int) := by
  have e : ∀ x : Int, IntKind.i64.wrap x = wrap64 x := fun x => by rw [IntKind.wrap_i64, wrap64]
  rw [e, e, hwb, hwm]
 clear hmz hmle hbz hbq1
 unfold JOffD
 go_enter Tryz.func94, Tryz.ntmps94
 go_wp2_with (first | (go_at_call 39; refine HC.out.mono ?_; rintro e w1 ⟨rfl, rfl⟩))
 go_region_held3 (fun w' => w'.cell? ⟨jb, 2, none⟩ = some (.int .i64 J.bank) /\ w'.cell? ⟨jb, 1, none⟩ = some (.int .i64 h)) (go_keep)
  (first | (go_at_call 88; refine (HP.out _ (Below.refl _ w).drew).mono ?_; rintro e w3 ⟨rfl, hd3, hj3, hF3⟩; have e1 := hj3.cell 1; have e2 := hj3.cell 2))
 have HF3 : Hid (JLeft w w3 a jb) := (JLeft.ofBelow (Below.refl _ w).drew).trans hF3
 clear c0 c1 c2 c3 c4 c5 c6 c7 HP HC hF3
 go_wp2_with fail
 go_ret2
 exact ⟨rfl, hd3, HF3.out⟩
def JDone (w : World) (a : DAt) (jb h : Nat) (J : Jrn) (D : Dev) (r : JRes) (e : Ending) (w' : World) : Prop :=
 JLeft w w' a jb /\ match r with
 | .err c => e = .returned (.tuple #[.int .i64 0, .int .i64 c]) /\ DevIs w' a D /\ ∃ v', JIs w' jb a h J v'
 | .down E => e = .returned (.tuple #[.int .i64 0, .int .i64 14]) /\ DevIs w' a E
 | .ok n J' E => e = .returned (.tuple #[.int .i64 (n : Int), .int .i64 0]) /\ DevIs w' a E /\ ∃ v', JIs w' jb a h J' v'
theorem JOk.bank1 (k : JOk h J D.M b) : J.bank <= 1 := by rcases k.inv.bank with e | e <;> omega
theorem vappend_any (hd : DevIs w a D) (hup : DOn D) (hj : JIs w jb a h J v) (k : JOk h J D.M b) (hb : b <= 255) (hs : J.spoiled = false) (t : ByteArray) (ht : t.size <= 8000) (hD : D.M.length <= 4096) (hll : J.l.length <= 1048576) :
  Calls Tryz.prog 50 #[.pointer (some ⟨jb, 0, none⟩), .string t] w (JDone w a jb h J D (dappend h t J D)) := by
 have hN : 1 <= J.next /\ J.next <= mostN := ⟨k.inv.next, k.most hb⟩
 have hh : h <= 4096 := by have := k.inv.len; omega
 unfold dappend
 by_cases h1 : h < J.used + countN t.size
 ·rw [if_pos h1]
  refine (append_full hd hj t hN.2 ht hs k.inv.used (Nat.le_trans hh (by decide)) h1).mono ?_
  rintro e w' ⟨v', e1, e2, e3, e4⟩
  exact ⟨e4, e1, e2, v', e3⟩
 ·rw [if_neg h1]
  by_cases h2 : D.fails (countN t.size + 1)
  ·rw [if_pos h2]
   refine (vappend_off hd hup k.inv.fine k.inv.clean hj t hN ht hs hh (Nat.le_of_not_lt h1) k.bank1 k.inv.banks.1 hD hll h2).mono ?_
   rintro e w' ⟨e1, e2, e3⟩
   exact ⟨e3, e1, e2⟩
  ·rw [if_neg h2]
   have hb3 : J.bank * h + J.used + countN t.size <= D.M.length := by have := k.inv.banks.1; omega
   refine (vappend_ok hd hup k.inv.fine k.inv.clean hj t hN ht hs hh (Nat.le_of_not_lt h1) k.bank1 k.inv.banks.1 hD hll (not_fails h2) (unworn_put k.inv.fine k.inv.clean hb3 (unworn_up k.worn (Nat.zero_le _)))).mono ?_
   rintro e w' ⟨v', e1, e2, e3, e4⟩
   exact ⟨e4, e1, e2, v', e3⟩
theorem vcompactJ_any (hd : DevIs w a D) (hup : DOn D) (hj : JIs w jb a h J v) (k : JOk h J D.M b) (hb : b <= 255) (t : ByteArray) (ht : t.size <= 8000) (hD : D.M.length <= 4096) :
  Calls Tryz.prog 94 #[.pointer (some ⟨jb, 0, none⟩), .string t] w (JDone w a jb h J D (dcompact h t J D)) := by
 have hN : 1 <= J.next /\ J.next <= mostN := ⟨k.inv.next, k.most hb⟩
 have hh : h <= 4096 := by have := k.inv.len; omega
 unfold dcompact
 by_cases h1 : h < countN t.size
 ·rw [if_pos h1]
  refine (compact_full hd hj t hN.2 ht h1).mono ?_
  rintro e w' ⟨v', e1, e2, e3, e4⟩
  exact ⟨e4, e1, e2, v', e3⟩
 ·rw [if_neg h1]
  by_cases h2 : D.fails (countN t.size + 1)
  ·rw [if_pos h2]
   refine (vcompact_off hd hup k.inv.fine k.inv.clean hj t hN ht hh (Nat.le_of_not_lt h1) k.bank1 k.inv.banks.2 hD h2).mono ?_
   rintro e w' ⟨e1, e2, e3⟩
   exact ⟨e3, e1, e2⟩
  ·rw [if_neg h2]
   have hb3 : (1 - J.bank) * h + countN t.size <= D.M.length := by have := k.inv.banks.2; omega
   refine (vcompact_ok hd hup k.inv.fine k.inv.clean hj t hN ht hh (Nat.le_of_not_lt h1) k.bank1 k.inv.banks.2 hD (not_fails h2) (unworn_put k.inv.fine k.inv.clean hb3 (unworn_up k.worn (Nat.zero_le _)))).mono ?_
   rintro e w' ⟨v', e1, e2, e3, e4⟩
   exact ⟨e4, e1, e2, v', e3⟩
end
end Go.Proofs.YtpghocekofdpbaaGreatDoor
namespace Go.Proofs.YtpghocekofdpbaaGreatDoor
open Sec (countN mostN packL packAt)
theorem slot_cases {D : Dev} (hd : DOn D) (x : Nat × ByteArray) : (D.left = 0 /\ D.slot x = (14, D.off D.M)) \/ (¬ D.left = 0 /\ D.slot x = (0, { D.on 1 D.M with slots := D.slots.set x.1 x.2 })) := by
 by_cases h0 : D.left = 0
 ·left
  have := step_off hd (fun D => { D with slots := D.slots.set x.1 x.2 }) 0 D.M (by rw [h0]; rfl)
  rw [on_zero] at this
  exact ⟨h0, this⟩
 ·right
  have := step_on hd (fun D => { D with slots := D.slots.set x.1 x.2 }) 0 D.M (by have := hd.left; omega)
  rw [on_zero] at this
  exact ⟨h0, this⟩
structure SameM (D D' : Dev) : Prop where
 M : D'.M = D.M
 up : D.left = -1 -> D'.down = false /\ D'.left = -1
 frest : D'.fuses = D.fuses /\ D'.counter = D.counter /\ D'.clock = D.clock
theorem SameM.refl {D : Dev} (hd : DOn D) : SameM D D := ⟨rfl, fun h => ⟨hd.down, h⟩, rfl, rfl, rfl⟩
theorem slot_on {D : Dev} (hd : DOn D) (h0 : ¬ D.left = 0) (x : Nat × ByteArray) : DOn { D.on 1 D.M with slots := D.slots.set x.1 x.2 } /\ SameM D { D.on 1 D.M with slots := D.slots.set x.1 x.2 } := by
 have hl := hd.left
 have h1 := on_on (k := 1) (M := D.M) hd (by omega)
 refine ⟨⟨h1.down, h1.left⟩, rfl, fun e => ⟨hd.down, ?_⟩, rfl, rfl, rfl⟩
 show lft D.left 1 = -1
 rw [e]
 rfl
def putAll (l : List (Nat × ByteArray)) (s : List ByteArray) : List ByteArray := l.foldl (fun s x => s.set x.1 x.2) s
theorem stores_cases : ∀ (l : List (Nat × ByteArray)) (D : Dev), DOn D ->
  ((dstores l D).1 = 0 /\ DOn (dstores l D).2 /\ SameM D (dstores l D).2 /\ (dstores l D).2.slots = putAll l D.slots) \/
  ((dstores l D).1 = 14 /\ (dstores l D).2.down = true /\ (dstores l D).2.M = D.M /\ 0 <= D.left)
 | [], D, hd => .inl ⟨rfl, hd, SameM.refl hd, rfl⟩
 | x :: r, D, hd => by
  rcases slot_cases hd x with ⟨h0, e⟩ | ⟨h0, e⟩
  ·have e2 : dstores (x :: r) D = D.slot x := by
    show (if (D.slot x).1 = 0 then _ else _) = _
    rw [if_neg (by rw [e]; show ¬ (14 : Int) = 0; decide)]
   rw [e2, e]
   exact .inr ⟨rfl, rfl, rfl, by omega⟩
  ·have e2 : dstores (x :: r) D = dstores r (D.slot x).2 := by
    show (if (D.slot x).1 = 0 then _ else _) = _
    rw [if_pos (by rw [e])]
   rw [e2, e]
   obtain ⟨d1, s1⟩ := slot_on hd h0 x
   rcases stores_cases r _ d1 with ⟨a1, a2, a3, a4⟩ | ⟨a1, a2, a3, a4⟩
   ·refine .inl ⟨a1, a2, ⟨a3.M.trans s1.M, fun h => a3.up (s1.up h).2, a3.frest.1.trans s1.frest.1, a3.frest.2.1.trans s1.frest.2.1, a3.frest.2.2.trans s1.frest.2.2⟩, a4⟩
   ·refine .inr ⟨a1, a2, a3.trans s1.M, ?_⟩
    have a5 : 0 <= lft D.left 1 := a4
    unfold lft at a5
    split at a5 <;> omega
theorem stores_keep {Q : List ByteArray -> Prop} : ∀ (l : List (Nat × ByteArray)) (D : Dev), DOn D -> Q D.slots -> (∀ x ∈ l, ∀ s, Q s -> Q (s.set x.1 x.2)) -> Q (dstores l D).2.slots
 | [], _, _, h, _ => h
 | x :: r, D, hd, h, hk => by
  rcases slot_cases hd x with ⟨h0, e⟩ | ⟨h0, e⟩
  ·have e2 : dstores (x :: r) D = D.slot x := by
    show (if (D.slot x).1 = 0 then _ else _) = _
    rw [if_neg (by rw [e]; show ¬ (14 : Int) = 0; decide)]
   rw [e2, e]
   exact h
  ·have e2 : dstores (x :: r) D = dstores r (D.slot x).2 := by
    show (if (D.slot x).1 = 0 then _ else _) = _
    rw [if_pos (by rw [e])]
   rw [e2, e]
   exact stores_keep r _ (slot_on hd h0 x).1 (hk x (List.mem_cons_self ..) _ h) (fun y hy => hk y (List.mem_cons_of_mem _ hy))
structure VInv (h : Nat) (V : Vlt) (D : Dev) (b : Nat) : Prop where
 on : DOn D
 jok : JOk h V.J D.M b
 spoiled : V.J.spoiled = false
 slots : D.slots = [V.root, V.chain, zero32]
 root : V.root.size = 32 /\ V.root ≠ zero32
 read : ∃ R, readV V.root V.J.l = some R /\ R.chain = V.chain /\ R.image = V.image /\ R.texts = V.texts
def Good3 (s : List ByteArray) : Prop := (s.getD 0 ⟨#[]⟩).size = 32 /\ s.getD 0 ⟨#[]⟩ ≠ zero32 /\ (s.getD 2 ⟨#[]⟩).size = 32
theorem Good3.mk {s0 s1 s2 : ByteArray} (h : s0.size = 32 /\ s0 ≠ zero32) (h2 : s2.size = 32) : Good3 [s0, s1, s2] := ⟨h.1, h.2, h2⟩
theorem Good3.set0 {s : List ByteArray} (h : Good3 s) {t : ByteArray} (ht : t.size = 32 /\ t ≠ zero32) : Good3 (s.set 0 t) := by
 match s, h with
 | [], h => exact absurd h.1 (by decide)
 | [_], h => exact ⟨ht.1, ht.2, h.2.2⟩
 | [_, _], h => exact ⟨ht.1, ht.2, h.2.2⟩
 | _ :: _ :: _ :: _, h => exact ⟨ht.1, ht.2, h.2.2⟩
theorem Good3.set1 {s : List ByteArray} (h : Good3 s) (t : ByteArray) : Good3 (s.set 1 t) := by
 match s, h with
 | [], h => exact h
 | [_], h => exact h
 | [_, _], h => exact h
 | _ :: _ :: _ :: _, h => exact h
theorem Good3.set2 {s : List ByteArray} (h : Good3 s) {t : ByteArray} (ht : t.size = 32) : Good3 (s.set 2 t) := by
 match s, h with
 | [], h => exact h
 | [_], h => exact h
 | [_, _], h => exact h
 | _ :: _ :: _ :: _, h => exact ⟨h.1, h.2.1, ht⟩
structure Lies (h : Nat) (D : Dev) (b : Nat) (root : ByteArray) (image : Option ByteArray) (texts : List ByteArray) : Prop where
 ok : ∃ J R s0 s1 s2, JOk h J D.M b /\ readV root J.l = some R /\ R.image = image /\ R.texts = texts /\ D.slots = [s0, s1, s2] /\ (s1 = R.chain \/ (J.l ≠ [] /\ s1 = R.before)) /\ (root = s0 \/ (root = s2 /\ J.l ≠ []))
 root : root.size = 32 /\ root ≠ zero32
 good : Good3 D.slots
def Sure (h : Nat) (D : Dev) (root : ByteArray) : Prop := root = D.slots.getD 0 ⟨#[]⟩ \/ twoRoots (jopen h D.M).l (D.slots.getD 0 ⟨#[]⟩) (D.slots.getD 2 ⟨#[]⟩) = false
section
variable {h b : Nat} {V : Vlt} {D : Dev}
theorem VInv.chain (I : VInv h V D b) : V.chain.size = 32 := by
 obtain ⟨R, hR, e, _⟩ := I.read
 rw [<- e]
 exact readN_size hR
theorem VInv.up (I : VInv h V D b) {c : Nat} (hb : b <= c) : VInv h V D c := ⟨I.on, I.jok.up hb, I.spoiled, I.slots, I.root, I.read⟩
theorem VInv.lies (I : VInv h V D b) : Lies h D b V.root V.image V.texts /\ V.root = D.slots.getD 0 ⟨#[]⟩ := by
 obtain ⟨R, hR, e1, e2, e3⟩ := I.read
 refine ⟨⟨⟨V.J, R, V.root, V.chain, zero32, I.jok, hR, e2, e3, I.slots, .inl e1.symm, .inl rfl⟩, I.root, by rw [I.slots]; exact Good3.mk I.root rfl⟩, ?_⟩
 rw [I.slots]
 rfl
end
end Go.Proofs.YtpghocekofdpbaaGreatDoor
