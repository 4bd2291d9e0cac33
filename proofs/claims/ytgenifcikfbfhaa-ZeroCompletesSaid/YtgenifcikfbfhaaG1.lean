/-
  Layer 23 (device): the memory's methods at every argument.
  Layer 23 (device): what keeps contents of 64 bytes.
  Layer 23 (device), plain: a device, its steps.
-/
import Derived.Test.YtgenifcikfbfhaaDevN1
import Derived.Test.YtgenifcikfbfhaaMemW9
namespace Go.Proofs.Ytgenifcikfbfhaa
open Go.RowKit Go.Shelf
attribute [local go_sem] Oper.semAt_some

/-- A number is a sector's. -/
def isAt (M : List Sec) (i : Int) : Prop := 0 ≤ i ∧ i < M.length
instance (M : List Sec) (i : Int) : Decidable (isAt M i) := inferInstanceAs (Decidable (_ ∧ _))
/-- One sector is changed. -/
def upd (f : Sec → Sec) (M : List Sec) (i : Int) : List Sec := M.set i.toNat (f (M.getD i.toNat default))
def Sec.stale (s : Sec) : Sec := { s with now := s.before }
def Sec.wear (s : Sec) : Sec := { s with worn := true }
/-- The error of an operation on a sector. -/
def errOf (p : Prop) [Decidable p] : Value := .int .i64 (if p then 0 else 1)

theorem isAt_get {M : List Sec} {i : Int} (h : isAt M i) : ∃ (k : Nat) (s : Sec), i = (k : Int) ∧ M[k]? = some s ∧ ∀ f, upd f M i = M.set k (f s) := by
  obtain ⟨k, rfl⟩ := Int.eq_ofNat_of_zero_le h.1
  have hk : k < M.length := by have := h.2; omega
  refine ⟨k, M[k], rfl, List.getElem?_eq_getElem hk, fun f => ?_⟩
  unfold upd
  simp [List.getD, List.getElem?_eq_getElem hk]
theorem not_isAt {M : List Sec} {i : Int} (h : ¬ isAt M i) : i < 0 ∨ (M.length : Int) ≤ i := by
  unfold isAt at h; omega

section
variable {w : World} {b g : Nat} {M : List Sec}

theorem write_any (h : PMem w b g M) (i : Int) (t : ByteArray) :
    Calls Try.prog 46 #[.pointer (some ⟨b, 0, none⟩), .int .i64 i, .string t] w fun e w' => e = .returned (errOf (isAt M i ∧ t.size = 64)) ∧ PMem w' b g (if isAt M i ∧ t.size = 64 then upd (fun s => s.write t) M i else M) ∧ w.grownBy w' (some g) := by
  by_cases hp : isAt M i ∧ t.size = 64
  · obtain ⟨k, s, rfl, hs, hu⟩ := isAt_get hp.1
    refine (write_in h k s t hs hp.2).mono ?_
    rintro e w' ⟨rfl, h1, h2⟩
    rw [if_pos hp, hu]
    exact ⟨by unfold errOf; rw [if_pos hp], h1, h2⟩
  · refine (write_out h i t ?_).mono ?_
    · by_cases h1 : isAt M i
      · exact .inr (fun e => hp ⟨h1, e⟩)
      · exact .inl (not_isAt h1)
    · rintro e w' ⟨rfl, rfl⟩
      rw [if_neg hp]
      exact ⟨by unfold errOf; rw [if_neg hp], h, grown_refl _ _⟩
theorem read_any (h : PMem w b g M) (i : Int) :
    Calls Try.prog 47 #[.pointer (some ⟨b, 0, none⟩), .int .i64 i] w fun e w' => e = .returned (.tuple #[.string (if isAt M i then (M.getD i.toNat default).seen else ⟨#[]⟩), errOf (isAt M i)]) ∧ w = w' := by
  by_cases hp : isAt M i
  · obtain ⟨k, s, rfl, hs, hu⟩ := isAt_get hp
    refine (read_in h k s hs).mono ?_
    rintro e w' ⟨rfl, rfl⟩
    rw [if_pos hp]
    exact ⟨by unfold errOf; rw [if_pos hp]; simp [List.getD, hs], rfl⟩
  · refine (read_out h i (not_isAt hp)).mono ?_
    rintro e w' ⟨rfl, rfl⟩
    rw [if_neg hp]
    exact ⟨by unfold errOf; rw [if_neg hp], rfl⟩
theorem stale_any (h : PMem w b g M) (i : Int) :
    Calls Try.prog 59 #[.pointer (some ⟨b, 0, none⟩), .int .i64 i] w fun e w' => e = .returned (errOf (isAt M i)) ∧ PMem w' b g (if isAt M i then upd Sec.stale M i else M) ∧ w.grownBy w' (some g) := by
  by_cases hp : isAt M i
  · obtain ⟨k, s, rfl, hs, hu⟩ := isAt_get hp
    refine (stale_in h k s hs).mono ?_
    rintro e w' ⟨rfl, h1, h2⟩
    rw [if_pos hp, hu]
    exact ⟨by unfold errOf; rw [if_pos hp], h1, h2⟩
  · refine (stale_out h i (not_isAt hp)).mono ?_
    rintro e w' ⟨rfl, rfl⟩
    rw [if_neg hp]
    exact ⟨by unfold errOf; rw [if_neg hp], h, grown_refl _ _⟩
theorem wear_any (h : PMem w b g M) (i : Int) :
    Calls Try.prog 60 #[.pointer (some ⟨b, 0, none⟩), .int .i64 i] w fun e w' => e = .returned (errOf (isAt M i)) ∧ PMem w' b g (if isAt M i then upd Sec.wear M i else M) ∧ w.grownBy w' (some g) := by
  by_cases hp : isAt M i
  · obtain ⟨k, s, rfl, hs, hu⟩ := isAt_get hp
    refine (wear_in h k s hs).mono ?_
    rintro e w' ⟨rfl, h1, h2⟩
    rw [if_pos hp, hu]
    exact ⟨by unfold errOf; rw [if_pos hp], h1, h2⟩
  · refine (wear_out h i (not_isAt hp)).mono ?_
    rintro e w' ⟨rfl, rfl⟩
    rw [if_neg hp]
    exact ⟨by unfold errOf; rw [if_neg hp], h, grown_refl _ _⟩
end
end Go.Proofs.Ytgenifcikfbfhaa
namespace Go.Proofs.Ytgenifcikfbfhaa
open Go.RowKit Go.Shelf

theorem settle_none {now before fresh : ByteArray} {dirty worn : Bool} : Sec.settle ⟨now, before, fresh, dirty, worn⟩ 0 = ⟨now, before, ⟨#[]⟩, false, worn⟩ := by
  unfold Sec.settle; rw [if_neg (by omega)]
theorem settle_some {now before fresh : ByteArray} {dirty worn : Bool} {n : Nat} (h : 0 < n) (hz : now.size = 64) : Sec.settle ⟨now, before, fresh, dirty, worn⟩ n = ⟨fresh.extract 0 n ++ now.extract n 64, now, ⟨#[]⟩, false, worn⟩ := by
  unfold Sec.settle; rw [if_pos h]; simp only; rw [hz]
theorem settle_full {now before fresh : ByteArray} {dirty worn : Bool} (h : now.size = 64) : Sec.settle ⟨now, before, fresh, dirty, worn⟩ 64 = ⟨fresh.extract 0 64, now, ⟨#[]⟩, false, worn⟩ := by
  unfold Sec.settle
  rw [if_pos (by omega)]
  have e : now.extract 64 now.size = ⟨#[]⟩ := by
    rw [h]
    apply ByteArray.ext
    simp []
  have e2 : fresh.extract 0 64 ++ (⟨#[]⟩ : ByteArray) = fresh.extract 0 64 := by
    apply ByteArray.ext
    simp [ByteArray.data_append]
  simp only
  rw [e, e2]
theorem idxs_at {p : Sec → Bool} {M : List Sec} {i : Nat} (h : i ∈ idxs p M) : ∃ s, M[i]? = some s ∧ p s = true := by
  unfold idxs at h
  generalize hn : M.length = n at h
  have : ∀ n, i ∈ upto (fun i => ((M[i]?).map p).getD false) n → ((M[i]?).map p).getD false = true := by
    intro n
    induction n with
    | zero => intro h; simp [upto_zero] at h
    | succ n ih =>
      intro h
      cases hb : ((M[n]?).map p).getD false
      · rw [upto_no _ n hb] at h; exact ih h
      · rw [upto_yes _ n hb] at h
        rcases List.mem_append.1 h with h | h
        · exact ih h
        · simp at h; rw [h]; exact hb
  have h2 := this n h
  cases hs : M[i]? with
  | none => rw [hs] at h2; simp at h2
  | some s => rw [hs] at h2; exact ⟨s, rfl, by simpa using h2⟩
theorem upto_nodup (P0 : Nat → Bool) : ∀ n, (upto P0 n).Nodup
  | 0 => by simp [upto_zero]
  | n + 1 => by
    cases hb : P0 n
    · rw [upto_no P0 n hb]; exact upto_nodup P0 n
    · rw [upto_yes P0 n hb, List.nodup_append]
      refine ⟨upto_nodup P0 n, by simp, ?_⟩
      intro a ha c hc e
      simp at hc; subst hc; subst e
      exact absurd (upto_lt P0 _ _ ha) (by omega)
/-- A sector with contents of 64 bytes. -/
def Sec.fine (s : Sec) : Prop := s.now.size = 64 ∧ s.before.size = 64 ∧ (s.dirty = true → s.fresh.size = 64)
theorem fine_set {M : List Sec} (h : Fine M) {i : Nat} {s : Sec} (hs : s.fine) : Fine (M.set i s) := by
  intro x hx
  rcases List.mem_or_eq_of_mem_set hx with h1 | rfl
  · exact h x h1
  · exact hs
theorem fine_upd {M : List Sec} (h : Fine M) {f : Sec → Sec} (hf : ∀ s : Sec, s.fine → (f s).fine) {i : Int} (hi : isAt M i) : Fine (upd f M i) := by
  obtain ⟨k, s, rfl, hs, hu⟩ := isAt_get hi
  rw [hu]
  exact fine_set h (hf s (h s (List.mem_of_getElem? hs)))
theorem fine_settle {s : Sec} (h : s.fine) (hd : s.dirty = true) {n : Nat} (hn : n ≤ 64) : (s.settle n).fine := by
  obtain ⟨now, before, fresh, dirty, worn⟩ := s
  obtain ⟨h1, h2, h3⟩ := h
  have h4 := h3 hd
  dsimp only at h1 h2 h4
  rcases Nat.eq_zero_or_pos n with rfl | hp
  · rw [settle_none]; exact ⟨h1, h2, fun e => by cases e⟩
  · rw [settle_some hp h1]
    refine ⟨?_, h1, fun e => by cases e⟩
    show (fresh.extract 0 n ++ now.extract n 64).size = 64
    rw [ByteArray.size_append, ByteArray.size_extract, ByteArray.size_extract, h1, h4]
    omega
theorem fine_doneM {M : List Sec} (h : Fine M) (cnt : Nat → Nat) (hc : ∀ j, cnt j ≤ 64) : ∀ (n : Nat) (pre : List Nat), pre.length = n → (∀ i ∈ pre, ∃ s, M[i]? = some s ∧ s.dirty = true) → Fine (doneM cnt M pre)
  | 0, pre, hl, _ => by rw [List.eq_nil_of_length_eq_zero hl, doneM_nil]; exact h
  | n + 1, pre, hl, hp => by
    have hne : pre ≠ [] := by intro e; rw [e] at hl; simp at hl
    rw [← List.dropLast_concat_getLast hne, doneM_snoc]
    obtain ⟨s, hs, hd⟩ := hp _ (List.getLast_mem hne)
    refine fine_set (fine_doneM h cnt hc n _ (by simp [hl]) (fun i hi => hp i (List.dropLast_subset _ hi))) ?_
    rw [List.getD, hs]
    exact fine_settle (h s (List.mem_of_getElem? hs)) hd (hc _)
theorem fine_load {M : List Sec} {I : List ByteArray} (h : wrongs I = false) : Fine (loadM I M) := by
  intro s hs
  unfold loadM at hs
  obtain ⟨k, hk⟩ := List.mem_iff_getElem?.1 hs
  rw [List.getElem?_zipWith] at hk
  cases ht : I[k]? with
  | none => rw [ht] at hk; simp at hk
  | some t =>
    cases hm : M[k]? with
    | none => rw [ht, hm] at hk; simp at hk
    | some m =>
      rw [ht, hm] at hk
      simp at hk
      subst hk
      have h64 : t.size = 64 := by
        unfold wrongs at h
        rw [List.any_eq_false] at h
        have := h t (List.mem_of_getElem? ht)
        simp at this
        omega
      exact ⟨h64, h64, fun e => by cases e⟩

theorem upd_len (f : Sec → Sec) (M : List Sec) (i : Int) : (upd f M i).length = M.length := by simp [upd]
end Go.Proofs.Ytgenifcikfbfhaa
namespace Go.Proofs.Ytgenifcikfbfhaa

structure Dev where
  slots : List ByteArray
  fuses : List Bool
  counter : Int
  clock : Int
  M : List Sec
  down : Bool
  left : Int

/-- One step: the error's number, the new device. -/
def Dev.dstep (D : Dev) (check : Int) (f : Dev → Dev) : Int × Dev :=
  if D.down = true then (14, D)
  else if check ≠ 0 then (check, D)
  else if D.left = 0 then (14, { D with down := true, left := -1 })
  else (0, f { D with left := max (D.left - 1) (-1) })

/-- The text of an operation. -/
def dtext (fill : Nat) (short : Bool) (n : Nat) : ByteArray :=
  ⟨((List.range (if short then n - 1 else n)).map fun i => UInt8.ofNat (fill + i % 5)).toArray⟩
def zero32 : ByteArray := ⟨(List.replicate 32 (0 : UInt8)).toArray⟩

structure DOp where
  kind : Int
  a : Int
  b : Int
  fill : Nat
  short : Bool
  picks : List Int

/-- What an operation answers. -/
structure DRes where
  text : ByteArray
  e : Int

def chk (p : Prop) [Decidable p] : Int := if p then 0 else 1
def inS {α : Type} (l : List α) (i : Int) : Prop := 0 ≤ i ∧ i < l.length
instance {α : Type} (l : List α) (i : Int) : Decidable (inS l i) := inferInstanceAs (Decidable (_ ∧ _))

/-- The answer of a step. -/
def pack (r : Int × Dev) (img : List ByteArray) : DRes × Dev × List ByteArray := (⟨⟨#[]⟩, r.1⟩, r.2, img)
/-- One operation of a script: the answer, the new device, the new image. -/
def dplay (o : DOp) (D : Dev) (img : List ByteArray) : DRes × Dev × List ByteArray :=
  if o.kind = 1 then (if D.down then ⟨⟨#[]⟩, 14⟩ else if isAt D.M o.a then ⟨(D.M.getD o.a.toNat default).seen, 0⟩ else ⟨⟨#[]⟩, 1⟩, D, img)
  else if o.kind = 2 then pack (D.dstep (chk (isAt D.M o.a ∧ (dtext o.fill o.short 64).size = 64)) fun D => { D with M := upd (fun s => s.write (dtext o.fill o.short 64)) D.M o.a }) img
  else if o.kind = 3 then pack (D.dstep 0 fun D => { D with M := doneM (fun _ => 64) D.M (idxs Sec.dirty D.M) }) img
  else if o.kind = 4 then (if D.down then ⟨⟨#[]⟩, 14⟩ else if inS D.slots o.a then ⟨D.slots.getD o.a.toNat ⟨#[]⟩, 0⟩ else ⟨⟨#[]⟩, 1⟩, D, img)
  else if o.kind = 5 then pack (D.dstep (chk (inS D.slots o.a ∧ (dtext o.fill o.short 32).size = 32)) fun D => { D with slots := D.slots.set o.a.toNat (dtext o.fill o.short 32) }) img
  else if o.kind = 6 then pack (D.dstep (chk (inS D.fuses o.a)) fun D => { D with fuses := D.fuses.set o.a.toNat true }) img
  else if o.kind = 7 then pack (D.dstep (if 0 ≤ o.a ∧ o.a ≤ 4611686018427387904 then (if o.a < D.counter then 20 else 0) else 1) fun D => { D with counter := o.a }) img
  else if o.kind = 8 then
    if o.a < 0 ∨ 1099511627776 - D.clock < o.a then (⟨⟨#[]⟩, 1⟩, D, img) else (⟨⟨#[]⟩, 0⟩, { D with clock := D.clock + o.a }, img)
  else if o.kind = 9 then (⟨⟨#[]⟩, 0⟩, { D with left := max o.a (-1) }, img)
  else if o.kind = 10 then (⟨⟨#[]⟩, 0⟩, { D with M := doneM (pick o.picks) D.M (idxs Sec.dirty D.M), down := false, left := -1 }, img)
  else if o.kind = 11 then (⟨⟨#[]⟩, 0⟩, { D with slots := List.replicate D.slots.length zero32 }, img)
  else if o.kind = 12 then (⟨⟨#[]⟩, chk (isAt D.M o.a)⟩, { D with M := if isAt D.M o.a then upd Sec.stale D.M o.a else D.M }, img)
  else if o.kind = 13 then (⟨⟨#[]⟩, chk (isAt D.M o.a)⟩, { D with M := if isAt D.M o.a then upd Sec.wear D.M o.a else D.M }, img)
  else if o.kind = 14 then (⟨⟨#[]⟩, 0⟩, D, D.M.map Sec.now)
  else if o.kind = 15 then (⟨⟨#[]⟩, if loadErr img D.M then 1 else 0⟩, { D with M := if loadErr img D.M then D.M else loadM img D.M }, img)
  else (⟨⟨#[]⟩, 0⟩, D, img)
end Go.Proofs.Ytgenifcikfbfhaa
