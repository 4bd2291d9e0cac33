/-
  Layer 22 (memory): the comparisons of lists, at equal lists.
  Layer 22 (memory): the operations on one sector at every argument. (Written by wip/gen_memt1.py.)
  Layer 23 (device): the memory's methods at every argument (beside the reference's memory).
  Layer 23 (device): what keeps contents of 64 bytes.
  Layer 23 (device), plain: a device, its steps.
-/
import Derived.Test.YtcifkahmeimniaaGreatMemR5
import Derived.Test.YtcifkahmeimniaaGreatMemR7
import Derived.Test.YtcifkahmeimniaaGreatG1
namespace Go.Proofs.YtcifkahmeimniaaGreat
open Go.RowKit Go.Shelf
attribute [local go_sem] Oper.semAt_some

theorem below_drewN {B : Nat} {a w : World} (h : Below B a w) (n : Nat) : Below B a (w.drewN n) := ⟨h.os, h.tape, h.output, h.size, h.block⟩

/-- A slice of numbers that reads as a list. -/
def IntsRow (w : World) (v : Value) (l : List Nat) : Prop := ∃ base, w.ownsRow base 3 1 v l.length (intCells l)
theorem IntsRow.parts {w : World} {v : Value} {I : List Nat} (h : IntsRow w v I) : ∃ A c, v = .slice A I.length c ∧ I.length ≤ c ∧ c ≤ maxLen ∧ ∀ (i t : Nat), I[i]? = some t → ∃ gb, A = some ⟨gb, 0, none⟩ ∧ gb < w.heap.size ∧ w.cell? ⟨gb, i, none⟩ = some (.int .i64 t) := by
  obtain ⟨base, h⟩ := h
  have h' := h
  rcases h.2 with ⟨rfl, h0⟩ | ⟨gb, cap, cur, rfl, _, hb, h1, h2, _, _⟩
  · exact ⟨none, 0, by rw [h0], by omega, by unfold maxLen; omega, fun i t hi => by rw [List.eq_nil_of_length_eq_zero h0] at hi; simp at hi⟩
  · refine ⟨_, cap, rfl, h1, h2, fun i t hi => ⟨gb, rfl, Blk.lt hb, ?_⟩⟩
    rw [h'.cellAt i (by have := (List.getElem?_eq_some_iff.1 hi).1; omega)]
    simp [intCells, hi]

end Go.Proofs.YtcifkahmeimniaaGreat
namespace Go.Proofs.YtcifkahmeimniaaGreat
open Go.RowKit Go.Shelf

/-- A number is a sector's. -/
def isAt (M : List Sec) (i : Int) : Prop := 0 ≤ i ∧ i < M.length
instance (M : List Sec) (i : Int) : Decidable (isAt M i) := inferInstanceAs (Decidable (_ ∧ _))
/-- One sector is changed. -/
def upd (f : Sec → Sec) (M : List Sec) (i : Int) : List Sec := M.set i.toNat (f (M.getD i.toNat default))
def Sec.stale (s : Sec) : Sec := { s with now := s.before }
def Sec.wear (s : Sec) : Sec := { s with worn := true }
/-- The error of an operation on a sector. -/
def errOf (p : Prop) [Decidable p] : Value := .int .i64 (if p then 0 else 1)

theorem isAt_get {M : List Sec} {i : Int} (h : isAt M i) : ∃ (k : Nat) (s : Sec), i = (k : Int) ∧ M[k]? = some s ∧ ∀ f, upd f M i = M.set k (f s) := by
  obtain ⟨k, rfl⟩ := Int.eq_ofNat_of_zero_le h.1
  have hk : k < M.length := by have := h.2; omega
  refine ⟨k, M[k], rfl, List.getElem?_eq_getElem hk, fun f => ?_⟩
  unfold upd
  simp [List.getD, List.getElem?_eq_getElem hk]
theorem not_isAt {M : List Sec} {i : Int} (h : ¬ isAt M i) : i < 0 ∨ (M.length : Int) ≤ i := by
  unfold isAt at h; omega

section
variable {w : World} {b g : Nat} {M : List Sec}

theorem write_any (h : PMem w b g M) (i : Int) (t : ByteArray) :
    Calls Tryz.prog 76 #[.pointer (some ⟨b, 0, none⟩), .int .i64 i, .string t] w fun e w' => e = .returned (errOf (isAt M i ∧ t.size = 64)) ∧ PMem w' b g (if isAt M i ∧ t.size = 64 then upd (fun s => s.write t) M i else M) ∧ w.grownBy w' (some g) := by
  by_cases hp : isAt M i ∧ t.size = 64
  · obtain ⟨k, s, rfl, hs, hu⟩ := isAt_get hp.1
    refine (write_in h k s t hs hp.2).mono ?_
    rintro e w' ⟨rfl, h1, h2⟩
    rw [if_pos hp, hu]
    exact ⟨by unfold errOf; rw [if_pos hp], h1, h2⟩
  · refine (write_out h i t ?_).mono ?_
    · by_cases h1 : isAt M i
      · exact .inr (fun e => hp ⟨h1, e⟩)
      · exact .inl (not_isAt h1)
    · rintro e w' ⟨rfl, rfl⟩
      rw [if_neg hp]
      exact ⟨by unfold errOf; rw [if_neg hp], h, grown_refl _ _⟩
theorem read_any (h : PMem w b g M) (i : Int) :
    Calls Tryz.prog 74 #[.pointer (some ⟨b, 0, none⟩), .int .i64 i] w fun e w' => e = .returned (.tuple #[.string (if isAt M i then (M.getD i.toNat default).seen else ⟨#[]⟩), errOf (isAt M i)]) ∧ w = w' := by
  by_cases hp : isAt M i
  · obtain ⟨k, s, rfl, hs, hu⟩ := isAt_get hp
    refine (read_in h k s hs).mono ?_
    rintro e w' ⟨rfl, rfl⟩
    rw [if_pos hp]
    exact ⟨by unfold errOf; rw [if_pos hp]; simp [List.getD, hs], rfl⟩
  · refine (read_out h i (not_isAt hp)).mono ?_
    rintro e w' ⟨rfl, rfl⟩
    rw [if_neg hp]
    exact ⟨by unfold errOf; rw [if_neg hp], rfl⟩
theorem stale_any (h : PMem w b g M) (i : Int) :
    Calls Tryz.prog 78 #[.pointer (some ⟨b, 0, none⟩), .int .i64 i] w fun e w' => e = .returned (errOf (isAt M i)) ∧ PMem w' b g (if isAt M i then upd Sec.stale M i else M) ∧ w.grownBy w' (some g) := by
  by_cases hp : isAt M i
  · obtain ⟨k, s, rfl, hs, hu⟩ := isAt_get hp
    refine (stale_in h k s hs).mono ?_
    rintro e w' ⟨rfl, h1, h2⟩
    rw [if_pos hp, hu]
    exact ⟨by unfold errOf; rw [if_pos hp], h1, h2⟩
  · refine (stale_out h i (not_isAt hp)).mono ?_
    rintro e w' ⟨rfl, rfl⟩
    rw [if_neg hp]
    exact ⟨by unfold errOf; rw [if_neg hp], h, grown_refl _ _⟩
theorem wear_any (h : PMem w b g M) (i : Int) :
    Calls Tryz.prog 79 #[.pointer (some ⟨b, 0, none⟩), .int .i64 i] w fun e w' => e = .returned (errOf (isAt M i)) ∧ PMem w' b g (if isAt M i then upd Sec.wear M i else M) ∧ w.grownBy w' (some g) := by
  by_cases hp : isAt M i
  · obtain ⟨k, s, rfl, hs, hu⟩ := isAt_get hp
    refine (wear_in h k s hs).mono ?_
    rintro e w' ⟨rfl, h1, h2⟩
    rw [if_pos hp, hu]
    exact ⟨by unfold errOf; rw [if_pos hp], h1, h2⟩
  · refine (wear_out h i (not_isAt hp)).mono ?_
    rintro e w' ⟨rfl, rfl⟩
    rw [if_neg hp]
    exact ⟨by unfold errOf; rw [if_neg hp], h, grown_refl _ _⟩

theorem rwrite_any (h : RMem w b g M) (i : Int) (t : ByteArray) :
    Calls Tryz.prog 83 #[.pointer (some ⟨b, 0, none⟩), .int .i64 i, .string t] w fun e w' => e = .returned (errOf (isAt M i ∧ t.size = 64)) ∧ RMem w' b g (if isAt M i ∧ t.size = 64 then upd (fun s => s.write t) M i else M) ∧ w.grownBy w' (some g) := by
  by_cases hp : isAt M i ∧ t.size = 64
  · obtain ⟨k, s, rfl, hs, hu⟩ := isAt_get hp.1
    refine (rwrite_in h k s t hs hp.2).mono ?_
    rintro e w' ⟨rfl, h1, h2⟩
    rw [if_pos hp, hu]
    exact ⟨by unfold errOf; rw [if_pos hp], h1, h2⟩
  · refine (rwrite_out h i t ?_).mono ?_
    · by_cases h1 : isAt M i
      · exact .inr (fun e => hp ⟨h1, e⟩)
      · exact .inl (not_isAt h1)
    · rintro e w' ⟨rfl, rfl⟩
      rw [if_neg hp]
      exact ⟨by unfold errOf; rw [if_neg hp], h, grown_refl _ _⟩
theorem rread_any (h : RMem w b g M) (i : Int) :
    Calls Tryz.prog 81 #[.pointer (some ⟨b, 0, none⟩), .int .i64 i] w fun e w' => e = .returned (.tuple #[.string (if isAt M i then (M.getD i.toNat default).seen else ⟨#[]⟩), errOf (isAt M i)]) ∧ w = w' := by
  by_cases hp : isAt M i
  · obtain ⟨k, s, rfl, hs, hu⟩ := isAt_get hp
    refine (rread_in h k s hs).mono ?_
    rintro e w' ⟨rfl, rfl⟩
    rw [if_pos hp]
    exact ⟨by unfold errOf; rw [if_pos hp]; simp [List.getD, hs], rfl⟩
  · refine (rread_out h i (not_isAt hp)).mono ?_
    rintro e w' ⟨rfl, rfl⟩
    rw [if_neg hp]
    exact ⟨by unfold errOf; rw [if_neg hp], rfl⟩
theorem rstale_any (h : RMem w b g M) (i : Int) :
    Calls Tryz.prog 86 #[.pointer (some ⟨b, 0, none⟩), .int .i64 i] w fun e w' => e = .returned (errOf (isAt M i)) ∧ RMem w' b g (if isAt M i then upd Sec.stale M i else M) ∧ w.grownBy w' (some g) := by
  by_cases hp : isAt M i
  · obtain ⟨k, s, rfl, hs, hu⟩ := isAt_get hp
    refine (rstale_in h k s hs).mono ?_
    rintro e w' ⟨rfl, h1, h2⟩
    rw [if_pos hp, hu]
    exact ⟨by unfold errOf; rw [if_pos hp], h1, h2⟩
  · refine (rstale_out h i (not_isAt hp)).mono ?_
    rintro e w' ⟨rfl, rfl⟩
    rw [if_neg hp]
    exact ⟨by unfold errOf; rw [if_neg hp], h, grown_refl _ _⟩
theorem rwear_any (h : RMem w b g M) (i : Int) :
    Calls Tryz.prog 87 #[.pointer (some ⟨b, 0, none⟩), .int .i64 i] w fun e w' => e = .returned (errOf (isAt M i)) ∧ RMem w' b g (if isAt M i then upd Sec.wear M i else M) ∧ w.grownBy w' (some g) := by
  by_cases hp : isAt M i
  · obtain ⟨k, s, rfl, hs, hu⟩ := isAt_get hp
    refine (rwear_in h k s hs).mono ?_
    rintro e w' ⟨rfl, h1, h2⟩
    rw [if_pos hp, hu]
    exact ⟨by unfold errOf; rw [if_pos hp], h1, h2⟩
  · refine (rwear_out h i (not_isAt hp)).mono ?_
    rintro e w' ⟨rfl, rfl⟩
    rw [if_neg hp]
    exact ⟨by unfold errOf; rw [if_neg hp], h, grown_refl _ _⟩
end
end Go.Proofs.YtcifkahmeimniaaGreat
namespace Go.Proofs.YtcifkahmeimniaaGreat
end Go.Proofs.YtcifkahmeimniaaGreat
namespace Go.Proofs.YtcifkahmeimniaaGreat
open Go.RowKit Go.Shelf
/-- A sector with contents of 64 bytes. -/
def Sec.fine (s : Sec) : Prop := s.now.size = 64 ∧ s.before.size = 64 ∧ (s.dirty = true → s.fresh.size = 64)
theorem fine_set {M : List Sec} (h : Fine M) {i : Nat} {s : Sec} (hs : s.fine) : Fine (M.set i s) := by
  intro x hx
  rcases List.mem_or_eq_of_mem_set hx with h1 | rfl
  · exact h x h1
  · exact hs
theorem fine_upd {M : List Sec} (h : Fine M) {f : Sec → Sec} (hf : ∀ s : Sec, s.fine → (f s).fine) {i : Int} (hi : isAt M i) : Fine (upd f M i) := by
  obtain ⟨k, s, rfl, hs, hu⟩ := isAt_get hi
  rw [hu]
  exact fine_set h (hf s (h s (List.mem_of_getElem? hs)))
theorem fine_settle {s : Sec} (h : s.fine) (hd : s.dirty = true) {n : Nat} (hn : n ≤ 64) : (s.settle n).fine := by
  obtain ⟨now, before, fresh, dirty, worn⟩ := s
  obtain ⟨h1, h2, h3⟩ := h
  have h4 := h3 hd
  dsimp only at h1 h2 h4
  rcases Nat.eq_zero_or_pos n with rfl | hp
  · rw [settle_none]; exact ⟨h1, h2, fun e => by cases e⟩
  · rw [settle_some hp h1]
    refine ⟨?_, h1, fun e => by cases e⟩
    show (fresh.extract 0 n ++ now.extract n 64).size = 64
    rw [ByteArray.size_append, ByteArray.size_extract, ByteArray.size_extract, h1, h4]
    omega
theorem fine_doneM {M : List Sec} (h : Fine M) (cnt : Nat → Nat) (hc : ∀ j, cnt j ≤ 64) : ∀ (n : Nat) (pre : List Nat), pre.length = n → (∀ i ∈ pre, ∃ s, M[i]? = some s ∧ s.dirty = true) → Fine (doneM cnt M pre)
  | 0, pre, hl, _ => by rw [List.eq_nil_of_length_eq_zero hl, doneM_nil]; exact h
  | n + 1, pre, hl, hp => by
    have hne : pre ≠ [] := by intro e; rw [e] at hl; simp at hl
    rw [← List.dropLast_concat_getLast hne, doneM_snoc]
    obtain ⟨s, hs, hd⟩ := hp _ (List.getLast_mem hne)
    refine fine_set (fine_doneM h cnt hc n _ (by simp [hl]) (fun i hi => hp i (List.dropLast_subset _ hi))) ?_
    rw [List.getD, hs]
    exact fine_settle (h s (List.mem_of_getElem? hs)) hd (hc _)
theorem fine_load {M : List Sec} {I : List ByteArray} (h : wrongs I = false) : Fine (loadM I M) := by
  intro s hs
  unfold loadM at hs
  obtain ⟨k, hk⟩ := List.mem_iff_getElem?.1 hs
  rw [List.getElem?_zipWith] at hk
  cases ht : I[k]? with
  | none => rw [ht] at hk; simp at hk
  | some t =>
    cases hm : M[k]? with
    | none => rw [ht, hm] at hk; simp at hk
    | some m =>
      rw [ht, hm] at hk
      simp at hk
      subst hk
      have h64 : t.size = 64 := by
        unfold wrongs at h
        rw [List.any_eq_false] at h
        have := h t (List.mem_of_getElem? ht)
        simp at this
        omega
      exact ⟨h64, h64, fun e => by cases e⟩

theorem upd_len (f : Sec → Sec) (M : List Sec) (i : Int) : (upd f M i).length = M.length := by simp [upd]
end Go.Proofs.YtcifkahmeimniaaGreat
namespace Go.Proofs.YtcifkahmeimniaaGreat

structure Dev where
  slots : List ByteArray
  fuses : List Bool
  counter : Int
  clock : Int
  M : List Sec
  down : Bool
  left : Int

/-- One step: the error's number, the new device. -/
def Dev.dstep (D : Dev) (check : Int) (f : Dev → Dev) : Int × Dev :=
  if D.down = true then (14, D)
  else if check ≠ 0 then (check, D)
  else if D.left = 0 then (14, { D with down := true, left := -1 })
  else (0, f { D with left := max (D.left - 1) (-1) })

/-- The text of an operation. -/
def dtext (fill : Nat) (short : Bool) (n : Nat) : ByteArray :=
  ⟨((List.range (if short then n - 1 else n)).map fun i => UInt8.ofNat (fill + i % 5)).toArray⟩
def zero32 : ByteArray := ⟨(List.replicate 32 (0 : UInt8)).toArray⟩

structure DOp where
  kind : Int
  a : Int
  b : Int
  fill : Nat
  short : Bool
  picks : List Int

/-- What an operation answers. -/
structure DRes where
  text : ByteArray
  e : Int

def chk (p : Prop) [Decidable p] : Int := if p then 0 else 1
def inS {α : Type} (l : List α) (i : Int) : Prop := 0 ≤ i ∧ i < l.length
instance {α : Type} (l : List α) (i : Int) : Decidable (inS l i) := inferInstanceAs (Decidable (_ ∧ _))

/-- The answer of a step. -/
def pack (r : Int × Dev) (img : List ByteArray) : DRes × Dev × List ByteArray := (⟨⟨#[]⟩, r.1⟩, r.2, img)
/-- One operation of a script: the answer, the new device, the new image. -/
def dplay (o : DOp) (D : Dev) (img : List ByteArray) : DRes × Dev × List ByteArray :=
  if o.kind = 1 then (if D.down then ⟨⟨#[]⟩, 14⟩ else if isAt D.M o.a then ⟨(D.M.getD o.a.toNat default).seen, 0⟩ else ⟨⟨#[]⟩, 1⟩, D, img)
  else if o.kind = 2 then pack (D.dstep (chk (isAt D.M o.a ∧ (dtext o.fill o.short 64).size = 64)) fun D => { D with M := upd (fun s => s.write (dtext o.fill o.short 64)) D.M o.a }) img
  else if o.kind = 3 then pack (D.dstep 0 fun D => { D with M := doneM (fun _ => 64) D.M (idxs Sec.dirty D.M) }) img
  else if o.kind = 4 then (if D.down then ⟨⟨#[]⟩, 14⟩ else if inS D.slots o.a then ⟨D.slots.getD o.a.toNat ⟨#[]⟩, 0⟩ else ⟨⟨#[]⟩, 1⟩, D, img)
  else if o.kind = 5 then pack (D.dstep (chk (inS D.slots o.a ∧ (dtext o.fill o.short 32).size = 32)) fun D => { D with slots := D.slots.set o.a.toNat (dtext o.fill o.short 32) }) img
  else if o.kind = 6 then pack (D.dstep (chk (inS D.fuses o.a)) fun D => { D with fuses := D.fuses.set o.a.toNat true }) img
  else if o.kind = 7 then pack (D.dstep (if 0 ≤ o.a ∧ o.a ≤ 4611686018427387904 then (if o.a < D.counter then 20 else 0) else 1) fun D => { D with counter := o.a }) img
  else if o.kind = 8 then
    if o.a < 0 ∨ 1099511627776 - D.clock < o.a then (⟨⟨#[]⟩, 1⟩, D, img) else (⟨⟨#[]⟩, 0⟩, { D with clock := D.clock + o.a }, img)
  else if o.kind = 9 then (⟨⟨#[]⟩, 0⟩, { D with left := max o.a (-1) }, img)
  else if o.kind = 10 then (⟨⟨#[]⟩, 0⟩, { D with M := doneM (pick o.picks) D.M (idxs Sec.dirty D.M), down := false, left := -1 }, img)
  else if o.kind = 11 then (⟨⟨#[]⟩, 0⟩, { D with slots := List.replicate D.slots.length zero32 }, img)
  else if o.kind = 12 then (⟨⟨#[]⟩, chk (isAt D.M o.a)⟩, { D with M := if isAt D.M o.a then upd Sec.stale D.M o.a else D.M }, img)
  else if o.kind = 13 then (⟨⟨#[]⟩, chk (isAt D.M o.a)⟩, { D with M := if isAt D.M o.a then upd Sec.wear D.M o.a else D.M }, img)
  else if o.kind = 14 then (⟨⟨#[]⟩, 0⟩, D, D.M.map Sec.now)
  else if o.kind = 15 then (⟨⟨#[]⟩, if loadErr img D.M then 1 else 0⟩, { D with M := if loadErr img D.M then D.M else loadM img D.M }, img)
  else (⟨⟨#[]⟩, 0⟩, D, img)
end Go.Proofs.YtcifkahmeimniaaGreat
