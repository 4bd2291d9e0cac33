/-
  Layer 22 (memory): same, at equal sectors.
-/
import Derived.Test.YtgieiehpnjhkoaaMemP1
namespace Go.Proofs.Ytgieiehpnjhkoaa
open Go.RowKit Go.Shelf
attribute [local go_sem] Oper.semAt_some

section
variable {w : World} {b g rb rg : Nat} {M : List Sec}

theorem Texts.below' {w w' : World} {v : Value} {I : List ByteArray} (h : Texts w v I) (hB : Below w.heap.size w w') : Texts w' v I := h.kept (grown_below hB (Nat.le_refl _) none) (fun k t cs e => by cases e)
theorem news_ints {w w' : World} {v : Value} {l : List Nat} (h : NewInts w w' v l) : IntsRow w' v l := ⟨_, h.1⟩
theorem IntsRow.below' {w w' : World} {v : Value} {l : List Nat} (h : IntsRow w v l) (hB : Below w.heap.size w w') : IntsRow w' v l := by
  obtain ⟨base, h1⟩ := h
  exact ⟨base, ownsRow_below h1 hB (Nat.le_refl _)⟩

/-- Both memories lie, behind what wrote nothing of w. -/
structure Pair (w0 w : World) (b g rb rg : Nat) (M : List Sec) : Prop where
  mem : PMem w b g M
  ref : RMem w rb rg M
  bel : Below w0.heap.size w0 w
theorem Pair.on {w0 w w' : World} (h : Pair w0 w b g rb rg M) (hB : Below w.heap.size w w') : Pair w0 w' b g rb rg M :=
  ⟨h.mem.below hB h.mem.lt.1 h.mem.lt.2, h.ref.below hB h.ref.lt.1 h.ref.lt.2, h.bel.trans (hB.mono h.bel.size)⟩

set_option maxRecDepth 100000 in
set_option maxHeartbeats 4000000 in
theorem same_true (hm : PMem w b g M) (hr : RMem w rb rg M) (hN : M.length ≤ 4096) :
    Calls Try.prog 15 #[.pointer (some ⟨b, 0, none⟩), .pointer (some ⟨rb, 0, none⟩)] w fun e w' => e = .returned (.bool true) ∧ Below w.heap.size w w' := by
  have hN2 : M.length ≤ 1048576 := by omega
  have h0 : Hid (Pair w w b g rb rg M) := ⟨hm, hr, Below.refl _ _⟩
  have HI : ∀ w2, Pair w w2 b g rb rg M → Hid (Calls Try.prog 22 #[.pointer (some ⟨b, 0, none⟩)] w2 fun e w' => ∃ v, e = .returned v ∧ Hid (Texts w' v (M.map Sec.now)) ∧ Hid (Pair w w' b g rb rg M)) := fun w2 h => (Image_any h.mem hN2).mono (by rintro e w' ⟨v, rfl, H⟩; exact ⟨v, rfl, news_texts H, h.on H.2.2⟩)
  have HIr : ∀ w2 v1, Pair w w2 b g rb rg M → Texts w2 v1 (M.map Sec.now) → Hid (Calls Try.prog 40 #[.pointer (some ⟨rb, 0, none⟩)] w2 fun e w' => ∃ v, e = .returned v ∧ Hid (Texts w' v1 (M.map Sec.now)) ∧ Hid (Texts w' v (M.map Sec.now)) ∧ Hid (Pair w w' b g rb rg M)) := fun w2 v1 h h1 => (rImage_any h.ref hN2).mono (by rintro e w' ⟨v, rfl, H⟩; exact ⟨v, rfl, h1.below' H.2.2, news_texts H, h.on H.2.2⟩)
  have HS : ∀ w2 v1 v2, Pair w w2 b g rb rg M → Texts w2 v1 (M.map Sec.now) → Texts w2 v2 (M.map Sec.now) → Hid (Calls Try.prog 27 #[v1, v2] w2 fun e w' => e = .returned (.bool true) ∧ Hid (Pair w w' b g rb rg M)) := fun w2 v1 v2 h h1 h2 => (sameTexts_true w2 v1 v2 _ h1 h2).mono (by rintro e w' ⟨rfl, H⟩; exact ⟨rfl, h.on H⟩)
  have HD : ∀ w2, Pair w w2 b g rb rg M → Hid (Calls Try.prog 23 #[.pointer (some ⟨b, 0, none⟩)] w2 fun e w' => ∃ v, e = .returned v ∧ Hid (IntsRow w' v (idxs Sec.dirty M)) ∧ Hid (Pair w w' b g rb rg M)) := fun w2 h => (Dirty_any h.mem hN2).mono (by rintro e w' ⟨v, rfl, H⟩; exact ⟨v, rfl, news_ints H, h.on H.2.2⟩)
  have HDr : ∀ w2 v1, Pair w w2 b g rb rg M → IntsRow w2 v1 (idxs Sec.dirty M) → Hid (Calls Try.prog 43 #[.pointer (some ⟨rb, 0, none⟩)] w2 fun e w' => ∃ v, e = .returned v ∧ Hid (IntsRow w' v1 (idxs Sec.dirty M)) ∧ Hid (IntsRow w' v (idxs Sec.dirty M)) ∧ Hid (Pair w w' b g rb rg M)) := fun w2 v1 h h1 => (rDirty_any h.ref hN2).mono (by rintro e w' ⟨v, rfl, H⟩; exact ⟨v, rfl, h1.below' H.2.2, news_ints H, h.on H.2.2⟩)
  have HW : ∀ w2, Pair w w2 b g rb rg M → Hid (Calls Try.prog 25 #[.pointer (some ⟨b, 0, none⟩)] w2 fun e w' => ∃ v, e = .returned v ∧ Hid (IntsRow w' v (idxs Sec.worn M)) ∧ Hid (Pair w w' b g rb rg M)) := fun w2 h => (Worn_any h.mem hN2).mono (by rintro e w' ⟨v, rfl, H⟩; exact ⟨v, rfl, news_ints H, h.on H.2.2⟩)
  have HWr : ∀ w2 v1, Pair w w2 b g rb rg M → IntsRow w2 v1 (idxs Sec.worn M) → Hid (Calls Try.prog 44 #[.pointer (some ⟨rb, 0, none⟩)] w2 fun e w' => ∃ v, e = .returned v ∧ Hid (IntsRow w' v1 (idxs Sec.worn M)) ∧ Hid (IntsRow w' v (idxs Sec.worn M)) ∧ Hid (Pair w w' b g rb rg M)) := fun w2 v1 h h1 => (rWorn_any h.ref hN2).mono (by rintro e w' ⟨v, rfl, H⟩; exact ⟨v, rfl, h1.below' H.2.2, news_ints H, h.on H.2.2⟩)
  have HSI : ∀ w2 v1 v2 l, Pair w w2 b g rb rg M → IntsRow w2 v1 l → IntsRow w2 v2 l → Hid (Calls Try.prog 42 #[v1, v2] w2 fun e w' => e = .returned (.bool true) ∧ Hid (Pair w w' b g rb rg M)) := fun w2 v1 v2 l h h1 h2 => (sameInts_true w2 v1 v2 _ h1 h2).mono (by rintro e w' ⟨rfl, H⟩; exact ⟨rfl, h.on H⟩)
  have HNN := Lib.hid hN
  clear hm hr hN hN2
  go_enter Try.func15, Try.ntmps15
  go_wp2_with (first
    | (go_at_call 33; refine (len_any h0.out.mem).mono ?_; rintro e w1 ⟨rfl, rfl⟩)
    | (go_at_call 41; refine (rlen_any h0.out.ref).mono ?_; rintro e w1 ⟨rfl, rfl⟩)
    | (go_at_call 22; refine (HI _ h0.out).out.mono ?_; rintro e w1 ⟨v1, rfl, t1, h1⟩)
    | (go_at_call 40; refine (HIr _ _ h1.out t1.out).out.mono ?_; rintro e w2 ⟨v2, rfl, t2, t3, h2⟩)
    | (go_at_call 27; refine (HS _ _ _ h2.out t2.out t3.out).out.mono ?_; rintro e w3 ⟨rfl, h3⟩)
    | (go_at_call 23; refine (HD _ h3.out).out.mono ?_; rintro e w4 ⟨v4, rfl, t4, h4⟩)
    | (go_at_call 43; refine (HDr _ _ h4.out t4.out).out.mono ?_; rintro e w5 ⟨v5, rfl, t5, t6, h5⟩)
    | (go_at_call 42; refine (HSI _ _ _ _ h8.out t8.out t9.out).out.mono ?_; rintro e w9 ⟨rfl, h9⟩)
    | (go_at_call 42; refine (HSI _ _ _ _ h5.out t5.out t6.out).out.mono ?_; rintro e w6 ⟨rfl, h6⟩)
    | (go_at_call 25; refine (HW _ h6.out).out.mono ?_; rintro e w7 ⟨v7, rfl, t7, h7⟩)
    | (go_at_call 44; refine (HWr _ _ h7.out t7.out).out.mono ?_; rintro e w8 ⟨v8, rfl, t8, t9, h8⟩))
  have h9' := h9
  clear HI HIr HS HD HDr HW HWr HSI h0 h1 h2 h3 h4 h5 h6 h7 h8 t1 t2 t3 t4 t5 t6 t7 t8 t9
  go_loopw [5, 6, 7, 8, 9] (fun a _ _ _ _ wr => ∃ k : Int, -1 ≤ k ∧ k ≤ M.length + 1 ∧ a = .int .i64 k ∧ Hid (Pair w wr b g rb rg M)) (fun a _ _ _ _ _ => (M.length + 1 - intOf a).toNat)
  case atStart => exact ⟨-1, by omega, by omega, rfl, h9'⟩
  case round =>
    obtain ⟨k, hk1, hk2, rfl, hp⟩ := hrel
    have HRd := fun i => Lib.hid (Read_any hp.out.mem i)
    have HRr := fun i => Lib.hid (rRead_any hp.out.ref i)
    have HL := Lib.hid (rlen_any hp.out.ref)
    have hb := Lib.hid hp.out.bel
    by_cases hk : k ≤ M.length
    · have d : decide (k ≤ (M.length : Int)) = true := decide_eq_true hk
      have K := Lib.hid (And.intro hk1 hk)
      have HN4 : Hid (wrap64 (k + 1) = k + 1) := by
        have a1 := HNN.out
        unfold Hid wrap64
        omega
      clear hk hk1 hk2
      go_wp2_with (first
        | (go_at_call 41; refine HL.out.mono ?_; rintro e w1 ⟨rfl, rfl⟩)
        | (go_at_call 18; refine (HRd _).out.mono ?_; rintro e w1 ⟨rfl, rfl⟩)
        | (go_at_call 45; refine (HRr _).out.mono ?_; rintro e w1 ⟨rfl, rfl⟩))
      go_roundw
      case rel => exact ⟨k + 1, by have := K.out; omega, by have := K.out; omega, by rw [HN4.out], hp⟩
      case measure => have := K.out; rw [HN4.out]; simp [intOf]; omega
    · have d : decide (k ≤ (M.length : Int)) = false := decide_eq_false hk
      clear hk hk1 hk2
      go_wp2_with (first
        | (go_at_call 41; refine HL.out.mono ?_; rintro e w1 ⟨rfl, rfl⟩))
      go_ret
      exact ⟨rfl, hb.out⟩
end
end Go.Proofs.Ytgieiehpnjhkoaa
