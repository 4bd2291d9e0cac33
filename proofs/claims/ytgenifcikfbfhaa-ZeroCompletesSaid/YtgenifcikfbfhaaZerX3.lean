/-
  Layer 33 (zero): one operation of a script, by the plain step.
-/
import Derived.Test.YtgenifcikfbfhaaG7
import Derived.Test.YtgenifcikfbfhaaDevX3
import Derived.Test.YtgenifcikfbfhaaDevO1
namespace Go.Proofs.Ytgenifcikfbfhaa
open Go.RowKit Go.Shelf

theorem dText_any (w : World) (kind a q : Int) (fill M : Nat) (short : Bool) (hfill : fill < 256) (hM : M = 64 ∨ M = 32) (A : Option Addr) (n c : Nat) :
    Calls Try.prog 24 #[.agg #[.int .i64 kind, .int .i64 a, .int .i64 q, .int .u8 fill, .bool short, .slice A n c], .int .i64 M] w fun e w' => e = .returned (.string (dtext fill short M)) ∧ Below w.heap.size w w' := by
  cases short with
  | false => exact dText_long w kind a q fill M hfill (by omega) (by omega) _ ⟨A, n, c, rfl⟩
  | true =>
    rcases hM with rfl | rfl
    · exact dText_short w kind a q fill 63 hfill (by omega) (by omega) _ ⟨A, n, c, rfl⟩
    · exact dText_short w kind a q fill 31 hfill (by omega) (by omega) _ ⟨A, n, c, rfl⟩
theorem picks_rest {w0 w : World} {pv : Value} {P : List Int} {b g : Nat} (h : IntsAt w0 pv P) (hB : Below w0.heap.size w0 w) (hbg : b ≠ g) (hb : b < w.heap.size) (hg : w0.heap.size ≤ g) :
    ∃ pb po, RestAt pv P.length 0 pb po ∧ pb ≠ g ∧ pb < w.heap.size ∧ ∀ i x, P[i]? = some x → w.cell? ⟨pb, po + i, none⟩ = some (.int .i64 x) := by
  obtain ⟨A, c, rfl, h1, h2, h3⟩ := h
  by_cases hP : 0 < P.length
  · obtain ⟨pb, po, rfl, hl, hc⟩ := h3 hP
    refine ⟨pb, po, ⟨_, c, rfl, h1, h2, fun _ => rfl⟩, by omega, Nat.lt_of_lt_of_le hl hB.size, fun i x hx => ?_⟩
    exact (hB.cell (p := ⟨pb, po + i, none⟩) hl).trans (hc i x hx)
  · refine ⟨b, 0, ⟨A, c, rfl, h1, h2, fun e => absurd e hP⟩, hbg, hb, fun i x hx => ?_⟩
    have := (List.getElem?_eq_some_iff.1 hx).1
    omega

/-- What an operation leaves: the device, the frame, the image. -/
def LzPost (a : DAt) (v : Value) (w : World) (R : DRes × Dev × List ByteArray) (e : Ending) (w' : World) : Prop :=
  ∃ v', e = .returned v' ∧ DevIs w' a R.2.1 ∧ DLeft w w' a ∧ Img w' v' R.2.2 a ∧ ∀ k, v'.ownBlock = some k → v.ownBlock = some k ∨ w.heap.size ≤ k

section
variable {W w : World} {a : DAt} {D : Dev} {n s f : Nat} {v : Value} {I : List ByteArray}
theorem lz_any (h : MDev W w a D) (hD : D.Ok n s f) (hn : n ≤ 4096) (hs : s ≤ 16) (hI : Img w v I a) (hIl : I.length ≤ 4096) (o : DOp) (x : Value) (hx : DOpOk W o x) :
    Calls Try.prog 17 #[.pointer (some ⟨a.d, 0, none⟩), x, v] w (LzPost a v w (dplay o D I)) := by
  obtain ⟨kind, oa, ob, fill, short, picks⟩ := o
  obtain ⟨A, pn, pc, rfl, ⟨hfill, ha⟩, hP⟩ := hx
  obtain ⟨A', n', c', rfl⟩ := hI.slice
  have hN : D.M.length ≤ 1048576 := by rw [hD.M]; omega
  have hr := hD.left
  dsimp only at hfill ha hP ⊢
  unfold dplay
  dsimp only
  by_cases k1 : kind = 1
  · subst k1
    rw [if_pos rfl]
    refine (lz_other h.dev oa ob fill short A pn pc A' n' c' 1 (by omega)).mono ?_
    rintro e w' ⟨rfl, h1, h2⟩
    exact ⟨_, rfl, h1, h2, h2.img h.dev hI, fun k e => .inl e⟩
  rw [if_neg k1]
  by_cases k2 : kind = 2
  · subst k2
    rw [if_pos rfl]
    refine (lz_2 h.dev oa ob fill short A pn pc A' n' c' _ _ _ (fun w2 => dText_any w2 2 oa ob fill 64 short hfill (.inl rfl) A pn pc) (fun w2 hB => dWrite_any (h.dev.below hB) hr oa _)).mono ?_
    rintro e w' ⟨rfl, h1, h2⟩
    exact ⟨_, rfl, h1, h2, h2.img h.dev hI, fun k e => .inl e⟩
  rw [if_neg k2]
  by_cases k3 : kind = 3
  · subst k3
    rw [if_pos rfl]
    refine (lz_3 oa ob fill short A pn pc A' n' c' _ _ (fun w2 hB => dFlush_any (h.dev.below hB) hr hD.fine hN)).mono ?_
    rintro e w' ⟨rfl, h1, h2⟩
    exact ⟨_, rfl, h1, h2, h2.img h.dev hI, fun k e => .inl e⟩
  rw [if_neg k3]
  by_cases k4 : kind = 4
  · subst k4
    rw [if_pos rfl]
    refine (lz_other h.dev oa ob fill short A pn pc A' n' c' 4 (by omega)).mono ?_
    rintro e w' ⟨rfl, h1, h2⟩
    exact ⟨_, rfl, h1, h2, h2.img h.dev hI, fun k e => .inl e⟩
  rw [if_neg k4]
  by_cases k5 : kind = 5
  · subst k5
    rw [if_pos rfl]
    refine (lz_5 h.dev oa ob fill short A pn pc A' n' c' _ _ _ (fun w2 => dText_any w2 5 oa ob fill 32 short hfill (.inr rfl) A pn pc) (fun w2 hB => dStore_any (h.dev.below hB) hr oa _)).mono ?_
    rintro e w' ⟨rfl, h1, h2⟩
    exact ⟨_, rfl, h1, h2, h2.img h.dev hI, fun k e => .inl e⟩
  rw [if_neg k5]
  by_cases k6 : kind = 6
  · subst k6
    rw [if_pos rfl]
    refine (lz_6 oa ob fill short A pn pc A' n' c' _ _ (fun w2 hB => dBurn_any (h.dev.below hB) hr oa)).mono ?_
    rintro e w' ⟨rfl, h1, h2⟩
    exact ⟨_, rfl, h1, h2, h2.img h.dev hI, fun k e => .inl e⟩
  rw [if_neg k6]
  by_cases k7 : kind = 7
  · subst k7
    rw [if_pos rfl]
    refine (lz_7 oa ob fill short A pn pc A' n' c' _ _ (fun w2 hB => dRaise_any (h.dev.below hB) hr oa)).mono ?_
    rintro e w' ⟨rfl, h1, h2⟩
    exact ⟨_, rfl, h1, h2, h2.img h.dev hI, fun k e => .inl e⟩
  rw [if_neg k7]
  by_cases k8 : kind = 8
  · subst k8
    rw [if_pos rfl]
    refine (lz_8 oa ob fill short A pn pc A' n' c' _ _ (fun w2 hB => dTick_any (h.dev.below hB) hD.clock oa)).mono ?_
    rintro e w' ⟨rfl, h1, h2⟩
    by_cases hc : oa < 0 ∨ 1099511627776 - D.clock < oa
    · simp only [if_pos hc] at h1 ⊢
      exact ⟨_, rfl, h1, h2, h2.img h.dev hI, fun k e => .inl e⟩
    · simp only [if_neg hc] at h1 ⊢
      exact ⟨_, rfl, h1, h2, h2.img h.dev hI, fun k e => .inl e⟩
  rw [if_neg k8]
  by_cases k9 : kind = 9
  · subst k9
    rw [if_pos rfl]
    refine (lz_9 oa ob fill short A pn pc A' n' c' _ (fun w2 hB => dTrip_any (h.dev.below hB) oa)).mono ?_
    rintro e w' ⟨rfl, h1, h2⟩
    exact ⟨_, rfl, h1, h2, h2.img h.dev hI, fun k e => .inl e⟩
  rw [if_neg k9]
  by_cases k10 : kind = 10
  · subst k10
    rw [if_pos rfl]
    refine (lz_10 oa ob fill short A pn pc A' n' c' { D with M := doneM (pick picks) D.M (idxs Sec.dirty D.M), down := false, left := -1 } (fun w2 hB => ?_)).mono ?_
    · have h3 := h.on hB
      obtain ⟨pb, po, hr2, hpg, hpl, hc⟩ := picks_rest hP h3.bel h3.dev.mem.ne h3.dev.mem.lt.1 h.hg
      exact dMount_any h3.dev hD.fine hN _ picks pb po hr2 hpg hc
    · rintro e w' ⟨rfl, h1, h2⟩
      exact ⟨_, rfl, h1, h2, h2.img h.dev hI, fun k e => .inl e⟩
  rw [if_neg k10]
  by_cases k11 : kind = 11
  · subst k11
    rw [if_pos rfl]
    refine (lz_11 oa ob fill short A pn pc A' n' c' _ (fun w2 hB => dBattery_any (h.dev.below hB) (by rw [hD.slots]; omega))).mono ?_
    rintro e w' ⟨rfl, h1, h2⟩
    exact ⟨_, rfl, h1, h2, h2.img h.dev hI, fun k e => .inl e⟩
  rw [if_neg k11]
  by_cases k12 : kind = 12
  · subst k12
    rw [if_pos rfl]
    refine (lz_12 oa ob fill short A pn pc A' n' c' _ _ (fun w2 hB => dStale_any (h.dev.below hB) oa)).mono ?_
    rintro e w' ⟨rfl, h1, h2⟩
    exact ⟨_, rfl, h1, h2, h2.img h.dev hI, fun k e => .inl e⟩
  rw [if_neg k12]
  by_cases k13 : kind = 13
  · subst k13
    rw [if_pos rfl]
    refine (lz_13 oa ob fill short A pn pc A' n' c' _ _ (fun w2 hB => dWear_any (h.dev.below hB) oa)).mono ?_
    rintro e w' ⟨rfl, h1, h2⟩
    exact ⟨_, rfl, h1, h2, h2.img h.dev hI, fun k e => .inl e⟩
  rw [if_neg k13]
  by_cases k14 : kind = 14
  · subst k14
    rw [if_pos rfl]
    refine (lz_14 h.dev oa ob fill short A pn pc A' n' c' _ (fun w2 hB => dImage_any (h.dev.below hB) hN)).mono ?_
    rintro e w' ⟨u, rfl, h1, h2, h3, h4⟩
    exact ⟨u, rfl, h1, h2, h3, fun k e => .inr (h4 k e)⟩
  rw [if_neg k14]
  by_cases k15 : kind = 15
  · subst k15
    rw [if_pos rfl]
    refine (lz_15 oa ob fill short A pn pc A' n' c' _ _ (fun w2 hB => dRestore_any (h.dev.below hB) _ I (hI.below hB).texts (by omega))).mono ?_
    rintro e w' ⟨rfl, h1, h2⟩
    exact ⟨_, rfl, h1, h2, h2.img h.dev hI, fun k e => .inl e⟩
  rw [if_neg k15]
  refine (lz_other h.dev oa ob fill short A pn pc A' n' c' kind (by omega)).mono ?_
  rintro e w' ⟨rfl, h1, h2⟩
  exact ⟨_, rfl, h1, h2, h2.img h.dev hI, fun k e => .inl e⟩
end
end Go.Proofs.Ytgenifcikfbfhaa
