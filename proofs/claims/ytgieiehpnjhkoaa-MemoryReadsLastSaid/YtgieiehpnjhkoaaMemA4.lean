/-
  Layer 22 (memory): player.play and spec.play, one contract each, by the plain step.
-/
import Derived.Test.YtgieiehpnjhkoaaMemB1
import Derived.Test.YtgieiehpnjhkoaaMemB2
import Derived.Test.YtgieiehpnjhkoaaMemB3
namespace Go.Proofs.Ytgieiehpnjhkoaa
open Go.RowKit Go.Shelf

/-- An operation as it lies among the arguments (the world w0). -/
def OpOk (w0 : World) (o : PlainOp) (x : Value) : Prop := ∃ pv, x = opVal o pv ∧ o.fill < 256 ∧ IntsAt w0 pv o.picks

theorem picks_rest {w0 w : World} {pv : Value} {P : List Int} {b g : Nat} (h : IntsAt w0 pv P) (hB : Below w0.heap.size w0 w) (hbg : b ≠ g) (hb : b < w.heap.size) (hg : w0.heap.size ≤ g) :
    ∃ pb po, RestAt pv P.length 0 pb po ∧ pb ≠ g ∧ pb < w.heap.size ∧ ∀ i x, P[i]? = some x → w.cell? ⟨pb, po + i, none⟩ = some (.int .i64 x) := by
  obtain ⟨A, c, rfl, h1, h2, h3⟩ := h
  by_cases hP : 0 < P.length
  · obtain ⟨pb, po, rfl, hl, hc⟩ := h3 hP
    refine ⟨pb, po, ⟨_, c, rfl, h1, h2, fun _ => rfl⟩, by omega, Nat.lt_of_lt_of_le hl hB.size, fun i x hx => ?_⟩
    exact (hB.cell (p := ⟨pb, po + i, none⟩) hl).trans (hc i x hx)
  · refine ⟨b, 0, ⟨A, c, rfl, h1, h2, fun e => absurd e hP⟩, hbg, hb, fun i x hx => ?_⟩
    have := (List.getElem?_eq_some_iff.1 hx).1
    omega

theorem imgs_parts {w : World} {v : Value} {imgs : List (List ByteArray)} (h : Imgs w v imgs) : ∃ A c, v = .slice A imgs.length c ∧ imgs.length ≤ maxLen ∧ ∀ i I, imgs[i]? = some I → ∃ gb u, A = some ⟨gb, 0, none⟩ ∧ gb < w.heap.size ∧ w.cell? ⟨gb, i, none⟩ = some u ∧ Texts w u I := by
  obtain ⟨vals, h1, h2, h3⟩ := h
  have h1' := h1
  rcases h1.2 with ⟨rfl, h0⟩ | ⟨gb, cap, cur, rfl, _, hb, hle, hm, _, _⟩
  · refine ⟨none, 0, by rw [h0], by rw [h0]; exact Nat.zero_le _, fun i I hI => ?_⟩
    have := (List.getElem?_eq_some_iff.1 hI).1
    omega
  · refine ⟨_, cap, rfl, Nat.le_trans hle hm, fun i I hI => ?_⟩
    have hi := (List.getElem?_eq_some_iff.1 hI).1
    obtain ⟨u, hu⟩ : ∃ u, vals[i]? = some u := ⟨_, List.getElem?_eq_getElem (by omega)⟩
    have := h1'.cellAt i (by omega)
    exact ⟨gb, u, rfl, Blk.lt hb, this.trans hu, h3 i u I hu hI⟩


theorem play_any {w0 w : World} {p b g n k : Nat} {v : Value} {s : St} (hB : Below w0.heap.size w0 w) (h : IsPl 42 70 68 w p b g v s) (hs : Sound n k s) (hn : n ≤ 4096) (hk : k ≤ 4096) (o : PlainOp) (x : Value) (hx : OpOk w0 o x) (hg0 : w0.heap.size ≤ g) :
    Calls Try.prog 13 #[.pointer (some ⟨p, 0, none⟩), x] w fun e w' => e = .returned (.int .i64 (step o s).1) ∧ ∃ v', IsPl 42 70 68 w' p b g v' (step o s).2 ∧ Fr w w' p g v v' s.imgs.length := by
  obtain ⟨kind, i, fill, size, picks⟩ := o
  obtain ⟨pv, rfl, hfill, hP⟩ := hx
  have hP' := hP
  obtain ⟨A, c, rfl, _⟩ := hP'
  have hN : s.M.length ≤ 1048576 := by rw [hs.len]; omega
  unfold opVal
  dsimp only at hfill hP ⊢
  by_cases k1 : kind = 1
  · subst k1
    refine (play_write h i size fill hfill A _ c _ _ (fun w2 hm => write_any hm i (textOf fill size))).mono ?_
    rintro e w' ⟨rfl, h1, h2⟩
    exact ⟨rfl, v, h1, Fr.ofGrown h h2 (by decide)⟩
  by_cases k2 : kind = 2
  · subst k2
    refine (play_flush h i size fill A _ c _ (fun w2 hm => Flush_any hm hs.fine hN)).mono ?_
    rintro e w' ⟨rfl, h1, h2⟩
    exact ⟨rfl, v, h1, Fr.ofGrown h h2 (by decide)⟩
  by_cases k3 : kind = 3
  · subst k3
    obtain ⟨pb, po, hr, hpg, hpl, hc⟩ := picks_rest hP hB h.mem.ne h.mem.lt.1 hg0
    refine (play_cut h i size fill A _ c _ (fun w2 hB2 hm => Cut_any hm hs.fine hN _ picks pb po hr hpg (fun j y hy => (hB2.cell (p := ⟨pb, po + j, none⟩) hpl).trans (hc j y hy)))).mono ?_
    rintro e w' ⟨rfl, h1, h2⟩
    exact ⟨rfl, v, h1, Fr.ofGrown h h2 (by decide)⟩
  by_cases k4 : kind = 4
  · subst k4
    refine (play_stale h i size fill A _ c _ _ (fun w2 hm => stale_any hm i)).mono ?_
    rintro e w' ⟨rfl, h1, h2⟩
    exact ⟨rfl, v, h1, Fr.ofGrown h h2 (by decide)⟩
  by_cases k5 : kind = 5
  · subst k5
    refine (play_wear h i size fill A _ c _ _ (fun w2 hm => wear_any hm i)).mono ?_
    rintro e w' ⟨rfl, h1, h2⟩
    exact ⟨rfl, v, h1, Fr.ofGrown h h2 (by decide)⟩
  by_cases k6 : kind = 6
  · subst k6
    have hst : step ⟨6, i, fill, size, picks⟩ s = (if loadErr (s.img i) s.M then 1 else 0, { s with M := if loadErr (s.img i) s.M then s.M else loadM (s.img i) s.M }) := rfl
    rw [hst]
    obtain ⟨A2, c2, rfl, hmx, hat⟩ := imgs_parts h.imgs
    by_cases hi : 0 ≤ i
    · by_cases hi2 : i < s.imgs.length
      · obtain ⟨j, rfl⟩ := Int.eq_ofNat_of_zero_le hi
        have hj : j < s.imgs.length := by omega
        obtain ⟨I, hI⟩ : ∃ I, s.imgs[j]? = some I := ⟨_, List.getElem?_eq_getElem hj⟩
        obtain ⟨gb, u, rfl, hgb, hu, ht⟩ := hat j I hI
        have him : s.img (j : Int) = I := by unfold St.img; rw [if_pos ⟨hi, hi2⟩]; simp [List.getD, hI]
        rw [him]
        have hIl : I.length ≤ 1048576 := by rw [hs.each I (List.mem_of_getElem? hI)]; omega
        refine (play_load_in h j size gb s.imgs.length c2 rfl hj hmx u hu hgb fill A _ c _ _ (fun w2 hB2 hm => Load_any hm u I (ht.kept (grown_below hB2 (Nat.le_refl _) none) (fun k t cs e => by cases e)) hIl)).mono ?_
        rintro e w' ⟨rfl, h1, h2⟩
        exact ⟨rfl, _, h1, Fr.ofGrown h h2 (by decide)⟩
      · have him : s.img i = [] := by unfold St.img; rw [if_neg (fun e => hi2 e.2)]
        rw [him]
        refine (play_load_far h i size hi A2 s.imgs.length c2 rfl (by omega) fill A _ c _ _ (fun w2 hm => Load_any hm (.slice none 0 0) [] (World.ownsRow_nil _ _ _ _) (by simp))).mono ?_
        rintro e w' ⟨rfl, h1, h2⟩
        exact ⟨rfl, _, h1, Fr.ofGrown h h2 (by decide)⟩
    · have him : s.img i = [] := by unfold St.img; rw [if_neg (fun e => hi e.1)]
      rw [him]
      refine (play_load_neg h i size (by omega) fill A _ c _ _ (fun w2 hm => Load_any hm (.slice none 0 0) [] (World.ownsRow_nil _ _ _ _) (by simp))).mono ?_
      rintro e w' ⟨rfl, h1, h2⟩
      exact ⟨rfl, _, h1, Fr.ofGrown h h2 (by decide)⟩
  by_cases k7 : kind = 7
  · subst k7
    refine (play_save h (by have := hs.imgs; omega) i size fill A _ c (fun w2 hm => Image_any hm hN)).mono ?_
    rintro e w' ⟨rfl, h1⟩
    exact ⟨rfl, h1⟩
  · have hst : step ⟨kind, i, fill, size, picks⟩ s = (0, s) := by simp [step, k1, k2, k3, k4, k5, k6, k7]
    rw [hst]
    refine (play_other h kind i size fill A _ c (by omega)).mono ?_
    rintro e w' ⟨rfl, h1, h2⟩
    exact ⟨rfl, v, h1, Fr.ofBelow h2⟩

theorem splay_any {w0 w : World} {p b g n k : Nat} {v : Value} {s : St} (hB : Below w0.heap.size w0 w) (h : IsPl 44 77 79 w p b g v s) (hs : Sound n k s) (hn : n ≤ 4096) (hk : k ≤ 4096) (o : PlainOp) (x : Value) (hx : OpOk w0 o x) (hg0 : w0.heap.size ≤ g) :
    Calls Try.prog 14 #[.pointer (some ⟨p, 0, none⟩), x] w fun e w' => e = .returned (.int .i64 (step o s).1) ∧ ∃ v', IsPl 44 77 79 w' p b g v' (step o s).2 ∧ Fr w w' p g v v' s.imgs.length := by
  obtain ⟨kind, i, fill, size, picks⟩ := o
  obtain ⟨pv, rfl, hfill, hP⟩ := hx
  have hP' := hP
  obtain ⟨A, c, rfl, _⟩ := hP'
  have hN : s.M.length ≤ 1048576 := by rw [hs.len]; omega
  unfold opVal
  dsimp only at hfill hP ⊢
  by_cases k1 : kind = 1
  · subst k1
    refine (splay_write h i size fill hfill A _ c _ _ (fun w2 hm => rwrite_any hm i (textOf fill size))).mono ?_
    rintro e w' ⟨rfl, h1, h2⟩
    exact ⟨rfl, v, h1, Fr.ofGrown h h2 (by decide)⟩
  by_cases k2 : kind = 2
  · subst k2
    refine (splay_flush h i size fill A _ c _ (fun w2 hm => rFlush_any hm hs.fine hN)).mono ?_
    rintro e w' ⟨rfl, h1, h2⟩
    exact ⟨rfl, v, h1, Fr.ofGrown h h2 (by decide)⟩
  by_cases k3 : kind = 3
  · subst k3
    obtain ⟨pb, po, hr, hpg, hpl, hc⟩ := picks_rest hP hB h.mem.ne h.mem.lt.1 hg0
    refine (splay_cut h i size fill A _ c _ (fun w2 hB2 hm => rCut_any hm hs.fine hN _ picks pb po hr hpg (Nat.lt_of_lt_of_le hpl hB2.size) (fun j y hy => (hB2.cell (p := ⟨pb, po + j, none⟩) hpl).trans (hc j y hy)))).mono ?_
    rintro e w' ⟨rfl, h1, h2⟩
    exact ⟨rfl, v, h1, Fr.ofGrown h h2 (by decide)⟩
  by_cases k4 : kind = 4
  · subst k4
    refine (splay_stale h i size fill A _ c _ _ (fun w2 hm => rstale_any hm i)).mono ?_
    rintro e w' ⟨rfl, h1, h2⟩
    exact ⟨rfl, v, h1, Fr.ofGrown h h2 (by decide)⟩
  by_cases k5 : kind = 5
  · subst k5
    refine (splay_wear h i size fill A _ c _ _ (fun w2 hm => rwear_any hm i)).mono ?_
    rintro e w' ⟨rfl, h1, h2⟩
    exact ⟨rfl, v, h1, Fr.ofGrown h h2 (by decide)⟩
  by_cases k6 : kind = 6
  · subst k6
    have hst : step ⟨6, i, fill, size, picks⟩ s = (if loadErr (s.img i) s.M then 1 else 0, { s with M := if loadErr (s.img i) s.M then s.M else loadM (s.img i) s.M }) := rfl
    rw [hst]
    obtain ⟨A2, c2, rfl, hmx, hat⟩ := imgs_parts h.imgs
    by_cases hi : 0 ≤ i
    · by_cases hi2 : i < s.imgs.length
      · obtain ⟨j, rfl⟩ := Int.eq_ofNat_of_zero_le hi
        have hj : j < s.imgs.length := by omega
        obtain ⟨I, hI⟩ : ∃ I, s.imgs[j]? = some I := ⟨_, List.getElem?_eq_getElem hj⟩
        obtain ⟨gb, u, rfl, hgb, hu, ht⟩ := hat j I hI
        have him : s.img (j : Int) = I := by unfold St.img; rw [if_pos ⟨hi, hi2⟩]; simp [List.getD, hI]
        rw [him]
        have hIl : I.length ≤ 1048576 := by rw [hs.each I (List.mem_of_getElem? hI)]; omega
        refine (splay_load_in h j size gb s.imgs.length c2 rfl hj hmx u hu hgb fill A _ c _ _ (fun w2 hB2 hm => rLoad_any hm u I (ht.kept (grown_below hB2 (Nat.le_refl _) none) (fun k t cs e => by cases e)) hIl)).mono ?_
        rintro e w' ⟨rfl, h1, h2⟩
        exact ⟨rfl, _, h1, Fr.ofGrown h h2 (by decide)⟩
      · have him : s.img i = [] := by unfold St.img; rw [if_neg (fun e => hi2 e.2)]
        rw [him]
        refine (splay_load_far h i size hi A2 s.imgs.length c2 rfl (by omega) fill A _ c _ _ (fun w2 hm => rLoad_any hm (.slice none 0 0) [] (World.ownsRow_nil _ _ _ _) (by simp))).mono ?_
        rintro e w' ⟨rfl, h1, h2⟩
        exact ⟨rfl, _, h1, Fr.ofGrown h h2 (by decide)⟩
    · have him : s.img i = [] := by unfold St.img; rw [if_neg (fun e => hi e.1)]
      rw [him]
      refine (splay_load_neg h i size (by omega) fill A _ c _ _ (fun w2 hm => rLoad_any hm (.slice none 0 0) [] (World.ownsRow_nil _ _ _ _) (by simp))).mono ?_
      rintro e w' ⟨rfl, h1, h2⟩
      exact ⟨rfl, _, h1, Fr.ofGrown h h2 (by decide)⟩
  by_cases k7 : kind = 7
  · subst k7
    refine (splay_save h (by have := hs.imgs; omega) i size fill A _ c (fun w2 hm => rImage_any hm hN)).mono ?_
    rintro e w' ⟨rfl, h1⟩
    exact ⟨rfl, h1⟩
  · have hst : step ⟨kind, i, fill, size, picks⟩ s = (0, s) := by simp [step, k1, k2, k3, k4, k5, k6, k7]
    rw [hst]
    refine (splay_other h kind i size fill A _ c (by omega)).mono ?_
    rintro e w' ⟨rfl, h1, h2⟩
    exact ⟨rfl, v, h1, Fr.ofBelow h2⟩
end Go.Proofs.Ytgieiehpnjhkoaa
