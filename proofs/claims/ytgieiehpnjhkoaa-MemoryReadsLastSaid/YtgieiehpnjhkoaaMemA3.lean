/-
  Layer 22 (memory): player.play at a save.
-/
import Derived.Test.YtgieiehpnjhkoaaMemT9
import Derived.Test.YtgieiehpnjhkoaaMemA2
namespace Go.Proofs.Ytgieiehpnjhkoaa
open Go.RowKit Go.Shelf
attribute [local go_sem] Oper.semAt_some

theorem infoStrs : (Try.prog.info? 54).map (fun i => (i.zero, i.size, i.bytes)) = some (some (.slice none 0 0), 1, 24) := by kernel_rfl

theorem news_texts {w w' : World} {u : Value} {I : List ByteArray} (h : NewTexts w w' u I) : Texts w' u I := by
  refine ⟨h.1.1, ?_⟩
  rcases h.1.2 with h0 | ⟨b, cap, cur, h1, _, h2⟩
  · exact .inl h0
  · exact .inr ⟨b, cap, cur, h1, Nat.zero_le _, h2⟩
theorem news_slice {w w' : World} {u : Value} {I : List ByteArray} (h : NewTexts w w' u I) : ∃ A n c, u = .slice A n c := by
  rcases h.1.2 with ⟨rfl, h0⟩ | ⟨b, cap, cur, rfl, _⟩
  · exact ⟨none, 0, 0, rfl⟩
  · exact ⟨_, _, _, rfl⟩

theorem save_end {tP tM tS : TypeId} {w w1 w2 w3 : World} {p b g g' cap' : Nat} {v u : Value} {s : St} {I : List ByteArray} {vals : List Value} (h : IsPl tP tM tS w p b g v s) (hB1 : Below w.heap.size w w1) (hs1 : w.heap.size ≤ w1.heap.size)
    (hu : NewTexts w1 w2 u I) (hr0 : w.ownsRow 0 54 1 v s.imgs.length vals) (htx : ∀ (j : Nat) (x : Value) (J : List ByteArray), vals[j]? = some x → s.imgs[j]? = some J → Texts w x J)
    (hown : w3.ownsRow 0 54 1 (.slice (some ⟨g', 0, none⟩) (s.imgs.length + 1) cap') (s.imgs.length + 1) (vals ++ [u])) (hgrow : (w2.alloc (.cells #[u] 54)).grownBy w3 v.ownBlock) (hat : v.ownBlock = some g' ∨ g' = w2.heap.size + 1) (hkeep : KeepsRow (w2.alloc (.cells #[u] 54)) w3 54 v s.imgs.length)
    (q1 : tP ≠ 54) (q2 : tM ≠ 54) (q3 : tS ≠ 54) (q4 : tP ≠ tM) (q5 : tP ≠ tS) (q6 : tP ≠ 9) :
    ∃ v', IsPl tP tM tS (w3.setCell ⟨p, 1, none⟩ (.slice (some ⟨g', 0, none⟩) (s.imgs.length + 1) cap')) p b g v' { s with imgs := s.imgs ++ [I] } ∧ Fr w (w3.setCell ⟨p, 1, none⟩ (.slice (some ⟨g', 0, none⟩) (s.imgs.length + 1) cap')) p g v v' s.imgs.length := by
  have hBA : Below w.heap.size w (w2.alloc (.cells #[u] 54)) := (hB1.trans (hu.2.2.mono hs1)).alloc (Nat.le_trans hs1 hu.2.2.size) _
  have hsA : (w2.alloc (.cells #[u] 54)).heap.size = w2.heap.size + 1 := by simp
  have htA : Texts (w2.alloc (.cells #[u] 54)) u I := (news_texts hu).kept (World.grownBy_alloc _ _ none) (fun k t cs e => by cases e)
  generalize (w2.alloc (.cells #[u] 54)) = wA at hBA hsA htA hgrow hkeep
  have h2 : IsPl tP tM tS wA p b g v s := h.below hBA
  have hrA : wA.ownsRow 0 54 1 v s.imgs.length vals := ownsRow_below hr0 hBA (Nat.le_refl _)
  obtain ⟨cap, cur, hbb, hgb, hrest⟩ := h2.mem.body
  have hp3 : Blk w3 p tP #[.pointer (some ⟨b, 0, none⟩), v] := h2.blk.grown hgrow (fun e => own_blk_ne hrA h2.blk q1.symm e.symm)
  have hm3 : IsMem tM tS w3 b g s.M := h2.mem.grown hgrow (fun e => own_blk_ne hrA hbb q2.symm e.symm) (fun e => own_blk_ne hrA hgb q3.symm e.symm)
  obtain ⟨_, cur3, hbb3, hgb3, _⟩ := hm3.body
  have hgs := grown_set w3 p 1 (.slice (some ⟨g', 0, none⟩) (s.imgs.length + 1) cap')
  have tkept : ∀ {x : Value} {J : List ByteArray}, Texts wA x J → Texts (w3.setCell ⟨p, 1, none⟩ (.slice (some ⟨g', 0, none⟩) (s.imgs.length + 1) cap')) x J := by
    intro x J hx
    have a1 : Texts w3 x J := hx.kept hgrow (fun k t cs e hk et => own_blk_ne hrA hk (by rw [et]; decide) e)
    refine a1.kept hgs (fun k t cs e hk => ?_)
    cases e
    have e2 : t = tP := by
      have := hk.symm.trans hp3
      simp at this
      exact this.2
    rw [e2]; exact q6
  refine ⟨_, ⟨hp3.set_ 1 _, hm3.grown hgs (fun e => ?_) (fun e => ?_), ?_⟩, ?_⟩
  · cases e; exact hbb3.ne_ hp3 q4.symm rfl
  · cases e; exact hgb3.ne_ hp3 q5.symm rfl
  · refine ⟨vals ++ [u], ?_, ?_, ?_⟩
    · have := hown.kept hgs (.inr (own_blk_ne hown hp3 q1.symm))
      simpa using this
    · have := hrA.1
      simp at this ⊢
      exact this
    · intro j x J hx hJ
      have hvl : vals.length = s.imgs.length := by have := hrA.1; simpa using this
      rcases Nat.lt_or_ge j s.imgs.length with hj | hj
      · rw [List.getElem?_append_left (by omega)] at hx hJ
        have a0 : Texts wA x J := (htx j x J hx hJ).kept (grown_below hBA (Nat.le_refl _) none) (fun k t cs e => by cases e)
        exact tkept a0
      · rw [List.getElem?_append_right (by omega)] at hx hJ
        have hj0 : j - s.imgs.length = 0 := by
          have := (List.getElem?_eq_some_iff.1 hJ).1
          simp at this; omega
        rw [hj0] at hJ
        rw [show j - vals.length = 0 from by omega] at hx
        simp at hx hJ
        subst hx hJ
        exact tkept htA
  · have hsz : w.heap.size ≤ wA.heap.size := hBA.size
    refine ⟨?_, ?_, ?_, ?_, ?_, ?_, ?_⟩
    · exact hgs.os.trans (hgrow.os.trans hBA.os)
    · exact hgs.tape.trans (hgrow.tape.trans hBA.tape)
    · exact hgs.output.trans (hgrow.output.trans hBA.output)
    · exact Nat.le_trans hsz (Nat.le_trans hgrow.size hgs.size)
    · intro k hk h1 _ h3
      rw [hgs.block k (by have := hgrow.size; omega) (by intro e; cases e; exact h1 rfl), hgrow.block k (by omega) (fun e => h3 e.symm)]
      exact hBA.block k hk
    · intro k cs hk hcs
      obtain ⟨cs', a1, a2, a3⟩ := hkeep k cs hk (hcs.below hBA hcs.lt)
      exact ⟨cs', a1.grown hgs (by intro e; cases e; exact a1.ne_ hp3 q1.symm rfl), a2, a3⟩
    · intro k hk
      simp [Value.ownBlock] at hk
      subst hk
      rcases hat with h1 | h1
      · exact .inl h1
      · right; omega

theorem save_facts {w1 w2 : World} {p L : Nat} {v u : Value} {I : List ByteArray} {vals : List Value} (hu : NewTexts w1 w2 u I) (hr : w1.ownsRow 0 54 1 v L vals) (lp : p < w1.heap.size) (hc : w1.cell? ⟨p, 1, none⟩ = some v) (hf : w1.frozen? ⟨p, 1, none⟩ = false) :
    w2.cell? ⟨p, 1, none⟩ = some v ∧ Hid ((w2.alloc (.cells #[u] 54)).ownsRow 0 54 1 v L vals) ∧ (w2.alloc (.cells #[u] 54)).cell? ⟨w2.heap.size, 0, none⟩ = some u ∧ Hid ((w2.alloc (.cells #[u] 54)).heap.size = w2.heap.size + 1) ∧
      Hid (p < (w2.alloc (.cells #[u] 54)).heap.size) ∧ (w2.alloc (.cells #[u] 54)).cell? ⟨p, 1, none⟩ = some v ∧ (w2.alloc (.cells #[u] 54)).frozen? ⟨p, 1, none⟩ = false := by
  have hsz := hu.2.2.size
  have hA : (w2.alloc (.cells #[u] 54)).heap.size = w2.heap.size + 1 := by simp
  have kb : Below w1.heap.size w1 (w2.alloc (.cells #[u] 54)) := hu.2.2.alloc hsz _
  refine ⟨(hu.2.2.cell (p := ⟨p, 1, none⟩) lp).trans hc, ownsRow_below hr kb (Nat.le_refl _), (Blk.new w2 _ _).cell 0, hA, ?_, (kb.cell (p := ⟨p, 1, none⟩) lp).trans hc, (kb.frozen (p := ⟨p, 1, none⟩) lp).trans hf⟩
  unfold Hid
  omega

section
variable {w : World} {p b g : Nat} {v : Value} {s : St}
set_option maxRecDepth 100000 in
set_option maxHeartbeats 4000000 in
theorem play_save (h : IsPl 42 70 68 w p b g v s) (hL : s.imgs.length ≤ 1048576) (i size : Int) (fill : Nat) (A : Option Addr) (n c : Nat)
    (HC : ∀ w2, PMem w2 b g s.M → Calls Try.prog 22 #[.pointer (some ⟨b, 0, none⟩)] w2 fun e w' => ∃ u, e = .returned u ∧ NewTexts w2 w' u (s.M.map Sec.now)) :
    Calls Try.prog 13 #[.pointer (some ⟨p, 0, none⟩), .agg #[.int .i64 7, .int .i64 i, .int .u8 fill, .int .i64 size, .slice A n c]] w fun e w' => e = .returned (.int .i64 0) ∧ ∃ v', IsPl 42 70 68 w' p b g v' { s with imgs := s.imgs ++ [s.M.map Sec.now] } ∧ Fr w w' p g v v' s.imgs.length := by
  obtain ⟨i0, hi, hz0, hz1, hz2⟩ := info_parts infoStrs
  have hB : Below w.heap.size w (w.alloc (.cells #[.int .i64 7, .int .i64 i, .int .u8 fill, .int .i64 size, .slice A n c] 37)) := (Below.refl _ w).alloc (Nat.le_refl _) _
  obtain ⟨vals, hr, hvl, htx⟩ := h.imgs
  have Hb : Hid (s.imgs.length + 1 ≤ maxLen ∧ (s.imgs.length + 1) * 24 ≤ 140737488355328) := by unfold Hid maxLen; omega
  have hs1 : Hid (w.heap.size ≤ (w.alloc (.cells #[.int .i64 7, .int .i64 i, .int .u8 fill, .int .i64 size, .slice A n c] 37)).heap.size) := hB.size
  clear hL
  have Hc := Lib.hid HC
  clear HC
  go_enter Try.func13, Try.ntmps13
  go_wp2_with fail
  generalize (w.alloc (.cells #[.int .i64 7, .int .i64 i, .int .u8 fill, .int .i64 size, .slice A n c] 37)) = w1 at hB hs1 ⊢
  have h1 : IsPl 42 70 68 w1 p b g v s := h.below hB
  have hc0 : w1.cell? ⟨p, 0, none⟩ = some (.pointer (some ⟨b, 0, none⟩)) := h1.blk.cell 0
  have hc1 : w1.cell? ⟨p, 1, none⟩ = some v := h1.blk.cell 1
  have hf1 : w1.frozen? ⟨p, 1, none⟩ = false := h1.blk.frozen 1
  have lp : p < w1.heap.size := h1.blk.lt
  have hm1 : Hid (PMem w1.drew b g s.M) := h1.mem.below (Below.refl w1.heap.size w1).drew h1.mem.lt.1 h1.mem.lt.2
  have hr1 : Hid (w1.drew.ownsRow 0 54 1 v s.imgs.length vals) := ownsRow_below hr (hB.drew) (Nat.le_refl _)
  have hpv : Hid (v.ownBlock ≠ some p) := own_blk_ne hr h.blk (by decide)
  have H := Lib.hid h
  have HR := Lib.hid hr
  have HT := Lib.hid htx
  have HB := Lib.hid hB
  clear h hr htx h1 hB hvl
  have HB1 := Lib.hid HB.out.drew
  go_region_law (first | (refine step_append_keep _ (by rfl) _ _ _ (by rfl) 0 54 i0 _ 24 Try.underlying40 hi hz0 hz1 hz2 rfl v s.imgs.length vals (by rfl) kr.out _ _ _ (by rfl) ku (by rfl) (by rfl) Hb.out.1 Hb.out.2 (Nat.zero_le _) _ kh.out ?_; intro g' cap' w3 hown hgrow hat hlt hkeep; have c3 := hgrow.cell kc (fun e => hpv.out e.symm); have f3 := (hgrow.frozen_far ⟨p, 1, none⟩ kp.out (fun e => hpv.out e.symm)).trans kf) | (go_simp; go_wp2_with (go_at_call 22; refine (Hc.out _ hm1.out).mono ?_; rintro e w2 ⟨u, rfl, hu⟩; obtain ⟨A1, n1, c1, rfl⟩ := news_slice hu; obtain ⟨kc2, kr, ku, kh, kp, kc, kf⟩ := save_facts hu hr1.out lp hc1 hf1; have Hu := Lib.hid hu; clear hu)))
  all_goals go_wp2
  all_goals go_ret
  all_goals exact ⟨rfl, save_end H.out HB1.out HB1.out.size Hu.out HR.out HT.out hown hgrow hat hkeep (by decide) (by decide) (by decide) (by decide) (by decide) (by decide)⟩
end
end Go.Proofs.Ytgieiehpnjhkoaa
