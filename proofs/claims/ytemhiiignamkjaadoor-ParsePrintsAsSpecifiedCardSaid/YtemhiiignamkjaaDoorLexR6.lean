/-
  The walk of the specification's Tokens: it returns what the scan finds.
-/
import Derived.Test.YtemhiiignamkjaaDoorLexR5
namespace Go.Proofs.YtemhiiignamkjaaDoor
open Go.RowKit LexP

theorem tokenL_kind (l : List UInt8) : (tokenL l).1 ≠ 0 := by
  unfold tokenL
  split
  · simp
  · split
    · simp
    · split <;> simp

set_option maxRecDepth 100000 in
set_option maxHeartbeats 4000000 in
theorem ref_Tokens_any (s : ByteArray) (w : World) (hs : s.size ≤ 1048576) :
    Calls Tryd.prog 20 #[.string s] w (RefPost w (tokens s)) := by
  by_cases hbig : 4000 < s.size
  · go_enter Tryd.func20, Tryd.ntmps20
    go_wp2_with fail
    refine bodyPost_ret (results_c (P := Tryd.prog) rfl _ _ w.heap.size 44 _ _ rfl (Blk.new w 44 _) Tryd.underlying44 rfl (by kernel_rfl)) rfl ?_
    exact ⟨_, 0, 2, rfl, by unfold tokens TokRes; rw [if_pos hbig]; exact ⟨rfl, rfl, rfl⟩, (Below.refl _ _).alloc (Nat.le_refl _) _⟩
  · obtain ⟨i0, hi, hz0, hz1, hz2⟩ := info_parts tokInfo
    have hres : Hid (tokens s = scan s (skipB false s.data.toList) []) := by unfold Hid tokens; rw [if_neg hbig]
    have hsk := skipB_le false s.data.toList
    rw [len_bytes] at hsk
    have hc0 : Hid (∀ w, Calls Tryd.prog 48 #[.string s, .int .i64 0] w fun e w' => e = .returned (.int .i64 (skipB false s.data.toList)) ∧ w = w') := fun w =>
      (ref_skip_any s 0 w hs (Nat.zero_le _)).mono fun e w' h => ⟨by rw [h.1]; simp, h.2⟩
    go_enter Tryd.func20, Tryd.ntmps20
    go_wp2_with (go_at_call 48; refine (hc0.out _).mono ?_; rintro e w' ⟨rfl, rfl⟩)
    go_loopw [3, 4, 5] (fun v a _ wr => ∃ (k : Nat) (out : List Tok), k ≤ s.size ∧ out.length ≤ k ∧ a = .int .i64 k ∧ wr.ownsRow (w.heap.size + 1) 47 4 v out.length (toksCells out) ∧ Below w.heap.size w wr ∧ Blk wr w.heap.size 44 #[.slice none 0 0, .int .i64 0, .int .i64 0] ∧ Hid (tokens s = scan s k out)) (fun _ a _ _ => s.size - (intOf a).toNat)
    case atStart => exact ⟨_, [], hsk, Nat.zero_le _, rfl, World.ownsRow_nil _ _ _ _, (Below.refl _ _).alloc (Nat.le_refl _) _, Blk.new _ _ _, hres⟩
    case round =>
      obtain ⟨k, out, hk, hol, rfl, hown, hB, hblk, hsc⟩ := hrel
      have hBs := hblk.lt
      by_cases hlt : k < s.size
      · have hle := tokenL_le (s.data.toList.drop k)
        rw [List.length_drop, len_bytes] at hle
        have hval := tokenL_val (s.data.toList.drop k)
        have hk0 := tokenL_kind (s.data.toList.drop k)
        obtain ⟨n, hn⟩ : ∃ n, (tokenL (s.data.toList.drop k)).2.1 = n := ⟨_, rfl⟩
        obtain ⟨T, hT⟩ : ∃ T, tokAt s k = T := ⟨_, rfl⟩
        have hTn : Hid ((tokenL (s.data.toList.drop k)).2.2 = T.n) := by rw [← hT]; rfl
        have hTp : Hid (T.pos = k) := by rw [← hT]; rfl
        have hTk : T.kind ≠ 0 := by rw [← hT]; exact hk0
        rw [hn] at hle
        have hts : T.text.size = n := by
          rw [← hT]; unfold tokAt; rw [hn, ByteArray.size_extract]; omega
        have Hn := Lib.hid hn
        have HT := Lib.hid hT
        have ho : Hid (oneT s k = if n = 0 then ⟨0, ⟨#[]⟩, 0, 0⟩ else T) := by unfold Hid oneT; rw [Hn.out, HT.out]
        clear hn hT hval hk0
        by_cases h0 : n = 0
        · subst h0
          have ho2 : Hid (oneT s k = ⟨0, ⟨#[]⟩, 0, 0⟩) := by unfold Hid; rw [ho.out, if_pos rfl]
          clear hts
          go_wp2_with fail
          refine (ref_one_any s k _ hs hlt).mono ?_
          rintro e w1 ⟨rfl, hb1⟩
          rw [ho2.out]
          have hblk1 := hblk.below hb1 hBs
          have hc1 := hblk1.cell 0
          have hc2 := hblk1.cell 1
          have hc3 := hblk1.cell 2
          have hf1 := hblk1.frozen 0
          have hf2 := hblk1.frozen 1
          have hf3 := hblk1.frozen 2
          simp at hc1 hc2 hc3
          have hl1 := hblk1.lt
          unfold tokAgg
          go_wp2_with fail
          refine bodyPost_ret (results_c (P := Tryd.prog) rfl _ _ w.heap.size 44 #[.slice none 0 0, .int .i64 k, .int .i64 3] _ rfl (((hblk1.set_ 0 _).set_ 1 _).set_ 2 _ |>.alloc _) Tryd.underlying44 rfl (by kernel_rfl)) rfl ?_
          exact ⟨_, k, 3, rfl, by rw [hsc.out, scan_syntax _ _ _ hlt Hn.out]; exact ⟨rfl, rfl, rfl⟩,
            ((((hB.trans (hb1.mono hB.size)).setCell (p := ⟨w.heap.size, 0, none⟩) (Nat.le_refl _) _).setCell (p := ⟨w.heap.size, 1, none⟩) (Nat.le_refl _) _).setCell (p := ⟨w.heap.size, 2, none⟩) (Nat.le_refl _) _).alloc (by simp; omega) _⟩
        · have ho2 : Hid (oneT s k = T) := by unfold Hid; rw [ho.out, if_neg h0]
          have t0 : ((T.kind : Int) == 0) = false := beq_f (by omega)
          by_cases hbg : 1099511627776 < T.n
          · go_wp2_with fail
            refine (ref_one_any s k _ hs hlt).mono ?_
            rintro e w1 ⟨rfl, hb1⟩
            rw [ho2.out]
            have hblk1 := hblk.below hb1 hBs
            have hc1 := hblk1.cell 0
            have hc2 := hblk1.cell 1
            have hc3 := hblk1.cell 2
            have hf1 := hblk1.frozen 0
            have hf2 := hblk1.frozen 1
            have hf3 := hblk1.frozen 2
            simp at hc1 hc2 hc3
            have hl1 := hblk1.lt
            unfold tokAgg
            go_wp2_with fail
            refine bodyPost_ret (results_c (P := Tryd.prog) rfl _ _ w.heap.size 44 #[.slice none 0 0, .int .i64 k, .int .i64 2] _ rfl (((hblk1.set_ 0 _).set_ 1 _).set_ 2 _ |>.alloc _) Tryd.underlying44 rfl (by kernel_rfl)) rfl ?_
            exact ⟨_, k, 2, rfl, by rw [hsc.out, scan_limit _ _ _ hlt (by rw [Hn.out]; exact h0) (by rw [hTn.out]; exact hbg)]; exact ⟨rfl, rfl, rfl⟩,
              ((((hB.trans (hb1.mono hB.size)).setCell (p := ⟨w.heap.size, 0, none⟩) (Nat.le_refl _) _).setCell (p := ⟨w.heap.size, 1, none⟩) (Nat.le_refl _) _).setCell (p := ⟨w.heap.size, 2, none⟩) (Nat.le_refl _) _).alloc (by simp; omega) _⟩
          · go_wp2_with fail
            refine (ref_one_any s k _ hs hlt).mono ?_
            rintro e w1 ⟨rfl, hb1⟩
            rw [ho2.out]
            have hblk1 := hblk.below hb1 hBs
            have hl1 := hblk1.lt
            have hown1 := ownsRow_below hown hb1 (Nat.le_refl _)
            have hlen : Hid (out.length + 1 ≤ maxLen) := by unfold Hid maxLen; omega
            unfold tokAgg
            go_wp2_with (at_builtin; refine wpList_append_own _ rfl _ _ 42 rfl (w.heap.size + 1) 47 i0 _ 4 40 Tryd.underlying42 hi hz0 hz1 hz2 rfl (by decide) _ out.length (toksCells out) rfl ((hown1.alloc _).alloc _) ⟨w1.heap.size + 1, 0, none⟩ 1 1 [.int .i64 T.kind, .string T.text, .int .i64 T.n, .int .i64 T.pos] rfl rfl ?c1 ?c2 ?c3 ?c4 ?c5 ?_)
            case c1 =>
              have := news_cells (Blk.new (w1.alloc (.cells #[.int .i64 T.kind, .string T.text, .int .i64 T.n, .int .i64 T.pos] 47)) 47 #[.int .i64 T.kind, .string T.text, .int .i64 T.n, .int .i64 T.pos])
              rw [World.size_alloc] at this
              exact this
            case c2 => simp [Value.oneCell']
            case c3 => exact hlen.out
            case c4 => omega
            case c5 => simp; omega
            intro v' w3 hown3 hg3 _
            have hB3 : Below w.heap.size w w3 := (((hB.trans (hb1.mono hB.size)).alloc (by omega) _).alloc (by simp; omega) _).grown hg3 (by simp; omega) (fun g e => by have := (hown1.lt g e).1; omega)
            have hblk3 : Blk w3 w.heap.size 44 #[.slice none 0 0, .int .i64 0, .int .i64 0] := ((hblk1.alloc _).alloc _).grown hg3 (fun e => by have := (hown1.lt _ e.symm).1; omega)
            have htb : Blk w3 w1.heap.size 47 #[.int .i64 T.kind, .string T.text, .int .i64 T.n, .int .i64 T.pos] := ((Blk.new w1 _ _).alloc _).grown hg3 (fun e => by have := (hown1.lt _ e.symm).2; omega)
            have hct := htb.cell 1
            simp at hct
            clear hg3
            have hnx2 : Hid (next s k = k + n + skipB false (s.data.toList.drop (k + n))) := by unfold Hid next; rw [Hn.out]
            have hsk2 := skipB_le false (s.data.toList.drop (k + n))
            rw [List.length_drop, len_bytes] at hsk2
            have hsc2 : Hid (tokens s = scan s (k + n + skipB false (s.data.toList.drop (k + n))) (out ++ [T])) := by
              unfold Hid
              rw [hsc.out, scan_step _ _ _ hlt (by rw [Hn.out]; exact h0) (by rw [hTn.out]; exact hbg), HT.out, hnx2.out]
            have hsk3 : Hid (∀ w, Calls Tryd.prog 48 #[.string s, .int .i64 ((k : Int) + n)] w fun e w' => e = .returned (.int .i64 ((k : Int) + n + skipB false (s.data.toList.drop (k + n)))) ∧ w = w') := fun w =>
              (ref_skip_any s (k + n) w hs (by omega)).mono fun e w' h => ⟨by rw [h.1]; simp, h.2⟩
            go_wp2_with (go_at_call 48; refine (hsk3.out _).mono ?_; rintro e w' ⟨rfl, rfl⟩)
            go_roundw
            case rel =>
              refine ⟨k + n + skipB false (s.data.toList.drop (k + n)), out ++ [T], by omega, by simp; omega, by go_num, ?_, hB3, hblk3, hsc2⟩
              rw [toksCells_snoc, List.length_append]
              exact hown3
            case measure => simp [intOf]; omega
      · have hend : Hid (tokens s = .ok out) := by unfold Hid; rw [hsc.out, scan_end _ _ _ (by omega)]
        have hc1 := hblk.cell 0
        have hc2 := hblk.cell 1
        have hc3 := hblk.cell 2
        have hf1 := hblk.frozen 0
        have hf2 := hblk.frozen 1
        have hf3 := hblk.frozen 2
        simp at hc1 hc2 hc3
        have hform := Joins.ownsRow_forms hown
        have hown' := Lib.hid hown
        rcases hform with ⟨rfl, hz⟩ | ⟨g, cap, rfl⟩
        all_goals
          go_wp2_with fail
          refine bodyPost_ret (results_c (P := Tryd.prog) rfl _ _ w.heap.size 44 #[_, .int .i64 0, .int .i64 0] _ rfl (((hblk.set_ 0 _).set_ 1 _).set_ 2 _) Tryd.underlying44 rfl (by kernel_rfl)) rfl ?_
          refine ⟨_, 0, 0, rfl, ?_, ((hB.setCell (p := ⟨w.heap.size, 0, none⟩) (Nat.le_refl _) _).setCell (p := ⟨w.heap.size, 1, none⟩) (Nat.le_refl _) _).setCell (p := ⟨w.heap.size, 2, none⟩) (Nat.le_refl _) _⟩
          rw [hend.out]
          refine ⟨rfl, rfl, ?_⟩
          exact Joins.ownsRow_le (ownsRow_setCell_below (ownsRow_setCell_below (ownsRow_setCell_below hown'.out (Nat.lt_succ_self _) _) (Nat.lt_succ_self _) _) (Nat.lt_succ_self _) _) (Nat.le_succ _)
end Go.Proofs.YtemhiiignamkjaaDoor
