/-
  Layer 23 (device): an empty slot; Battery.
  Layer 23 (device): slices.Clone of texts and of bools. (Written by a small program.)
  Layer 23 (device): the text of an operation.
  Layer 23 (device): the text of an operation, one byte short.
  Layer 23 (device): what lies beside a device that is operated; a device behind the arguments' world.
-/
import Derived.Test.YtgenifcikfbfhaaG4
import Derived.Test.YtgenifcikfbfhaaG3
namespace Go.Proofs.Ytgenifcikfbfhaa
open Go.RowKit Go.Shelf
attribute [local go_sem] Oper.semAt_some

theorem rep32 (w : World) : Calls Try.prog 72 #[.string ⟨#[0]⟩, .int .i64 32] w fun e w' => e = .returned (.string zero32) ∧ Below w.heap.size w w' := by
  refine (Try.strings_Repeat ⟨#[0]⟩ 32 w (by omega) (by show 1 * 32 ≤ 140737488355328; omega)).mono ?_
  rintro e w' ⟨rfl, hB⟩
  refine ⟨?_, hB⟩
  have h : (⟨(Lib.repeatL (⟨#[0]⟩ : ByteArray).data.toList 32).toArray⟩ : ByteArray) = zero32 := by kernel_rfl
  rw [h]
set_option maxRecDepth 100000 in
set_option maxHeartbeats 1600000 in
theorem empty_any (w : World) : Calls Try.prog 58 #[] w fun e w' => e = .returned (.string zero32) ∧ Below w.heap.size w w' := by
  go_enter Try.func58, Try.ntmps58
  go_wp2_with (first | (go_at_call 72; refine (rep32 _).mono ?_; rintro e w1 ⟨rfl, hB1⟩))
  go_ret
  exact ⟨rfl, hB1⟩
/-- The slots behind k rounds of Battery. -/
def emptied (l : List ByteArray) (k : Nat) : List ByteArray := List.replicate k zero32 ++ l.drop k
theorem emptied_len (l : List ByteArray) (k : Nat) (h : k ≤ l.length) : (emptied l k).length = l.length := by simp [emptied]; omega
theorem emptied_set (l : List ByteArray) (k : Nat) (h : k < l.length) : (emptied l k).set k zero32 = emptied l (k + 1) := by
  unfold emptied
  rw [List.set_append_right _ _ (by simp), List.length_replicate, Nat.sub_self, List.drop_eq_getElem_cons h, List.set_cons_zero, List.replicate_succ', List.append_assoc]
  rfl
section
variable {w : World} {d b g sb sc fb fc : Nat} {D : Dev}
set_option maxRecDepth 100000 in
set_option maxHeartbeats 1600000 in
theorem dBattery_any (h : IsDev w d b g sb sc fb fc D) (hN : D.slots.length ≤ 1048576) :
    Calls Try.prog 35 #[.pointer (some ⟨d, 0, none⟩)] w fun e w' => e = .returned (.tuple #[]) ∧ IsDev w' d b g sb sc fb fc { D with slots := List.replicate D.slots.length zero32 } ∧ DFr w w' d g sb fb := by
  obtain ⟨c0, c1, c2, c3, c4, c5, c6⟩ := h.cells
  have H := Lib.hid h
  obtain ⟨N, hNN⟩ : ∃ N, D.slots.length = N := ⟨_, rfl⟩
  rw [hNN] at c0 hN
  have HN := Lib.hid hNN
  clear h hNN
  go_enter Try.func35, Try.ntmps35
  go_wp2_with fail
  go_loopw [9] (fun i wr => ∃ k : Nat, k ≤ N ∧ i = .int .i64 k ∧ IsDev wr d b g sb sc fb fc { D with slots := emptied D.slots k } ∧ DFr w wr d g sb fb) (fun i _ => N - (intOf i).toNat)
  case atStart => exact ⟨0, Nat.zero_le _, rfl, H.out, DFr.refl _⟩
  case round =>
    obtain ⟨k, hk, rfl, hD, hF⟩ := hrel
    by_cases hkN : k < N
    · have hd : decide (k < N) = true := decide_eq_true hkN
      have hkl : k < D.slots.length := by have := HN.out; omega
      have hel : (emptied D.slots k).length = N := (emptied_len _ _ (by omega)).trans HN.out
      have HD := Lib.hid hD
      have HF := Lib.hid hF
      have hk0 : (0 : Int) ≤ (k : Int) := by omega
      have hk1 : (k : Int) < (N : Int) := by omega
      have hwk : wrap64 ((k : Int) + 1) = (k : Int) + 1 := by unfold wrap64; omega
      have y0 := hD.blk.cell 0
      dsimp only at y0
      rw [hel] at y0
      have hstep : Hid (∀ w1, Below wr.heap.size wr.drew w1 → w1.cell? ⟨d, 0, none⟩ = some (.slice (some ⟨sb, 0, none⟩) N sc) ∧ (∃ o, w1.cell? ⟨sb, k, none⟩ = some o) ∧ w1.frozen? ⟨sb, k, none⟩ = false ∧ (w1.setCell ⟨sb, k, none⟩ (.string zero32)).cell? ⟨d, 0, none⟩ = some (.slice (some ⟨sb, 0, none⟩) N sc) ∧
          IsDev (w1.setCell ⟨sb, k, none⟩ (.string zero32)) d b g sb sc fb fc { D with slots := emptied D.slots (k + 1) } ∧ DFr w (w1.setCell ⟨sb, k, none⟩ (.string zero32)) d g sb fb) := by
        intro w1 hB
        have hb : Below wr.heap.size wr w1 := (Below.refl _ wr).drew.trans hB
        have h1 := HD.out.below hb
        obtain ⟨s1, s2⟩ := h1.slotSet k zero32
        dsimp only at s1
        rw [emptied_set _ _ hkl] at s1
        have z0 := h1.blk.cell 0
        have z1 := s1.blk.cell 0
        dsimp only at z0 z1
        rw [hel] at z0
        rw [emptied_len _ _ (by omega), HN.out] at z1
        have zc : w1.cell? ⟨sb, k, none⟩ = some (.string ((emptied D.slots k).getD k ⟨#[]⟩)) := by
          have e1 := h1.srow.cellAt k (by dsimp only; rw [hel]; omega)
          have e2 : (emptied D.slots k)[k]? = some ((emptied D.slots k).getD k ⟨#[]⟩) := by
            rw [List.getD_eq_getElem?_getD, List.getElem?_eq_getElem (by omega)]
            rfl
          rw [e1]
          dsimp only
          unfold strCells
          rw [List.getElem?_map, e2]
          rfl
        exact ⟨z0, ⟨_, zc⟩, h1.srow.frozenAt k, z1, s1, DFr.trans (w' := wr) HF.out (DFr.trans (w' := w1) (DFr.ofBelow hb) (DFr.ofGrown s2 (.inr (.inr (.inl rfl)))))⟩
      have Hel := Lib.hid hel
      clear hD hF hel hkl
      go_wp2_with fail
      go_region_held3 (fun w' => w'.cell? ⟨d, 0, none⟩ = some (.slice (some ⟨sb, 0, none⟩) N sc)) (go_keep)
        (first | (go_at_call 58; refine (empty_any _).mono ?_; rintro e w1 ⟨rfl, hB1⟩; obtain ⟨a0, ⟨o1, a1⟩, a2, a3, hI, hFr⟩ := hstep.out _ hB1))
      go_wp2_with fail
      go_roundw
      case rel => exact ⟨k + 1, by omega, by go_num, hI, hFr⟩
      case measure => simp [intOf]; omega
    · have hd : decide (k < N) = false := decide_eq_false hkN
      have hkN2 : k = N := by omega
      go_wp2_with fail
      go_end0
      refine ⟨by simp, ?_, hF⟩
      have e : emptied D.slots k = List.replicate D.slots.length zero32 := by
        unfold emptied
        rw [hkN2, ← HN.out, List.drop_length, List.append_nil]
      rw [e] at hD
      exact hD
end
end Go.Proofs.Ytgenifcikfbfhaa
namespace Go.Proofs.Ytgenifcikfbfhaa
open Go.RowKit Go.Shelf
attribute [local go_sem] Oper.semAt_some

theorem infoBool : (Try.prog.info? 4).map (fun i => (i.zero, i.size, i.bytes)) = some (some (.bool false), 1, 1) := by kernel_rfl
set_option maxHeartbeats 4000000 in
set_option maxRecDepth 100000 in
theorem slCloneS_any (w : World) (n cap gb : Nat) (xs : List Value) (h : w.ownsRow 0 9 1 (.slice (some ⟨gb, 0, none⟩) n cap) n xs) (h1 : ∀ u ∈ xs, u.oneCell' = true) (hN : n ≤ 1048576) (hn0 : 0 < n) :
    Calls Try.prog 49 #[.slice (some ⟨gb, 0, none⟩) n cap] w fun e w' => ∃ g' cap', e = .returned (.slice (some ⟨g', 0, none⟩) n cap') ∧ w'.ownsRow w.heap.size 9 1 (.slice (some ⟨g', 0, none⟩) n cap') n xs ∧ Below w.heap.size w w' := by
  obtain ⟨i0, hi, hz0, hz1, hz2⟩ := info_parts infoString
  have hle : Hid (0 + n ≤ maxLen) := by unfold Hid maxLen; omega
  have Hxs := Lib.hid h.1
  have H := Lib.hid h
  have H1 := Lib.hid h1
  clear h h1
  have hnil : ∀ wx, (binOp .eql 31 (.slice (some ⟨gb, 0, none⟩) n cap) (.slice none 0 0)).run Try.prog wx = .ok (.bool false) wx := fun wx => by
    have := Lib.run_eql_slice_nil (P := Try.prog) wx 31 9 (some ⟨gb, 0, none⟩) n cap 0 0 Try.underlying31
    simpa using this
  go_enter Try.func49, Try.ntmps49
  go_wp2_with (at_builtin; refine wpList_append_own _ rfl _ _ 31 rfl w.heap.size 9 i0 _ 1 16 Try.underlying31 hi hz0 hz1 hz2 rfl (by decide) _ 0 [] rfl ?c0 ⟨gb, 0, none⟩ n cap xs rfl Hxs.out ?c1 H1.out hle.out ?c4 ?c5 ?_)
  case c0 => exact ⟨rfl, .inr ⟨w.heap.size, 0, #[], rfl, Nat.le_refl _, Blk.new w _ _, Nat.le_refl _, by unfold maxLen; omega, rfl, rfl⟩⟩
  case c1 =>
    intro j u hu
    have hj := (List.getElem?_eq_some_iff.1 hu).1
    rw [Hxs.out] at hj
    have := (H.out.alloc (.cells #[] 9)).cellAt j hj
    rw [hu] at this
    rw [← this]
    congr 1
    simp [Addr.add]
    intro e; exact e.symm
  case c4 => omega
  case c5 => simp
  intro v' w' hown hg _
  have hB : Below w.heap.size w w' := ((Below.refl _ w).alloc (Nat.le_refl _) _).grown hg (by simp) (fun k e => by cases e; exact Nat.le_refl _)
  have hown2 : w'.ownsRow w.heap.size 9 1 v' n xs := by simpa using hown
  obtain ⟨g', cap', rfl⟩ : ∃ g' cap', v' = .slice (some ⟨g', 0, none⟩) n cap' := by
    rcases hown2.2 with ⟨_, h0⟩ | ⟨g', cap', _, e, _⟩
    · omega
    · exact ⟨_, _, e⟩
  have Hown := Lib.hid hown2
  clear hg hown hown2
  go_wp2_with fail
  go_ret
  exact ⟨_, _, rfl, Hown.out, hB⟩

set_option maxHeartbeats 4000000 in
set_option maxRecDepth 100000 in
theorem slCloneB_any (w : World) (n cap gb : Nat) (xs : List Value) (h : w.ownsRow 0 4 1 (.slice (some ⟨gb, 0, none⟩) n cap) n xs) (h1 : ∀ u ∈ xs, u.oneCell' = true) (hN : n ≤ 1048576) (hn0 : 0 < n) :
    Calls Try.prog 50 #[.slice (some ⟨gb, 0, none⟩) n cap] w fun e w' => ∃ g' cap', e = .returned (.slice (some ⟨g', 0, none⟩) n cap') ∧ w'.ownsRow w.heap.size 4 1 (.slice (some ⟨g', 0, none⟩) n cap') n xs ∧ Below w.heap.size w w' := by
  obtain ⟨i0, hi, hz0, hz1, hz2⟩ := info_parts infoBool
  have hle : Hid (0 + n ≤ maxLen) := by unfold Hid maxLen; omega
  have Hxs := Lib.hid h.1
  have H := Lib.hid h
  have H1 := Lib.hid h1
  clear h h1
  have hnil : ∀ wx, (binOp .eql 57 (.slice (some ⟨gb, 0, none⟩) n cap) (.slice none 0 0)).run Try.prog wx = .ok (.bool false) wx := fun wx => by
    have := Lib.run_eql_slice_nil (P := Try.prog) wx 57 4 (some ⟨gb, 0, none⟩) n cap 0 0 Try.underlying57
    simpa using this
  go_enter Try.func50, Try.ntmps50
  go_wp2_with (at_builtin; refine wpList_append_own _ rfl _ _ 57 rfl w.heap.size 4 i0 _ 1 1 Try.underlying57 hi hz0 hz1 hz2 rfl (by decide) _ 0 [] rfl ?c0 ⟨gb, 0, none⟩ n cap xs rfl Hxs.out ?c1 H1.out hle.out ?c4 ?c5 ?_)
  case c0 => exact ⟨rfl, .inr ⟨w.heap.size, 0, #[], rfl, Nat.le_refl _, Blk.new w _ _, Nat.le_refl _, by unfold maxLen; omega, rfl, rfl⟩⟩
  case c1 =>
    intro j u hu
    have hj := (List.getElem?_eq_some_iff.1 hu).1
    rw [Hxs.out] at hj
    have := (H.out.alloc (.cells #[] 4)).cellAt j hj
    rw [hu] at this
    rw [← this]
    congr 1
    simp [Addr.add]
    intro e; exact e.symm
  case c4 => omega
  case c5 => simp
  intro v' w' hown hg _
  have hB : Below w.heap.size w w' := ((Below.refl _ w).alloc (Nat.le_refl _) _).grown hg (by simp) (fun k e => by cases e; exact Nat.le_refl _)
  have hown2 : w'.ownsRow w.heap.size 4 1 v' n xs := by simpa using hown
  obtain ⟨g', cap', rfl⟩ : ∃ g' cap', v' = .slice (some ⟨g', 0, none⟩) n cap' := by
    rcases hown2.2 with ⟨_, h0⟩ | ⟨g', cap', _, e, _⟩
    · omega
    · exact ⟨_, _, e⟩
  have Hown := Lib.hid hown2
  clear hg hown hown2
  go_wp2_with fail
  go_ret
  exact ⟨_, _, rfl, Hown.out, hB⟩

end Go.Proofs.Ytgenifcikfbfhaa
namespace Go.Proofs.Ytgenifcikfbfhaa
open Go.RowKit Go.Shelf
attribute [local go_sem] Oper.semAt_some

theorem infoByte : (Try.prog.info? 5).map (fun i => (i.zero, i.size, i.bytes)) = some (some (.int .u8 0), 1, 1) := by kernel_rfl
/-- The first k bytes of an operation's text, as cells. -/
def dcells (fill k : Nat) : List Value := (List.range k).map fun (i : Nat) => Value.int .u8 (((fill : Int) + (i : Int) % 5) % 256)
theorem dconv {w : World} {base k fill : Nat} {v : Value} (h : w.ownsRow base 5 1 v k (dcells fill k)) (hk : 0 < k) : (convert 38 9 v).run Try.prog w = .ok (.string (dtext fill false k)) w := by
  rcases h.2 with ⟨rfl, h0⟩ | ⟨g, cap, cur, rfl, _, hg, hnc, hcm, hcs, ht⟩
  · omega
  · have hc := run_convert_bytes_back (P := Try.prog) w 38 9 5 ⟨g, 0, none⟩ cap ((List.range k).map fun i => UInt8.ofNat (fill + i % 5)) Try.underlying38 Try.underlying5 Try.underlying9 (fun j hj => by
      have hj' : j < k := by simpa using hj
      refine h.cells (g := g) rfl j _ ?_
      unfold dcells
      rw [List.getElem?_map, List.getElem?_range hj']
      simp)
    rw [List.length_map, List.length_range] at hc
    rw [hc]
    unfold dtext
    simp
set_option maxRecDepth 100000 in
set_option maxHeartbeats 1600000 in
theorem dText_long (w : World) (kind a q : Int) (fill N : Nat) (_hfill : fill < 256) (hN : N ≤ 64) (hN0 : 0 < N) (v : Value) (hv : ∃ A n c, v = .slice A n c) :
    Calls Try.prog 24 #[.agg #[.int .i64 kind, .int .i64 a, .int .i64 q, .int .u8 fill, .bool false, v], .int .i64 N] w fun e w' => e = .returned (.string (dtext fill false N)) ∧ Below w.heap.size w w' := by
  obtain ⟨A, n, c, rfl⟩ := hv
  obtain ⟨i0, hi, hz0, hz1, hz2⟩ := info_parts infoByte
  go_enter Try.func24, Try.ntmps24
  go_wp2_with fail
  go_loopw [5, 6] (fun sv i wr => ∃ k : Nat, k ≤ N ∧ i = .int .i64 k ∧ wr.ownsRow (w.heap.size + 1) 5 1 sv k (dcells fill k) ∧ Blk wr w.heap.size 44 #[.int .i64 kind, .int .i64 a, .int .i64 q, .int .u8 fill, .bool false, .slice A n c] ∧ Below w.heap.size w wr) (fun _ i _ => N - (intOf i).toNat)
  case atStart => exact ⟨0, Nat.zero_le _, rfl, World.ownsRow_nil _ _ _ _, Blk.new w _ _, (Below.refl _ w).alloc (Nat.le_refl _) _⟩
  case round =>
    obtain ⟨k, hk, rfl, hrow, hop, hB⟩ := hrel
    have hc3 := hop.cell 3
    have Hrow := Lib.hid hrow
    clear hrow
    by_cases hkl : k < N
    · have hlt0 := hop.lt
      go_wp2_with (at_builtin; refine wpList_append_own _ rfl _ _ 38 rfl (w.heap.size + 1) 5 i0 _ 1 1 Try.underlying38 hi hz0 hz1 hz2 rfl (by decide) _ k (dcells fill k) rfl (Hrow.out.alloc _) ⟨wr.heap.size, 0, none⟩ 1 1 [.int .u8 (((fill : Int) + (k : Int) % 5) % 256)] rfl rfl ?c1 ?c2 ?c3 ?c4 ?c5 ?_)
      case c1 => exact cell_one_new _ _ _
      case c2 => simp [Value.oneCell']
      case c3 => unfold maxLen; omega
      case c4 => omega
      case c5 => have := hB.size; simp; omega
      intro v' w' hown hg _
      have hop2 := (hop.alloc (.cells #[.int .u8 (((fill : Int) + (k : Int) % 5) % 256)] 5)).grown hg (fun e => by have := (Hrow.out.lt w.heap.size e.symm).1; omega)
      have hB2 : Below w.heap.size w w' := (hB.alloc hB.size _).grown hg (by have := hB.size; simp; omega) (fun k e => by have := (Hrow.out.lt k e).1; omega)
      have Hown : Hid (w'.ownsRow (w.heap.size + 1) 5 1 v' (k + 1) (dcells fill (k + 1))) := by
        unfold Hid dcells
        rw [List.range_succ, List.map_append]
        exact hown
      clear hown hg
      go_wp2_with fail
      go_roundw
      case rel => exact ⟨k + 1, by omega, by go_num, Hown.out, hop2, hB2⟩
      case measure => simp [intOf]; omega
    · obtain rfl : k = N := by omega
      have hcv := dconv Hrow.out hN0
      go_wp2_with fail
      go_ret
      exact ⟨rfl, hB⟩
end Go.Proofs.Ytgenifcikfbfhaa
namespace Go.Proofs.Ytgenifcikfbfhaa
open Go.RowKit Go.Shelf
attribute [local go_sem] Oper.semAt_some

set_option maxRecDepth 100000 in
set_option maxHeartbeats 1600000 in
theorem dText_short (w : World) (kind a q : Int) (fill N : Nat) (_hfill : fill < 256) (hN : N ≤ 64) (hN0 : 0 < N) (v : Value) (hv : ∃ A n c, v = .slice A n c) :
    Calls Try.prog 24 #[.agg #[.int .i64 kind, .int .i64 a, .int .i64 q, .int .u8 fill, .bool true, v], .int .i64 ((N : Int) + 1)] w fun e w' => e = .returned (.string (dtext fill true (N + 1))) ∧ Below w.heap.size w w' := by
  obtain ⟨A, n, c, rfl⟩ := hv
  obtain ⟨i0, hi, hz0, hz1, hz2⟩ := info_parts infoByte
  have hw64 : wrap64 ((N : Int) + 1 - 1) = (N : Int) := by unfold wrap64; omega
  have hdt : dtext fill true (N + 1) = dtext fill false N := by unfold dtext; simp
  rw [hdt]
  clear hdt
  go_enter Try.func24, Try.ntmps24
  go_wp2_with fail
  go_loopw [5, 6] (fun sv i wr => ∃ k : Nat, k ≤ N ∧ i = .int .i64 k ∧ wr.ownsRow (w.heap.size + 1) 5 1 sv k (dcells fill k) ∧ Blk wr w.heap.size 44 #[.int .i64 kind, .int .i64 a, .int .i64 q, .int .u8 fill, .bool true, .slice A n c] ∧ Below w.heap.size w wr) (fun _ i _ => N - (intOf i).toNat)
  case atStart => exact ⟨0, Nat.zero_le _, rfl, World.ownsRow_nil _ _ _ _, Blk.new w _ _, (Below.refl _ w).alloc (Nat.le_refl _) _⟩
  case round =>
    obtain ⟨k, hk, rfl, hrow, hop, hB⟩ := hrel
    have hc3 := hop.cell 3
    have Hrow := Lib.hid hrow
    clear hrow
    by_cases hkl : k < N
    · have hlt0 := hop.lt
      go_wp2_with (at_builtin; refine wpList_append_own _ rfl _ _ 38 rfl (w.heap.size + 1) 5 i0 _ 1 1 Try.underlying38 hi hz0 hz1 hz2 rfl (by decide) _ k (dcells fill k) rfl (Hrow.out.alloc _) ⟨wr.heap.size, 0, none⟩ 1 1 [.int .u8 (((fill : Int) + (k : Int) % 5) % 256)] rfl rfl ?c1 ?c2 ?c3 ?c4 ?c5 ?_)
      case c1 => exact cell_one_new _ _ _
      case c2 => simp [Value.oneCell']
      case c3 => unfold maxLen; omega
      case c4 => omega
      case c5 => have := hB.size; simp; omega
      intro v' w' hown hg _
      have hop2 := (hop.alloc (.cells #[.int .u8 (((fill : Int) + (k : Int) % 5) % 256)] 5)).grown hg (fun e => by have := (Hrow.out.lt w.heap.size e.symm).1; omega)
      have hB2 : Below w.heap.size w w' := (hB.alloc hB.size _).grown hg (by have := hB.size; simp; omega) (fun k e => by have := (Hrow.out.lt k e).1; omega)
      have Hown : Hid (w'.ownsRow (w.heap.size + 1) 5 1 v' (k + 1) (dcells fill (k + 1))) := by
        unfold Hid dcells
        rw [List.range_succ, List.map_append]
        exact hown
      clear hown hg
      go_wp2_with fail
      go_roundw
      case rel => exact ⟨k + 1, by omega, by go_num, Hown.out, hop2, hB2⟩
      case measure => simp [intOf]; omega
    · obtain rfl : k = N := by omega
      have hcv := dconv Hrow.out hN0
      go_wp2_with fail
      go_ret
      exact ⟨rfl, hB⟩
end Go.Proofs.Ytgenifcikfbfhaa
namespace Go.Proofs.Ytgenifcikfbfhaa
open Go.RowKit Go.Shelf

theorem ownsRow_same {w w' : World} {base : Nat} {e : TypeId} {size : Nat} {v : Value} {n : Nat} {xs : List Value} (h : w.ownsRow base e size v n xs) (hk : ∀ k cs, v.ownBlock = some k → Blk w k e cs → w'.heap[k]? = w.heap[k]?) : w'.ownsRow base e size v n xs := by
  obtain ⟨h1, h2⟩ := h
  refine ⟨h1, ?_⟩
  rcases h2 with h2 | ⟨g, cap, cur, hv, hg, hh, r⟩
  · exact Or.inl h2
  · exact Or.inr ⟨g, cap, cur, hv, hg, (hk g cur (by rw [hv]; rfl) hh).trans hh, r⟩
theorem ownsRow_blk {w : World} {base : Nat} {e : TypeId} {size k n c : Nat} {xs : List Value} (h : w.ownsRow base e size (.slice (some ⟨k, 0, none⟩) n c) n xs) : ∃ cur, Blk w k e cur := by
  rcases h.2 with ⟨h0, _⟩ | ⟨g, cap, cur, hv, _, hh, _⟩
  · cases h0
  · cases hv
    exact ⟨cur, hh⟩

/-- Where a device lies. -/
structure DAt where
  d : Nat
  b : Nat
  g : Nat
  sb : Nat
  sc : Nat
  fb : Nat
  fc : Nat
/-- Two devices have no block in common that is written. -/
structure DAt.Apart (a c : DAt) : Prop where
  d : c.d ≠ a.d
  g : c.g ≠ a.g
  sb : c.sb ≠ a.sb
  fb : c.fb ≠ a.fb
theorem DAt.Apart.symm {a c : DAt} (h : a.Apart c) : c.Apart a := ⟨h.d.symm, h.g.symm, h.sb.symm, h.fb.symm⟩
/-- The device in memory. -/
def DevIs (w : World) (a : DAt) (D : Dev) : Prop := IsDev w a.d a.b a.g a.sb a.sc a.fb a.fc D
/-- What an operation on the device at a leaves. -/
def DLeft (w w' : World) (a : DAt) : Prop := DFr w w' a.d a.g a.sb a.fb

section
variable {W w w' w2 : World} {a c : DAt} {D E : Dev}
theorem DevIs.gblk (h : DevIs w a D) : ∃ cs, Blk w a.g 84 cs := by
  obtain ⟨_, cur, _, h2, _⟩ := h.mem.body
  exact ⟨cur, h2⟩
theorem DevIs.mblk (h : DevIs w a D) : ∃ cs, Blk w a.b 82 cs := by
  obtain ⟨_, cur, h2, _⟩ := h.mem.body
  exact ⟨_, h2⟩
theorem DevIs.sblk (h : DevIs w a D) : ∃ cs, Blk w a.sb 9 cs := ownsRow_blk h.srow
theorem DevIs.fblk (h : DevIs w a D) : ∃ cs, Blk w a.fb 4 cs := ownsRow_blk h.frow
theorem DLeft.blk (hF : DLeft w w' a) (h : DevIs w a D) {k : Nat} {t : TypeId} {cs : Array Value} (hk : Blk w k t cs) (h1 : t = 62 → k ≠ a.d) (h2 : t = 84 → k ≠ a.g) (h3 : t = 9 → k ≠ a.sb) (h4 : t = 4 → k ≠ a.fb) : w'.heap[k]? = w.heap[k]? := by
  obtain ⟨_, q2⟩ := h.gblk
  obtain ⟨_, q3⟩ := h.sblk
  obtain ⟨_, q4⟩ := h.fblk
  refine hF.rest k hk.lt ?_ ?_ ?_ ?_
  · by_cases e : t = 62
    · exact h1 e
    · exact hk.ne_ h.blk e
  · by_cases e : t = 84
    · exact h2 e
    · exact hk.ne_ q2 e
  · by_cases e : t = 9
    · exact h3 e
    · exact hk.ne_ q3 e
  · by_cases e : t = 4
    · exact h4 e
    · exact hk.ne_ q4 e
/-- Another device. -/
theorem DLeft.dev (hF : DLeft w w' a) (h : DevIs w a D) (k : DevIs w c E) (n : a.Apart c) : DevIs w' c E := by
  obtain ⟨cap, cur, m1, m2, m3⟩ := k.mem.body
  refine ⟨(hF.blk h k.blk (fun _ => n.d) (fun e => by cases e) (fun e => by cases e) (fun e => by cases e)).trans k.blk, ⟨k.mem.ne, k.mem.pos, cap, cur, (hF.blk h m1 (fun e => by cases e) (fun e => by cases e) (fun e => by cases e) (fun e => by cases e)).trans m1, (hF.blk h m2 (fun e => by cases e) (fun _ => n.g) (fun e => by cases e) (fun e => by cases e)).trans m2, m3⟩, ?_, ?_⟩
  · refine ownsRow_same k.srow (fun j cs e hj => ?_)
    have : j = c.sb := by cases e; rfl
    exact hF.blk h hj (fun e => by cases e) (fun e => by cases e) (fun _ => by rw [this]; exact n.sb) (fun e => by cases e)
  · refine ownsRow_same k.frow (fun j cs e hj => ?_)
    have : j = c.fb := by cases e; rfl
    exact hF.blk h hj (fun e => by cases e) (fun e => by cases e) (fun e => by cases e) (fun _ => by rw [this]; exact n.fb)
/-- Texts that no device owns. -/
structure Img (w : World) (v : Value) (I : List ByteArray) (a : DAt) : Prop where
  texts : Texts w v I
  own : ∀ k, v.ownBlock = some k → k ≠ a.sb
theorem Img.nil (w : World) (a : DAt) : Img w (.slice none 0 0) [] a := ⟨World.ownsRow_nil _ _ _ _, fun k e => by cases e⟩
theorem Img.slice {v : Value} {I : List ByteArray} (h : Img w v I a) : ∃ A n c, v = .slice A n c := by
  obtain ⟨A, c, e, _⟩ := h.texts.parts
  exact ⟨A, _, c, e⟩
theorem DLeft.img {v : Value} {I : List ByteArray} (hF : DLeft w w' a) (h : DevIs w a D) (k : Img w v I a) : Img w' v I a :=
  ⟨ownsRow_same k.texts (fun j cs e hj => hF.blk h hj (fun e => by cases e) (fun e => by cases e) (fun _ => k.own j e) (fun e => by cases e)), k.own⟩
theorem Img.below {v : Value} {I : List ByteArray} (h : Img w v I a) (hB : Below w.heap.size w w') : Img w' v I a := ⟨ownsRow_below h.texts hB (Nat.le_refl _), h.own⟩
theorem DevIs.below (h : DevIs w a D) (hB : Below w.heap.size w w') : DevIs w' a D := IsDev.below h hB
theorem DLeft.refl (w : World) : DLeft w w a := DFr.refl w
theorem DLeft.trans (h : DLeft w w' a) (k : DLeft w' w2 a) : DLeft w w2 a := DFr.trans (w' := w') h k
theorem DLeft.ofBelow (hB : Below w.heap.size w w') : DLeft w w' a := DFr.ofBelow hB

/-- A device of the call's own: it lies behind the arguments' world W. -/
structure MDev (W w : World) (a : DAt) (D : Dev) : Prop where
  dev : DevIs w a D
  bel : Below W.heap.size W w
  hd : W.heap.size ≤ a.d
  hg : W.heap.size ≤ a.g
  hsb : W.heap.size ≤ a.sb
  hfb : W.heap.size ≤ a.fb
theorem MDev.next (h : MDev W w a D) (hF : DLeft w w' a) (k : DevIs w' a E) : MDev W w' a E :=
  ⟨k, DFr.below hF h.bel h.bel.size h.hd h.hg h.hsb h.hfb, h.hd, h.hg, h.hsb, h.hfb⟩
theorem MDev.on (h : MDev W w a D) (hB : Below w.heap.size w w') : MDev W w' a D :=
  ⟨h.dev.below hB, h.bel.trans (hB.mono h.bel.size), h.hd, h.hg, h.hsb, h.hfb⟩
theorem MDev.beside (h : MDev W w a D) (k : MDev W w c E) (n : a.Apart c) (hF : DLeft w w' a) : MDev W w' c E :=
  ⟨hF.dev h.dev k.dev n, DFr.below hF h.bel h.bel.size h.hd h.hg h.hsb h.hfb, k.hd, k.hg, k.hsb, k.hfb⟩
/-- A device that was made later lies apart. -/
theorem DevIs.apart (h : DevIs w a D) (h1 : w.heap.size ≤ c.d) (h2 : w.heap.size ≤ c.g) (h3 : w.heap.size ≤ c.sb) (h4 : w.heap.size ≤ c.fb) : a.Apart c := by
  obtain ⟨_, q2⟩ := h.gblk
  obtain ⟨_, q3⟩ := h.sblk
  obtain ⟨_, q4⟩ := h.fblk
  have l1 := h.blk.lt
  have l2 := q2.lt
  have l3 := q3.lt
  have l4 := q4.lt
  exact ⟨by omega, by omega, by omega, by omega⟩
theorem Img.fresh {v : Value} {I : List ByteArray} (hT : NewTexts w w' v I) (h : DevIs w a D) : Img w' v I a := by
  refine ⟨⟨hT.1.1, ?_⟩, fun k e => ?_⟩
  · rcases hT.1.2 with h2 | ⟨g, cap, cur, hv, hg, r⟩
    · exact .inl h2
    · exact .inr ⟨g, cap, cur, hv, Nat.zero_le _, r⟩
  · obtain ⟨_, q3⟩ := h.sblk
    have l3 := q3.lt
    have := (hT.1.lt k e).1
    omega
end
end Go.Proofs.Ytgenifcikfbfhaa
