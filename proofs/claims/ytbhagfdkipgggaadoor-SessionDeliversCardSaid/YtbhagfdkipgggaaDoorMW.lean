/-
  The cipher's specification: the order of the quarter rounds, its walk.
  The cipher's specification in plain words: a double round by the table of the order.
  The cipher's specification: the state, its walk.
  The cipher's specification: the rounds, their walk.
-/
import Derived.Test.YtbhagfdkipgggaaDoorMV
import Derived.Test.YtbhagfdkipgggaaDoorMF
import Derived.Test.YtbhagfdkipgggaaDoorMB
namespace Go.Proofs.YtbhagfdkipgggaaDoor
open Go.RowKit Go.Shelf
attribute [local go_sem] Oper.semAt_some
def ordL : List (List Nat) := [[0, 4, 8, 12], [1, 5, 9, 13], [2, 6, 10, 14], [3, 7, 11, 15], [0, 5, 10, 15], [1, 6, 11, 12], [2, 7, 8, 13], [3, 4, 9, 14]]
/-- The table of the order in memory. -/
structure OrdAt (w : World) (g : Nat) : Prop where
  rows : ∀ k, k < 8 → w.cell? ⟨g + 8, k, none⟩ = some (.slice (some ⟨g + k, 0, none⟩) 4 4)
  cells : ∀ k j, k < 8 → j < 4 → w.cell? ⟨g + k, j, none⟩ = some (.int .i64 (((ordL.getD k []).getD j 0 : Nat) : Int))
  size : g + 8 < w.heap.size
theorem alloc_grow (w : World) (o : Obj) (g n : Nat) (h : w.heap.size = g + n) : (w.alloc o).heap.size = g + (n + 1) := by
  have e : (w.alloc o).heap.size = w.heap.size + 1 := Array.size_push ..
  omega
theorem blk_at_ (w : World) (g n : Nat) (t : TypeId) (cs : Array Value) (h : w.heap.size = g + n) : Blk (w.alloc (.cells cs t)) (g + n) t cs := h ▸ Blk.new w t cs
theorem nine_blk (w : World) (t u : TypeId) (c0 c1 c2 c3 c4 c5 c6 c7 c8 : Array Value) : (((((((((w.alloc (.cells c0 t)).alloc (.cells c1 t)).alloc (.cells c2 t)).alloc (.cells c3 t)).alloc (.cells c4 t)).alloc (.cells c5 t)).alloc (.cells c6 t)).alloc (.cells c7 t)).alloc (.cells c8 u)).heap.size = w.heap.size + 9 ∧ Blk (((((((((w.alloc (.cells c0 t)).alloc (.cells c1 t)).alloc (.cells c2 t)).alloc (.cells c3 t)).alloc (.cells c4 t)).alloc (.cells c5 t)).alloc (.cells c6 t)).alloc (.cells c7 t)).alloc (.cells c8 u)) (w.heap.size + 0) t c0 ∧ Blk (((((((((w.alloc (.cells c0 t)).alloc (.cells c1 t)).alloc (.cells c2 t)).alloc (.cells c3 t)).alloc (.cells c4 t)).alloc (.cells c5 t)).alloc (.cells c6 t)).alloc (.cells c7 t)).alloc (.cells c8 u)) (w.heap.size + 1) t c1 ∧ Blk (((((((((w.alloc (.cells c0 t)).alloc (.cells c1 t)).alloc (.cells c2 t)).alloc (.cells c3 t)).alloc (.cells c4 t)).alloc (.cells c5 t)).alloc (.cells c6 t)).alloc (.cells c7 t)).alloc (.cells c8 u)) (w.heap.size + 2) t c2 ∧ Blk (((((((((w.alloc (.cells c0 t)).alloc (.cells c1 t)).alloc (.cells c2 t)).alloc (.cells c3 t)).alloc (.cells c4 t)).alloc (.cells c5 t)).alloc (.cells c6 t)).alloc (.cells c7 t)).alloc (.cells c8 u)) (w.heap.size + 3) t c3 ∧ Blk (((((((((w.alloc (.cells c0 t)).alloc (.cells c1 t)).alloc (.cells c2 t)).alloc (.cells c3 t)).alloc (.cells c4 t)).alloc (.cells c5 t)).alloc (.cells c6 t)).alloc (.cells c7 t)).alloc (.cells c8 u)) (w.heap.size + 4) t c4 ∧ Blk (((((((((w.alloc (.cells c0 t)).alloc (.cells c1 t)).alloc (.cells c2 t)).alloc (.cells c3 t)).alloc (.cells c4 t)).alloc (.cells c5 t)).alloc (.cells c6 t)).alloc (.cells c7 t)).alloc (.cells c8 u)) (w.heap.size + 5) t c5 ∧ Blk (((((((((w.alloc (.cells c0 t)).alloc (.cells c1 t)).alloc (.cells c2 t)).alloc (.cells c3 t)).alloc (.cells c4 t)).alloc (.cells c5 t)).alloc (.cells c6 t)).alloc (.cells c7 t)).alloc (.cells c8 u)) (w.heap.size + 6) t c6 ∧ Blk (((((((((w.alloc (.cells c0 t)).alloc (.cells c1 t)).alloc (.cells c2 t)).alloc (.cells c3 t)).alloc (.cells c4 t)).alloc (.cells c5 t)).alloc (.cells c6 t)).alloc (.cells c7 t)).alloc (.cells c8 u)) (w.heap.size + 7) t c7 ∧ Blk (((((((((w.alloc (.cells c0 t)).alloc (.cells c1 t)).alloc (.cells c2 t)).alloc (.cells c3 t)).alloc (.cells c4 t)).alloc (.cells c5 t)).alloc (.cells c6 t)).alloc (.cells c7 t)).alloc (.cells c8 u)) (w.heap.size + 8) u c8 := by
  have s0 : w.heap.size = w.heap.size + 0 := rfl
  have s1 := alloc_grow _ (.cells c0 t) _ _ s0
  have s2 := alloc_grow _ (.cells c1 t) _ _ s1
  have s3 := alloc_grow _ (.cells c2 t) _ _ s2
  have s4 := alloc_grow _ (.cells c3 t) _ _ s3
  have s5 := alloc_grow _ (.cells c4 t) _ _ s4
  have s6 := alloc_grow _ (.cells c5 t) _ _ s5
  have s7 := alloc_grow _ (.cells c6 t) _ _ s6
  have s8 := alloc_grow _ (.cells c7 t) _ _ s7
  have s9 := alloc_grow _ (.cells c8 u) _ _ s8
  exact ⟨s9, (((((((((blk_at_ _ _ 0 _ c0 s0).alloc _).alloc _).alloc _).alloc _).alloc _).alloc _).alloc _).alloc _), ((((((((blk_at_ _ _ 1 _ c1 s1).alloc _).alloc _).alloc _).alloc _).alloc _).alloc _).alloc _), (((((((blk_at_ _ _ 2 _ c2 s2).alloc _).alloc _).alloc _).alloc _).alloc _).alloc _), ((((((blk_at_ _ _ 3 _ c3 s3).alloc _).alloc _).alloc _).alloc _).alloc _), (((((blk_at_ _ _ 4 _ c4 s4).alloc _).alloc _).alloc _).alloc _), ((((blk_at_ _ _ 5 _ c5 s5).alloc _).alloc _).alloc _), (((blk_at_ _ _ 6 _ c6 s6).alloc _).alloc _), ((blk_at_ _ _ 7 _ c7 s7).alloc _), (blk_at_ _ _ 8 _ c8 s8)⟩
theorem Below_alloc (w w1 : World) (h : Below w.heap.size w w1) (o : Obj) : Below w.heap.size w (w1.alloc o) := h.alloc h.size o
theorem order_any (w : World) :
    Calls Tryd.prog 114 #[] w fun e w' => e = .returned (.slice (some ⟨w.heap.size + 8, 0, none⟩) 8 8) ∧ OrdAt w' w.heap.size ∧ Below w.heap.size w w' := by
  go_enter Tryd.func114, Tryd.ntmps114
  go_wp2_with fail
  go_ret
  obtain ⟨hs, b0, b1, b2, b3, b4, b5, b6, b7, b8⟩ := nine_blk w _ _ #[.int .i64 0, .int .i64 4, .int .i64 8, .int .i64 12] #[.int .i64 1, .int .i64 5, .int .i64 9, .int .i64 13] #[.int .i64 2, .int .i64 6, .int .i64 10, .int .i64 14] #[.int .i64 3, .int .i64 7, .int .i64 11, .int .i64 15] #[.int .i64 0, .int .i64 5, .int .i64 10, .int .i64 15] #[.int .i64 1, .int .i64 6, .int .i64 11, .int .i64 12] #[.int .i64 2, .int .i64 7, .int .i64 8, .int .i64 13] #[.int .i64 3, .int .i64 4, .int .i64 9, .int .i64 14] _
  refine ⟨rfl, ⟨fun k hk => ?_, fun k j hk hj => ?_, ?_⟩, ?_⟩
  · refine (b8.cell k).trans ?_
    have e : k = 0 ∨ k = 1 ∨ k = 2 ∨ k = 3 ∨ k = 4 ∨ k = 5 ∨ k = 6 ∨ k = 7 := by omega
    rcases e with rfl | rfl | rfl | rfl | rfl | rfl | rfl | rfl <;> rfl
  · have e : k = 0 ∨ k = 1 ∨ k = 2 ∨ k = 3 ∨ k = 4 ∨ k = 5 ∨ k = 6 ∨ k = 7 := by omega
    have f : j = 0 ∨ j = 1 ∨ j = 2 ∨ j = 3 := by omega
    rcases e with rfl | rfl | rfl | rfl | rfl | rfl | rfl | rfl
    · refine (b0.cell j).trans ?_; rcases f with rfl | rfl | rfl | rfl <;> rfl
    · refine (b1.cell j).trans ?_; rcases f with rfl | rfl | rfl | rfl <;> rfl
    · refine (b2.cell j).trans ?_; rcases f with rfl | rfl | rfl | rfl <;> rfl
    · refine (b3.cell j).trans ?_; rcases f with rfl | rfl | rfl | rfl <;> rfl
    · refine (b4.cell j).trans ?_; rcases f with rfl | rfl | rfl | rfl <;> rfl
    · refine (b5.cell j).trans ?_; rcases f with rfl | rfl | rfl | rfl <;> rfl
    · refine (b6.cell j).trans ?_; rcases f with rfl | rfl | rfl | rfl <;> rfl
    · refine (b7.cell j).trans ?_; rcases f with rfl | rfl | rfl | rfl <;> rfl
  · rw [hs]; omega
  · have B0 := Below.refl w.heap.size w
    exact Below_alloc _ _ (Below_alloc _ _ (Below_alloc _ _ (Below_alloc _ _ (Below_alloc _ _ (Below_alloc _ _ (Below_alloc _ _ (Below_alloc _ _ (Below_alloc _ _ B0 _) _) _) _) _) _) _) _) _
end Go.Proofs.YtbhagfdkipgggaaDoor
namespace Go.Proofs.YtbhagfdkipgggaaDoor
def ordN (k j : Nat) : Nat := (ordL.getD k []).getD j 0
theorem ordN_lt : ∀ k j, k < 8 → j < 4 → ordN k j < 16 := by
  have h : ∀ k : Fin 8, ∀ j : Fin 4, ordN k.val j.val < 16 := by decide
  exact fun k j hk hj => h ⟨k, hk⟩ ⟨j, hj⟩
/-- The first k quarter rounds of a double round. -/
def quarN (S : List UInt32) : Nat → List UInt32
  | 0 => S
  | k + 1 => qrt (quarN S k) (ordN k 0) (ordN k 1) (ordN k 2) (ordN k 3)
theorem quarN_len (S : List UInt32) : ∀ k, (quarN S k).length = S.length
  | 0 => rfl
  | k + 1 => by unfold quarN; rw [qrt_len]; exact quarN_len S k
theorem quarN_eight (S : List UInt32) : quarN S 8 = diaN (colN S 4) 4 := by
  simp only [quarN, colN, diaN]
  generalize qrt = q
  rfl
theorem rndN_next (S : List UInt32) (n : Nat) : rndN S (n + 1) = quarN (rndN S n) 8 := by rw [quarN_eight]; rfl
end Go.Proofs.YtbhagfdkipgggaaDoor
namespace Go.Proofs.YtbhagfdkipgggaaDoor
open Go.RowKit Go.Shelf
attribute [local go_sem] Oper.semAt_some
theorem fillK_set (k : List UInt8) (S : List UInt32) (c : UInt32) : ∀ t, t ≤ 8 → fillK k (S.set 12 c) t = (fillK k S t).set 12 c
  | 0, _ => rfl
  | t + 1, h => by
    unfold fillK
    rw [fillK_set k S c t (by omega), List.set_comm _ _ (show 12 ≠ 4 + t by omega)]
theorem stateL_late (k : List UInt8) (c : UInt32) (n : List UInt8) : stateL k c n = fillN n ((fillK k (state0 0) 8).set 12 c) 3 := by
  unfold stateL
  rw [← fillK_set k (state0 0) c 8 (Nat.le_refl _)]
  rfl
/-- The state under way: the work beside the result's place. -/
structure RSt (w wr : World) (S : List UInt32) : Prop where
  st : Blk wr (w.heap.size + 1) 122 (S.map u32v).toArray
  res : Blk wr w.heap.size 122 z16
  bel : Below w.heap.size w wr
theorem RSt.put {w wr : World} {S : List UInt32} (h : RSt w wr S) (a : Nat) (v : UInt32) : RSt w (wr.setCell ⟨w.heap.size + 1, a, none⟩ (u32v v)) (S.set a v) :=
  ⟨blkW_set h.st a v, h.res.other (by show w.heap.size ≠ w.heap.size + 1; omega) _, h.bel.setCell (p := ⟨w.heap.size + 1, a, none⟩) (Nat.le_succ _) _⟩
theorem RSt.drew {w wr : World} {S : List UInt32} (h : RSt w wr S) : RSt w wr.drew S := ⟨h.st.drew, h.res.drew, h.bel.drew⟩
set_option maxRecDepth 100000 in
set_option maxHeartbeats 3200000 in
theorem rstate_any (w : World) (key nonce : ByteArray) (c : UInt32) (hk : key.size = 32) (hn : nonce.size = 12) :
    Calls Tryd.prog 92 #[.string key, u32v c, .string nonce] w fun e w' => e = .returned (.tuple #[.agg ((stateL (bl key) c (bl nonce)).map u32v).toArray, .int .i64 0]) ∧ Below w.heap.size w w' := by
  have hkH := Lib.hid hk
  have hnH := Lib.hid hn
  have t1 : ((key.size : Int) != 32) = false := by rw [hk]; rfl
  have t2 : ((nonce.size : Int) != 12) = false := by rw [hn]; rfl
  go_enter Tryd.func92, Tryd.ntmps92
  go_upto_region 4 with fail
  refine world_is (P := fun W => Code.wp _ _ _ _ W) (fun W1 hW1 => ?_)
  have HS1 : Hid (Blk W1 (w.heap.size + 1) 122 z16) := by unfold Hid; rw [← hW1]; exact blk_new2 _ _ _ _
  have HR1 : Hid (Blk W1 w.heap.size 122 z16) := by unfold Hid; rw [← hW1]; exact (Blk.new w _ _).alloc _
  have HB1 : Hid (Below w.heap.size w W1) := by unfold Hid; rw [← hW1]; exact ((Below.refl w.heap.size w).alloc (Nat.le_refl _) _).alloc (by rw [World.size_alloc]; exact Nat.le_succ _) _
  clear hW1
  have c0 : W1.cell? ⟨w.heap.size + 1, 0, none⟩ = some (.int .u32 0) := HS1.out.cell 0
  have c1 : W1.cell? ⟨w.heap.size + 1, 1, none⟩ = some (.int .u32 0) := HS1.out.cell 1
  have c2 : W1.cell? ⟨w.heap.size + 1, 2, none⟩ = some (.int .u32 0) := HS1.out.cell 2
  have c3 : W1.cell? ⟨w.heap.size + 1, 3, none⟩ = some (.int .u32 0) := HS1.out.cell 3
  have f0 := HS1.out.frozen 0
  have f1 := HS1.out.frozen 1
  have f2 := HS1.out.frozen 2
  have f3 := HS1.out.frozen 3
  have x0 := fun wx => arr16_index wx (w.heap.size + 1) 0 (by decide) 0 rfl
  have x1 := fun wx => arr16_index wx (w.heap.size + 1) 1 (by decide) 1 rfl
  have x2 := fun wx => arr16_index wx (w.heap.size + 1) 2 (by decide) 2 rfl
  have x3 := fun wx => arr16_index wx (w.heap.size + 1) 3 (by decide) 3 rfl
  go_upto_region 8 with fail
  refine world_is (P := fun W => Code.wp _ _ _ _ W) (fun W2 hW2 => ?_)
  have hS0 : Hid (RSt w W2 (fillK (bl key) (state0 0) 0)) := by
    refine ⟨?_, ?_, ?_⟩
    · rw [← hW2]; exact (((HS1.out.set_ 0 (.int .u32 1634760805)).set_ 1 (.int .u32 857760878)).set_ 2 (.int .u32 2036477234)).set_ 3 (.int .u32 1797285236)
    · rw [← hW2]; exact ((((HR1.out.other (a := ⟨w.heap.size + 1, 0, none⟩) (by show w.heap.size ≠ w.heap.size + 1; omega) _).other (a := ⟨w.heap.size + 1, 1, none⟩) (by show w.heap.size ≠ w.heap.size + 1; omega) _).other (a := ⟨w.heap.size + 1, 2, none⟩) (by show w.heap.size ≠ w.heap.size + 1; omega) _).other (a := ⟨w.heap.size + 1, 3, none⟩) (by show w.heap.size ≠ w.heap.size + 1; omega) _)
    · rw [← hW2]; exact ((((HB1.out.setCell (p := ⟨w.heap.size + 1, 0, none⟩) (Nat.le_succ _) _).setCell (p := ⟨w.heap.size + 1, 1, none⟩) (Nat.le_succ _) _).setCell (p := ⟨w.heap.size + 1, 2, none⟩) (Nat.le_succ _) _).setCell (p := ⟨w.heap.size + 1, 3, none⟩) (Nat.le_succ _) _)
  clear hW2 HS1 HR1 HB1 c0 c1 c2 c3 f0 f1 f2 f3 x0 x1 x2 x3
  go_wp2_with fail
  go_loopw [9] (fun q wr => ∃ t : Nat, q = .int .i64 t ∧ Hid (t ≤ 8) ∧ Hid (RSt w wr (fillK (bl key) (state0 0) t))) (fun q _ => 8 - (intOf q).toNat)
  case atStart => exact ⟨0, rfl, Nat.zero_le _, hS0⟩
  case round =>
    clear hS0
    obtain ⟨t, rfl, ht, hA⟩ := hrel
    by_cases hlt : t < 8
    · have d1 : decide (t < 8) = true := decide_eq_true hlt
      have d2 : decide ((t : Int) < 8) = true := decide_eq_true (by omega)
      have x1 := fun wx => arr16_index wx (w.heap.size + 1) (4 + t) (by omega) (4 + (t : Int)) (by omega)
      have e1 : bl (key.extract (4 * t) 32) = (bl key).drop (4 * t) := by
        have h := bl_extract key (4 * t) (by omega)
        rw [hk] at h
        exact h
      have HG : Hid (∀ wx, Calls Tryd.prog 107 #[.string (key.extract (4 * t) 32)] wx fun e w' => e = .returned (u32v (getW ((bl key).drop (4 * t)))) ∧ w' = wx.drew) := fun wx => by
        have h := r03word_any wx (key.extract (4 * t) 32) (by rw [← bl_len, e1, List.length_drop, bl_len, hk]; omega)
        rw [e1] at h
        exact h
      have hfr := hA.out.st.frozen (4 + t)
      have hce := blkW_cell hA.out.st (a := 4 + t) (by rw [fillK_len]; show 4 + t < 16; omega)
      have hN : Hid (RSt w (wr.setCell ⟨w.heap.size + 1, 4 + t, none⟩ (u32v (getW ((bl key).drop (4 * t))))).drew (fillK (bl key) (state0 0) (t + 1))) := (hA.out.put (4 + t) _).drew
      have hltH := Lib.hid hlt
      clear e1
      go_wp2_with (first | (go_at_call 107; refine (HG.out _).mono ?_; rintro e w9 ⟨rfl, rfl⟩) | fail)
      refine ⟨⟨t + 1, by go_num, hltH.out, hN⟩, ?_⟩
      have := hltH.out
      simp [intOf]
      omega
    · have d1 : decide (t < 8) = false := decide_eq_false hlt
      have d2 : decide ((t : Int) < 8) = false := decide_eq_false (by omega)
      have e8 : t = 8 := Nat.le_antisymm ht (Nat.le_of_not_lt hlt)
      have hS1 : Hid (RSt w wr (fillK (bl key) (state0 0) 8)) := by rw [e8] at hA; exact hA
      have hfin : Hid (stateL (bl key) c (bl nonce) = fillN (bl nonce) ((fillK (bl key) (state0 0) 8).set 12 c) 3) := stateL_late _ _ _
      have hVl : Hid ((fillK (bl key) (state0 0) 8).length = 16) := by unfold Hid; rw [fillK_len]; rfl
      generalize fillK (bl key) (state0 0) 8 = V at *
      clear e8 hA
      have f12 := hS1.out.st.frozen 12
      have c12 := blkW_cell hS1.out.st (a := 12) (by rw [hVl.out]; decide)
      have x12 := fun wx => arr16_index wx (w.heap.size + 1) 12 (by decide) 12 rfl
      have hS2 : Hid (RSt w (wr.setCell ⟨w.heap.size + 1, 12, none⟩ (u32v c)) (V.set 12 c)) := hS1.out.put 12 c
      have hUl : Hid ((V.set 12 c).length = 16) := by unfold Hid; rw [List.length_set]; exact hVl.out
      go_upto_region 13 with fail
      refine world_is (P := fun W => Code.wp _ _ _ _ W) (fun W5 hW5 => ?_)
      have hS3 : Hid (RSt w W5 (fillN (bl nonce) (V.set 12 c) 0)) := by unfold Hid; rw [← hW5]; exact hS2.out
      generalize V.set 12 c = U at *
      clear hW5 hS2 hS1 f12 c12 x12 hVl ht hlt d1 d2
      go_wp2_with fail
      go_loopw [10] (fun q wr => ∃ i : Nat, q = .int .i64 i ∧ Hid (i ≤ 3) ∧ Hid (RSt w wr (fillN (bl nonce) U i))) (fun q _ => 3 - (intOf q).toNat)
      case atStart => exact ⟨0, rfl, Nat.zero_le _, hS3⟩
      case round =>
        clear hS3
        obtain ⟨i, rfl, hi, hA⟩ := hrel
        by_cases hlt : i < 3
        · have d1 : decide (i < 3) = true := decide_eq_true hlt
          have d2 : decide ((i : Int) < 3) = true := decide_eq_true (by omega)
          have x1 := fun wx => arr16_index wx (w.heap.size + 1) (13 + i) (by omega) (13 + (i : Int)) (by omega)
          have e1 : bl (nonce.extract (4 * i) 12) = (bl nonce).drop (4 * i) := by
            have h := bl_extract nonce (4 * i) (by omega)
            rw [hn] at h
            exact h
          have HG : Hid (∀ wx, Calls Tryd.prog 107 #[.string (nonce.extract (4 * i) 12)] wx fun e w' => e = .returned (u32v (getW ((bl nonce).drop (4 * i)))) ∧ w' = wx.drew) := fun wx => by
            have h := r03word_any wx (nonce.extract (4 * i) 12) (by rw [← bl_len, e1, List.length_drop, bl_len, hn]; omega)
            rw [e1] at h
            exact h
          have hfr := hA.out.st.frozen (13 + i)
          have hce := blkW_cell hA.out.st (a := 13 + i) (by rw [fillN_len, hUl.out]; omega)
          have hN : Hid (RSt w (wr.setCell ⟨w.heap.size + 1, 13 + i, none⟩ (u32v (getW ((bl nonce).drop (4 * i))))).drew (fillN (bl nonce) U (i + 1))) := (hA.out.put (13 + i) _).drew
          have hltH := Lib.hid hlt
          clear e1
          go_wp2_with (first | (go_at_call 107; refine (HG.out _).mono ?_; rintro e w9 ⟨rfl, rfl⟩) | fail)
          refine ⟨⟨i + 1, by go_num, hltH.out, hN⟩, ?_⟩
          have := hltH.out
          simp [intOf]
          omega
        · have d1 : decide (i < 3) = false := decide_eq_false hlt
          have d2 : decide ((i : Int) < 3) = false := decide_eq_false (by omega)
          have e3 : i = 3 := Nat.le_antisymm hi (Nat.le_of_not_lt hlt)
          have hA1 : Hid (RSt w wr (stateL (bl key) c (bl nonce))) := by rw [e3] at hA; unfold Hid; rw [hfin.out]; exact hA
          have hRl : Hid (((stateL (bl key) c (bl nonce)).map u32v).length = 16) := by unfold Hid; rw [List.length_map, stateL_len]
          have hRo : Hid (∀ v ∈ (stateL (bl key) c (bl nonce)).map u32v, v.oneCell' = true) := u32V_one _
          have hst := hA1.out.st
          have hres := Lib.hid hA1.out.res
          have hbel := Lib.hid hA1.out.bel
          clear e3 hA hA1 hfin
          generalize hD : (stateL (bl key) c (bl nonce)).map u32v = D at *
          have hDH := Lib.hid hD
          have hrg := range_of_blk hst
          clear hD hst
          go_wp2_with (first | (refine wpList_load_mid rfl 122 _ rfl (w.heap.size + 1) 0 rfl D _ hrg Tryd.underlying122 rfl ?hI1 ?_) | (refine wpList_store_mid rfl 122 _ _ rfl w.heap.size 0 D.toArray rfl rfl ?hI2 ?hI3 ?hI4 ?_) | fail)
          case hI1 => rw [hRl.out]; exact infoA16'
          case hI2 => rw [hRl.out]; exact there_of_blk (o := 0) hres.out (by decide)
          case hI3 => rw [hRl.out]; exact infoA16'
          case hI4 => exact hRo.out
          have hL := blk_setWhole hres.out D (by rw [hRl.out]; rfl)
          have hBL := below_setCells (g := w.heap.size) (Nat.le_refl _) D 0 _ hbel.out
          rw [hDH.out]
          exact bodyPost_ret (v := .tuple #[.agg D.toArray, .int .i64 0]) (results_ct (p := 6) (q := 7) rfl _ _ w.heap.size 122 D.toArray _ rfl hL Tryd.underlying122 rfl (by rw [List.size_toArray, hRl.out]; exact infoA16)) rfl ⟨rfl, hBL⟩
end Go.Proofs.YtbhagfdkipgggaaDoor
namespace Go.Proofs.YtbhagfdkipgggaaDoor
open Go.RowKit Go.Shelf
attribute [local go_sem] Oper.semAt_some
theorem blk_sets_other {g b : Nat} {t : TypeId} {cs : Array Value} (hne : g ≠ b) : ∀ (vs : List Value) (o : Nat) (w : World), Blk w g t cs → Blk (w.setCells b o vs) g t cs
  | [], _, _, h => h
  | v :: r, o, _, h => blk_sets_other hne r (o + 1) _ (h.other (a := ⟨b, o, none⟩) hne v)
theorem cell_sets_far {b : Nat} (a : Addr) (h : b ≠ a.block) : ∀ (vs : List Value) (o : Nat) (w : World), (w.setCells b o vs).cell? a = w.cell? a
  | [], _, _ => rfl
  | v :: r, o, w => (cell_sets_far a h r (o + 1) _).trans (World.cell?_setCell_far w ⟨b, o, none⟩ a v h)
theorem OrdAt.keep {w w' : World} {g : Nat} (h : OrdAt w g) (hc : ∀ b j, b ≤ g + 8 → g ≤ b → w'.cell? ⟨b, j, none⟩ = w.cell? ⟨b, j, none⟩) (hs : w.heap.size ≤ w'.heap.size) : OrdAt w' g :=
  ⟨fun k hk => (hc _ _ (Nat.le_refl _) (by omega)).trans (h.rows k hk), fun k j hk hj => (hc _ _ (by omega) (by omega)).trans (h.cells k j hk hj), Nat.lt_of_lt_of_le h.size hs⟩
theorem OrdAt.below {w w' : World} {g : Nat} (h : OrdAt w g) (hB : Below w.heap.size w w') : OrdAt w' g :=
  h.keep (fun b j hb _ => hB.cell (p := ⟨b, j, none⟩) (by show b < w.heap.size; have := h.size; omega)) hB.size
theorem size_sets (b : Nat) : ∀ (vs : List Value) (o : Nat) (w : World), (w.setCells b o vs).heap.size = w.heap.size
  | [], _, _ => rfl
  | v :: r, o, w => (size_sets b r (o + 1) _).trans (World.size_setCell w ⟨b, o, none⟩ v)
theorem OrdAt.sets {w : World} {g b : Nat} (h : OrdAt w g) (hb : b < g) (vs : List Value) (o : Nat) : OrdAt (w.setCells b o vs) g :=
  h.keep (fun c j _ hc => cell_sets_far ⟨c, j, none⟩ (by show b ≠ c; omega) vs o w) (by rw [size_sets]; exact Nat.le_refl _)
theorem RndAt.whole {w wr w' : World} {S S' : List UInt32} (h : RndAt w wr S) (hB : Below wr.heap.size wr w') (hl : S'.length = S.length) : RndAt w (w'.setCells w.heap.size 0 (S'.map u32v)) S' := by
  obtain ⟨cs, h1, h2⟩ := h.res
  exact ⟨blk_setWhole (h.st.below hB h.st.lt) _ (by simp [hl]), ⟨cs, blk_sets_other (by omega) _ _ _ (h1.below hB h1.lt), h2⟩, below_setCells (Nat.le_refl _) _ 0 _ (h.bel.trans (hB.mono h.bel.size))⟩
theorem ord_index (w : World) (g k : Nat) (hk : k < 8) : (Instr.indexAt 152 (.slice (some ⟨g, 0, none⟩) 8 8) (.int .i64 (k : Int))).run Tryd.prog w = .ok (.pointer (some ⟨g, k, none⟩)) w := by
  have d1 : (0 : Int) ≤ (k : Int) := by omega
  have d2 : (k : Int) < 8 := by omega
  simp [go_sem, d1, d2]
theorem ordrow_index (w : World) (g j : Nat) (z : Int) (hz : z = (j : Int)) (hj : j < 4) : (Instr.indexAt 74 (.slice (some ⟨g, 0, none⟩) 4 4) (.int .i64 z)).run Tryd.prog w = .ok (.pointer (some ⟨g, j, none⟩)) w := by
  subst hz
  have d1 : (0 : Int) ≤ (j : Int) := by omega
  have d2 : (j : Int) < 4 := by omega
  simp [go_sem, d1, d2]
set_option maxRecDepth 100000 in
set_option maxHeartbeats 6400000 in
theorem rrounds_any (w : World) (S : List UInt32) (hS : S.length = 16) :
    Calls Tryd.prog 108 #[.agg (S.map u32v).toArray] w fun e w' => e = .returned (.agg ((rndN S 10).map u32v).toArray) ∧ Below w.heap.size w w' := by
  go_enter Tryd.func108, Tryd.ntmps108
  go_upto_region 1 with fail
  refine world_is (P := fun W => Code.wp _ _ _ _ W) (fun W1 hW1 => ?_)
  have H0 : Hid (RndAt w W1 (rndN S 0)) := by
    have b1 := (Below.refl _ w).alloc (Nat.le_refl _) (Obj.cells (S.map u32v).toArray 122)
    have hres : ∃ cs, Blk W1 (w.heap.size + 1) 122 cs ∧ cs.size = 16 := by rw [← hW1]; exact ⟨z16, blk_new2 _ _ _ _, rfl⟩
    refine ⟨?_, hres, ?_⟩
    · rw [← hW1]; exact (Blk.new w _ _).alloc _
    · rw [← hW1]; exact b1.alloc b1.size _
  have hSH := Lib.hid hS
  have hgs : Hid (w.heap.size < W1.heap.size) := H0.out.st.lt
  clear hW1 hS
  have HO := Lib.hid (order_any W1)
  obtain ⟨g, hg⟩ : ∃ g, W1.heap.size = g := ⟨_, rfl⟩
  rw [hg] at HO hgs
  go_upto_region 2 with (first | (go_at_call 114; refine HO.out.mono ?_; rintro e w2 ⟨rfl, hO, hB⟩; rw [← hg] at hB; have HO2 := Lib.hid hO; have H1 := Lib.hid (show RndAt w w2 (rndN S 0) from by { obtain ⟨cs, h1, h2⟩ := H0.out.res; exact ⟨H0.out.st.below hB H0.out.st.lt, ⟨cs, h1.below hB h1.lt, h2⟩, H0.out.bel.trans (hB.mono H0.out.bel.size)⟩ }); clear hO hB) | fail)
  clear H0 HO hg
  go_wp2_with fail
  go_loopw [4] (fun q wr => ∃ n : Nat, q = .int .i64 n ∧ Hid (n ≤ 10) ∧ Hid (RndAt w wr (rndN S n)) ∧ Hid (OrdAt wr g)) (fun q _ => 10 - (intOf q).toNat)
  case atStart => exact ⟨0, rfl, Nat.zero_le _, H1, HO2⟩
  case round =>
    clear H1 HO2
    obtain ⟨n, rfl, hn, hA, hO⟩ := hrel
    by_cases hlt : n < 10
    · have d1 : decide (n < 10) = true := decide_eq_true hlt
      have d2 : decide ((n : Int) < 10) = true := decide_eq_true (by omega)
      have hnH := Lib.hid hlt
      have hnx := Lib.hid (rndN_next S n)
      obtain ⟨T, hT⟩ : ∃ T, rndN S n = T := ⟨_, rfl⟩
      have hTl : Hid (T.length = 16) := by unfold Hid; rw [← hT, rndN_len]; exact hSH.out
      rw [hT] at hA hnx
      clear hT
      go_wp2_with fail
      have hA0 : Hid (RndAt w wr (quarN T 0)) := hA
      have hO0 : Hid (OrdAt wr g) := hO
      clear hA hO
      obtain ⟨wo, rfl⟩ : ∃ wo, wo = wr := ⟨_, rfl⟩
      go_loopw [5] (fun q wr => ∃ k : Nat, q = .int .i64 k ∧ Hid (k ≤ 8) ∧ Hid (RndAt w wr (quarN T k)) ∧ Hid (OrdAt wr g)) (fun q _ => 8 - (intOf q).toNat)
      case atStart => exact ⟨0, rfl, Nat.zero_le _, hA0, hO0⟩
      case round =>
        clear hA0 hO0
        obtain ⟨k, rfl, hk, hA, hO⟩ := hrel
        by_cases h8 : k < 8
        · have e1 : decide (k < 8) = true := decide_eq_true h8
          have e2 : decide ((k : Int) < 8) = true := decide_eq_true (by omega)
          obtain ⟨o0, p0⟩ : ∃ o, ordN k 0 = o := ⟨_, rfl⟩
          obtain ⟨o1, p1⟩ : ∃ o, ordN k 1 = o := ⟨_, rfl⟩
          obtain ⟨o2, p2⟩ : ∃ o, ordN k 2 = o := ⟨_, rfl⟩
          obtain ⟨o3, p3⟩ : ∃ o, ordN k 3 = o := ⟨_, rfl⟩
          have ho0 : Hid (o0 < 16) := by unfold Hid; rw [← p0]; exact ordN_lt k 0 h8 (by decide)
          have ho1 : Hid (o1 < 16) := by unfold Hid; rw [← p1]; exact ordN_lt k 1 h8 (by decide)
          have ho2 : Hid (o2 < 16) := by unfold Hid; rw [← p2]; exact ordN_lt k 2 h8 (by decide)
          have ho3 : Hid (o3 < 16) := by unfold Hid; rw [← p3]; exact ordN_lt k 3 h8 (by decide)
          have hQn : Hid (quarN T (k + 1) = qrt (quarN T k) o0 o1 o2 o3) := by unfold Hid; rw [← p0, ← p1, ← p2, ← p3]; rfl
          have HC : Hid (∀ wx, Below wr.heap.size wr wx → wx.cell? ⟨g + 8, k, none⟩ = some (.slice (some ⟨g + k, 0, none⟩) 4 4) ∧ wx.cell? ⟨g + k, 0, none⟩ = some (.int .i64 (o0 : Int)) ∧ wx.cell? ⟨g + k, 1, none⟩ = some (.int .i64 (o1 : Int)) ∧ wx.cell? ⟨g + k, 2, none⟩ = some (.int .i64 (o2 : Int)) ∧ wx.cell? ⟨g + k, 3, none⟩ = some (.int .i64 (o3 : Int))) := fun wx hB => by
            have h := hO.out.below hB
            rw [← p0, ← p1, ← p2, ← p3]
            exact ⟨h.rows k h8, h.cells k 0 h8 (by decide), h.cells k 1 h8 (by decide), h.cells k 2 h8 (by decide), h.cells k 3 h8 (by decide)⟩
          have y0 := fun wx => ord_index wx (g + 8) k h8
          have y1 := fun wx => ordrow_index wx (g + k) 0 0 rfl (by decide)
          have y2 := fun wx => ordrow_index wx (g + k) 1 1 rfl (by decide)
          have y3 := fun wx => ordrow_index wx (g + k) 2 2 rfl (by decide)
          have y4 := fun wx => ordrow_index wx (g + k) 3 3 rfl (by decide)
          obtain ⟨Q, hQ⟩ : ∃ Q, quarN T k = Q := ⟨_, rfl⟩
          have hQl : Hid (Q.length = 16) := by unfold Hid; rw [← hQ, quarN_len]; exact hTl.out
          rw [hQ] at hA hQn
          obtain ⟨Dl, hDl⟩ : ∃ D, Q.map u32v = D := ⟨_, rfl⟩
          have hDll : Hid (Dl.length = 16) := by unfold Hid; rw [← hDl, List.length_map]; exact hQl.out
          have HRG : Hid (∀ wx, Below wr.heap.size wr wx → wx.rangeAt w.heap.size 0 Dl) := fun wx hB => by
            have h := range_of_blk (hA.out.st.below hB hA.out.st.lt)
            rw [← hDl]
            exact h
          have HS : Hid (∀ wx, Below wr.heap.size wr wx → wx.rangeAt w.heap.size 0 Dl ∧ wx.cell? ⟨g + 8, k, none⟩ = some (.slice (some ⟨g + k, 0, none⟩) 4 4) ∧ wx.cell? ⟨g + k, 0, none⟩ = some (.int .i64 (o0 : Int)) ∧ wx.cell? ⟨g + k, 1, none⟩ = some (.int .i64 (o1 : Int)) ∧ wx.cell? ⟨g + k, 2, none⟩ = some (.int .i64 (o2 : Int)) ∧ wx.cell? ⟨g + k, 3, none⟩ = some (.int .i64 (o3 : Int))) := fun wx hB => ⟨HRG.out wx hB, HC.out wx hB⟩
          obtain ⟨Dn, hDn'⟩ : ∃ D, (qrt Q o0 o1 o2 o3).map u32v = D := ⟨_, rfl⟩
          have hDn : Hid (Dn = (qrt Q o0 o1 o2 o3).map u32v) := hDn'.symm
          have hDnl : Hid (Dn.length = 16) := by unfold Hid; rw [← hDn', List.length_map, qrt_len]; exact hQl.out
          have hDno : Hid (∀ v ∈ Dn, v.oneCell' = true) := by unfold Hid; rw [← hDn']; exact u32V_one _
          have HQ : Hid (∀ wx, Calls Tryd.prog 115 #[.agg Dl.toArray, .int .i64 (o0 : Int), .int .i64 (o1 : Int), .int .i64 (o2 : Int), .int .i64 (o3 : Int)] wx fun e w' => e = .returned (.agg ((qrt Q o0 o1 o2 o3).map u32v).toArray) ∧ Below wx.heap.size wx w') := fun wx => by
            rw [← hDl]
            exact rquarter_any wx o0 o1 o2 o3 Q hQl.out ho0.out ho1.out ho2.out ho3.out
          have h8H := Lib.hid h8
          clear p0 p1 p2 p3 hQ hDl hDn' HC HRG
          go_upto_region 8 with fail
          refine wp_region_last (S := (fun wx => wx.rangeAt w.heap.size 0 Dl ∧ wx.cell? ⟨g + 8, k, none⟩ = some (.slice (some ⟨g + k, 0, none⟩) 4 4) ∧ wx.cell? ⟨g + k, 0, none⟩ = some (.int .i64 (o0 : Int)) ∧ wx.cell? ⟨g + k, 1, none⟩ = some (.int .i64 (o1 : Int)) ∧ wx.cell? ⟨g + k, 2, none⟩ = some (.int .i64 (o2 : Int)) ∧ wx.cell? ⟨g + k, 3, none⟩ = some (.int .i64 (o3 : Int)))) 26 (by kernel_rfl) (HS.out _ (Below.refl _ wr).drew) (fun hHeld => ?_)
          refine' wpAnyK_take (i := 0) rfl (by kernel_rfl) (by kernel_rfl) (by kernel_rfl) (by kernel_rfl) (by kernel_rfl) (fun _ _ _ h => h) (yieldsIf_load_mid (by rfl) 122 _ rfl w.heap.size 0 rfl Dl _ (fun _ h => h.1) Tryd.underlying122 rfl (by rw [hDll.out]; exact infoA16)) hHeld ?rest0
          try simp only [sA, gA]
          refine' wpAnyK_take (i := 1) (v := ?v1) rfl (by kernel_rfl) (by kernel_rfl) (by kernel_rfl) (by kernel_rfl) (by kernel_rfl) (fun _ _ _ h => h) (Or.inl ⟨by rfl, ?hy1⟩) hHeld ?rest1
          case hy1 => intro w hSw; (try dsimp only at hSw); go_simp; all_goals with_reducible rfl
          try simp only [sA, gA]
          refine' wpAnyK_take (i := 2) (v := ?v2) rfl (by kernel_rfl) (by kernel_rfl) (by kernel_rfl) (by kernel_rfl) (by kernel_rfl) (fun _ _ _ h => h) (Or.inl ⟨by rfl, ?hy2⟩) hHeld ?rest2
          case hy2 => intro w hSw; (try dsimp only at hSw); go_simp; all_goals with_reducible rfl
          try simp only [sA, gA]
          refine' wpAnyK_take (i := 3) (v := ?v3) rfl (by kernel_rfl) (by kernel_rfl) (by kernel_rfl) (by kernel_rfl) (by kernel_rfl) (fun _ _ _ h => h) (Or.inl ⟨by rfl, ?hy3⟩) hHeld ?rest3
          case hy3 => intro w hSw; (try dsimp only at hSw); go_simp; all_goals with_reducible rfl
          try simp only [sA, gA]
          refine' wpAnyK_take (i := 4) (v := ?v4) rfl (by kernel_rfl) (by kernel_rfl) (by kernel_rfl) (by kernel_rfl) (by kernel_rfl) (fun _ _ _ h => h) (Or.inl ⟨by rfl, ?hy4⟩) hHeld ?rest4
          case hy4 => intro w hSw; (try dsimp only at hSw); go_simp; all_goals with_reducible rfl
          try simp only [sA, gA]
          refine' wpAnyK_take (i := 5) (v := ?v5) rfl (by kernel_rfl) (by kernel_rfl) (by kernel_rfl) (by kernel_rfl) (by kernel_rfl) (fun _ _ _ h => h) (Or.inl ⟨by rfl, ?hy5⟩) hHeld ?rest5
          case hy5 => intro w hSw; (try dsimp only at hSw); go_simp; all_goals with_reducible rfl
          try simp only [sA, gA]
          refine' wpAnyK_take (i := 6) (v := ?v6) rfl (by kernel_rfl) (by kernel_rfl) (by kernel_rfl) (by kernel_rfl) (by kernel_rfl) (fun _ _ _ h => h) (Or.inl ⟨by rfl, ?hy6⟩) hHeld ?rest6
          case hy6 => intro w hSw; (try dsimp only at hSw); go_simp; all_goals with_reducible rfl
          try simp only [sA, gA]
          refine' wpAnyK_take (i := 7) (v := ?v7) rfl (by kernel_rfl) (by kernel_rfl) (by kernel_rfl) (by kernel_rfl) (by kernel_rfl) (fun _ _ _ h => h) (Or.inl ⟨by rfl, ?hy7⟩) hHeld ?rest7
          case hy7 => intro w hSw; (try dsimp only at hSw); go_simp; all_goals with_reducible rfl
          try simp only [sA, gA]
          refine' wpAnyK_take (i := 8) (v := ?v8) rfl (by kernel_rfl) (by kernel_rfl) (by kernel_rfl) (by kernel_rfl) (by kernel_rfl) (fun _ _ _ h => h) (Or.inl ⟨by rfl, ?hy8⟩) hHeld ?rest8
          case hy8 => intro w hSw; (try dsimp only at hSw); go_simp; all_goals with_reducible rfl
          try simp only [sA, gA]
          refine' wpAnyK_take (i := 9) (v := ?v9) rfl (by kernel_rfl) (by kernel_rfl) (by kernel_rfl) (by kernel_rfl) (by kernel_rfl) (fun _ _ _ h => h) (Or.inl ⟨by rfl, ?hy9⟩) hHeld ?rest9
          case hy9 => intro w hSw; (try dsimp only at hSw); go_simp; all_goals with_reducible rfl
          try simp only [sA, gA]
          refine' wpAnyK_take (i := 10) (v := ?v10) rfl (by kernel_rfl) (by kernel_rfl) (by kernel_rfl) (by kernel_rfl) (by kernel_rfl) (fun _ _ _ h => h) (Or.inl ⟨by rfl, ?hy10⟩) hHeld ?rest10
          case hy10 => intro w hSw; (try dsimp only at hSw); go_simp; all_goals with_reducible rfl
          try simp only [sA, gA]
          refine' wpAnyK_take (i := 11) (v := ?v11) rfl (by kernel_rfl) (by kernel_rfl) (by kernel_rfl) (by kernel_rfl) (by kernel_rfl) (fun _ _ _ h => h) (Or.inl ⟨by rfl, ?hy11⟩) hHeld ?rest11
          case hy11 => intro w hSw; (try dsimp only at hSw); go_simp; all_goals with_reducible rfl
          try simp only [sA, gA]
          refine' wpAnyK_take (i := 12) (v := ?v12) rfl (by kernel_rfl) (by kernel_rfl) (by kernel_rfl) (by kernel_rfl) (by kernel_rfl) (fun _ _ _ h => h) (Or.inl ⟨by rfl, ?hy12⟩) hHeld ?rest12
          case hy12 => intro w hSw; (try dsimp only at hSw); go_simp; all_goals with_reducible rfl
          try simp only [sA, gA]
          refine' wpAnyK_take (i := 13) (v := ?v13) rfl (by kernel_rfl) (by kernel_rfl) (by kernel_rfl) (by kernel_rfl) (by kernel_rfl) (fun _ _ _ h => h) (Or.inl ⟨by rfl, ?hy13⟩) hHeld ?rest13
          case hy13 => intro w hSw; (try dsimp only at hSw); go_simp; all_goals with_reducible rfl
          try simp only [sA, gA]
          refine' wpAnyK_take (i := 14) (v := ?v14) rfl (by kernel_rfl) (by kernel_rfl) (by kernel_rfl) (by kernel_rfl) (by kernel_rfl) (fun _ _ _ h => h) (Or.inl ⟨by rfl, ?hy14⟩) hHeld ?rest14
          case hy14 => intro w hSw; (try dsimp only at hSw); go_simp; all_goals with_reducible rfl
          try simp only [sA, gA]
          refine' wpAnyK_take (i := 15) (v := ?v15) rfl (by kernel_rfl) (by kernel_rfl) (by kernel_rfl) (by kernel_rfl) (by kernel_rfl) (fun _ _ _ h => h) (Or.inl ⟨by rfl, ?hy15⟩) hHeld ?rest15
          case hy15 => intro w hSw; (try dsimp only at hSw); go_simp; all_goals with_reducible rfl
          try simp only [sA, gA]
          refine' wpAnyK_take (i := 16) (v := ?v16) rfl (by kernel_rfl) (by kernel_rfl) (by kernel_rfl) (by kernel_rfl) (by kernel_rfl) (fun _ _ _ h => h) (Or.inl ⟨by rfl, ?hy16⟩) hHeld ?rest16
          case hy16 => intro w hSw; (try dsimp only at hSw); go_simp; all_goals with_reducible rfl
          try simp only [sA, gA]
          refine' wpAnyK_take (i := 17) (v := ?v17) rfl (by kernel_rfl) (by kernel_rfl) (by kernel_rfl) (by kernel_rfl) (by kernel_rfl) (fun _ _ _ h => h) (Or.inl ⟨by rfl, ?hy17⟩) hHeld ?rest17
          case hy17 => intro w hSw; (try dsimp only at hSw); go_simp; all_goals with_reducible rfl
          try simp only [sA, gA]
          refine' wpAnyK_take (i := 18) (v := ?v18) rfl (by kernel_rfl) (by kernel_rfl) (by kernel_rfl) (by kernel_rfl) (by kernel_rfl) (fun _ _ _ h => h) (Or.inl ⟨by rfl, ?hy18⟩) hHeld ?rest18
          case hy18 => intro w hSw; (try dsimp only at hSw); go_simp; all_goals with_reducible rfl
          try simp only [sA, gA]
          refine' wpAnyK_take (i := 19) (v := ?v19) rfl (by kernel_rfl) (by kernel_rfl) (by kernel_rfl) (by kernel_rfl) (by kernel_rfl) (fun _ _ _ h => h) (Or.inl ⟨by rfl, ?hy19⟩) hHeld ?rest19
          case hy19 => intro w hSw; (try dsimp only at hSw); go_simp; all_goals with_reducible rfl
          try simp only [sA, gA]
          refine' wpAnyK_take (i := 20) (v := ?v20) rfl (by kernel_rfl) (by kernel_rfl) (by kernel_rfl) (by kernel_rfl) (by kernel_rfl) (fun _ _ _ h => h) (Or.inl ⟨by rfl, ?hy20⟩) hHeld ?rest20
          case hy20 => intro w hSw; (try dsimp only at hSw); go_simp; all_goals with_reducible rfl
          try simp only [sA, gA]
          refine' wpAnyK_take (i := 21) (v := ?v21) rfl (by kernel_rfl) (by kernel_rfl) (by kernel_rfl) (by kernel_rfl) (by kernel_rfl) (fun _ _ _ h => h) (Or.inl ⟨by rfl, ?hy21⟩) hHeld ?rest21
          case hy21 => intro w hSw; (try dsimp only at hSw); go_simp; all_goals with_reducible rfl
          try simp only [sA, gA]
          refine' wpAnyK_take (i := 22) (v := ?v22) rfl (by kernel_rfl) (by kernel_rfl) (by kernel_rfl) (by kernel_rfl) (by kernel_rfl) (fun _ _ _ h => h) (Or.inl ⟨by rfl, ?hy22⟩) hHeld ?rest22
          case hy22 => intro w hSw; (try dsimp only at hSw); go_simp; all_goals with_reducible rfl
          try simp only [sA, gA]
          refine' wpAnyK_take (i := 23) (v := ?v23) rfl (by kernel_rfl) (by kernel_rfl) (by kernel_rfl) (by kernel_rfl) (by kernel_rfl) (fun _ _ _ h => h) (Or.inl ⟨by rfl, ?hy23⟩) hHeld ?rest23
          case hy23 => intro w hSw; (try dsimp only at hSw); go_simp; all_goals with_reducible rfl
          try simp only [sA, gA]
          refine' wpAnyK_take (i := 24) (v := ?v24) rfl (by kernel_rfl) (by kernel_rfl) (by kernel_rfl) (by kernel_rfl) (by kernel_rfl) (fun _ _ _ h => h) (Or.inl ⟨by rfl, ?hy24⟩) hHeld ?rest24
          case hy24 => intro w hSw; (try dsimp only at hSw); go_simp; all_goals with_reducible rfl
          try simp only [sA, gA]
          refine wpAnyK_ready (rs := [25]) (by kernel_rfl) (by simp) ?_
          refine AllReadyK.cons rfl (fun K hK => ?_) AllReadyK.nil
          go_simp
          go_at_call 115
          refine (HQ.out _).mono ?_
          rintro e w9 ⟨rfl, hB9⟩
          have HB9 := Lib.hid ((Below.refl wr.heap.size wr).drew.trans hB9)
          clear hB9
          go_wp2_with fail
          refine hK.out _ _ ?_ (fun hHeld2 => ?_)
          · exact HS.out _ HB9.out
          clear hK K hHeld
          have hHeld := hHeld2
          clear hHeld2
          try simp only [sA, gA]
          refine wpAnyK_ready (rs := [26]) (by kernel_rfl) (by simp) ?_
          refine AllReadyK.last rfl (fun K hK => ?_)
          refine wp_store_mid 122 _ _ rfl w.heap.size 0 Dn.toArray rfl ?hs0 ?hs1 ?hs2 ?hs3 ?hs4
          case hs0 => rw [hDn.out]; rfl
          case hs1 => exact there_of_blk (o := 0) (hA.out.st.below HB9.out hA.out.st.lt) (by rw [List.size_toArray, hDnl.out, List.size_toArray, List.length_map, hQl.out]; exact Nat.le_refl _)
          case hs2 => rw [List.size_toArray, hDnl.out]; exact infoA16
          case hs3 => exact all_oneCell_toArray hDno.out
          case hs4 =>
          refine hK.out _ _ ?_
          clear hK K
          try simp only [Act.put, List.getElem_toArray, List.getElem_cons_zero, List.getElem_cons_succ]
          refine wpAnyK_done (by kernel_rfl) ?_ _
          clear hHeld
          have hA2 : Hid (RndAt w (w9.setCells w.heap.size 0 Dn) (quarN T (k + 1))) := by
            unfold Hid
            rw [hQn.out, hDn.out]
            exact hA.out.whole HB9.out (qrt_len _ _ _ _ _)
          have hO2 : Hid (OrdAt (w9.setCells w.heap.size 0 Dn) g) := (hO.out.below HB9.out).sets hgs.out Dn 0
          go_wp2_with fail
          refine ⟨⟨k + 1, by go_num, h8H.out, hA2, hO2⟩, ?_⟩
          have := h8H.out
          simp [intOf]
          omega
        · have e1 : decide (k < 8) = false := decide_eq_false h8
          have e2 : decide ((k : Int) < 8) = false := decide_eq_false (by omega)
          have hk8 : k = 8 := Nat.le_antisymm hk (Nat.le_of_not_lt h8)
          have hA2 : Hid (RndAt w wr (rndN S (n + 1))) := by unfold Hid; rw [hnx.out, ← hk8]; exact hA
          clear hk8 hA
          go_wp2_with fail
          refine ⟨⟨n + 1, by go_num, hnH.out, hA2, hO⟩, ?_⟩
          have := hnH.out
          simp [intOf]
          omega
    · have d1 : decide (n < 10) = false := decide_eq_false hlt
      have d2 : decide ((n : Int) < 10) = false := decide_eq_false (by omega)
      have hn10 : n = 10 := Nat.le_antisymm hn (Nat.le_of_not_lt hlt)
      have hA1 : Hid (RndAt w wr (rndN S 10)) := by rw [hn10] at hA; exact hA
      have hRl : Hid (((rndN S 10).map u32v).length = 16) := by unfold Hid; rw [List.length_map, rndN_len]; exact hSH.out
      have hRo : Hid (∀ v ∈ (rndN S 10).map u32v, v.oneCell' = true) := u32V_one _
      have hst := hA1.out.st
      obtain ⟨cs, hr, hrs⟩ := hA1.out.res
      have hrsH := Lib.hid hrs
      have hrH := Lib.hid hr
      have hbel := Lib.hid hA1.out.bel
      clear hn10 hA hA1 hr hrs
      generalize hD : (rndN S 10).map u32v = D at *
      have hDH := Lib.hid hD
      have hrg := range_of_blk hst
      clear hD hst
      go_wp2_with (first | (refine wpList_load_mid rfl 122 _ rfl w.heap.size 0 rfl D _ hrg Tryd.underlying122 rfl ?hI1 ?_) | (refine wpList_store_mid rfl 122 _ _ rfl (w.heap.size + 1) 0 D.toArray rfl rfl ?hI2 ?hI3 ?hI4 ?_) | fail)
      case hI1 => rw [hRl.out]; exact infoA16'
      case hI2 => rw [hRl.out]; exact there_of_blk (o := 0) hrH.out (by rw [hrsH.out]; exact Nat.le_refl _)
      case hI3 => rw [hRl.out]; exact infoA16'
      case hI4 => exact hRo.out
      have hL := blk_setWhole hrH.out D (by rw [hRl.out, hrsH.out])
      have hBL := below_setCells (g := w.heap.size + 1) (Nat.le_succ _) D 0 _ hbel.out
      rw [hDH.out]
      exact bodyPost_ret (results_c (P := Tryd.prog) rfl _ _ (w.heap.size + 1) 122 D.toArray _ rfl hL Tryd.underlying122 rfl (by rw [List.size_toArray, hRl.out]; exact infoA16)) rfl ⟨rfl, hBL⟩
end Go.Proofs.YtbhagfdkipgggaaDoor
