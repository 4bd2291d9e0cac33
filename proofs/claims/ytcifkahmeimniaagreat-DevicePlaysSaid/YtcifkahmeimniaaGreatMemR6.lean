/-
  Layer 22 (memory): the reference's settle, Flush, Cut.
-/
import Derived.Test.YtcifkahmeimniaaGreatMemR5
import Derived.BigRegion
namespace Go.Proofs.YtcifkahmeimniaaGreat
open Go.RowKit Go.Shelf
attribute [local go_sem] Oper.semAt_some

section
variable {w : World} {b g : Nat} {M : List Sec}

/-- What the reference's loop keeps. -/
def Settles (cnt : Nat → Nat) (w0 : World) (b g : Nat) (M : List Sec) (D : List Nat) (k : Nat) (W : World) : Prop :=
  RMem W b g (doneM cnt M (D.take k)) ∧ w0.grownBy W (some g)

theorem idxs_at {p : Sec → Bool} {M : List Sec} {i : Nat} (h : i ∈ idxs p M) : ∃ s, M[i]? = some s ∧ p s = true := by
  unfold idxs at h
  generalize hn : M.length = n at h
  have : ∀ n, i ∈ upto (fun i => ((M[i]?).map p).getD false) n → ((M[i]?).map p).getD false = true := by
    intro n
    induction n with
    | zero => intro h; simp [upto_zero] at h
    | succ n ih =>
      intro h
      cases hb : ((M[n]?).map p).getD false
      · rw [upto_no _ n hb] at h; exact ih h
      · rw [upto_yes _ n hb] at h
        rcases List.mem_append.1 h with h | h
        · exact ih h
        · simp at h; rw [h]; exact hb
  have h2 := this n h
  cases hs : M[i]? with
  | none => rw [hs] at h2; simp at h2
  | some s => rw [hs] at h2; exact ⟨s, rfl, by simpa using h2⟩

theorem upto_nodup (P0 : Nat → Bool) : ∀ n, (upto P0 n).Nodup
  | 0 => by simp [upto_zero]
  | n + 1 => by
    cases hb : P0 n
    · rw [upto_no P0 n hb]; exact upto_nodup P0 n
    · rw [upto_yes P0 n hb, List.nodup_append]
      refine ⟨upto_nodup P0 n, by simp, ?_⟩
      intro a ha c hc e
      simp at hc; subst hc; subst e
      exact absurd (upto_lt P0 _ _ ha) (by omega)

theorem settle_full {now before fresh : ByteArray} {dirty worn : Bool} (h : now.size = 64) : Sec.settle ⟨now, before, fresh, dirty, worn⟩ 64 = ⟨fresh.extract 0 64, now, ⟨#[]⟩, false, worn⟩ := by
  unfold Sec.settle
  rw [if_pos (by omega)]
  have e : now.extract 64 now.size = ⟨#[]⟩ := by
    rw [h]
    apply ByteArray.ext
    simp [ByteArray.data_extract]
  have e2 : fresh.extract 0 64 ++ (⟨#[]⟩ : ByteArray) = fresh.extract 0 64 := by
    apply ByteArray.ext
    simp [ByteArray.data_append]
  simp only
  rw [e, e2]

set_option maxRecDepth 100000 in
set_option maxHeartbeats 4000000 in
theorem rFlush_settle (h : RMem w b g M) (hf : Fine M) (hN : M.length ≤ 1048576) :
    Calls Tryz.prog 103 #[.pointer (some ⟨b, 0, none⟩), .slice none 0 0, .bool true] w fun e w' => e = .returned (.tuple #[]) ∧ RMem w' b g (doneM (fun _ => 64) M (idxs Sec.dirty M)) ∧ w.grownBy w' (some g) := by
  have hlt := h.lt
  obtain ⟨D, hD⟩ : ∃ D, idxs Sec.dirty M = D := ⟨_, rfl⟩
  rw [hD]
  have HD := Lib.hid hD
  have HDi := Lib.hid (rDirty_any h hN)
  rw [hD] at HDi
  have hDl : D.length ≤ M.length := by rw [← hD]; exact upto_len _ _
  clear hD
  go_enter Tryz.func103, Tryz.ntmps103
  go_wp2_with (go_at_call 111; refine HDi.out.mono ?_; rintro e w1 ⟨v, rfl, hnew⟩)
  obtain ⟨hrow, _, hB1⟩ := hnew
  obtain ⟨A, c, rfl⟩ := ownsRow_slice hrow
  have hcap : D.length ≤ c := by
    rcases hrow.2 with ⟨e, h0⟩ | ⟨_, _, _, e, _, _, h1, _⟩
    · omega
    · cases e; exact h1
  have HC := Lib.hid (fun (k x : Nat) (hk : D[k]? = some x) => show ∃ vb, A = some ⟨vb, 0, none⟩ ∧ w.heap.size ≤ vb ∧ vb < w1.heap.size ∧ w1.cell? ⟨vb, k, none⟩ = some (.int .i64 x) by
    have hkl := (List.getElem?_eq_some_iff.1 hk).1
    rcases hrow.2 with ⟨e, h0⟩ | ⟨vb, cap, cur, e, h1, hb, _⟩
    · omega
    · cases e
      refine ⟨vb, rfl, h1, Blk.lt hb, ?_⟩
      rw [hrow.cellAt k (by omega)]
      simp [intCells, hk])
  have hM1 : RMem w1 b g M := h.below hB1 hlt.1 hlt.2
  have hg1 : w.grownBy w1 (some g) := grown_below hB1 (Nat.le_refl _) _
  have hs1 := hB1.size
  clear hrow
  go_loopw [7, 8, 9] (fun a _ _ wr => ∃ k : Nat, k ≤ D.length ∧ a = .int .i64 k ∧ RMem wr b g (doneM (fun _ => 64) M (D.take k)) ∧ w1.grownBy wr (some g)) (fun a _ _ _ => D.length - (intOf a).toNat)
  case atStart => exact ⟨0, Nat.zero_le _, rfl, hM1, grown_refl _ _⟩
  case round =>
    obtain ⟨k, hk, rfl, hM, hg⟩ := hrel
    have hMl := hM.lt
    obtain ⟨cap, hc, hcp, hcm⟩ := hM.head
    rw [doneM_len] at hc hcp
    unfold maxLen at hcm
    by_cases hkl : k < D.length
    · obtain ⟨x, hx⟩ : ∃ x, D[k]? = some x := ⟨_, List.getElem?_eq_getElem hkl⟩
      obtain ⟨vb, rfl, hv1, hv2, hvc⟩ := HC.out k x hx
      obtain ⟨s, hs, hd⟩ := idxs_at (p := Sec.dirty) (M := M) (i := x) (by rw [HD.out]; exact List.mem_of_getElem? hx)
      have hxl := (List.getElem?_eq_some_iff.1 hs).1
      have hfx := hf s (List.mem_of_getElem? hs)
      have hvr : wr.cell? ⟨vb, k, none⟩ = some (.int .i64 x) := hg.cell hvc (by simp; omega)
      have hne : ∀ j ∈ D.take k, j ≠ x := by
        intro j hj e
        subst e
        have hnd : D.Nodup := by rw [← HD.out]; exact upto_nodup _ _
        obtain ⟨i, hi⟩ := List.mem_iff_getElem?.1 hj
        rw [List.getElem?_take] at hi
        split at hi
        · have := (List.getElem?_inj (by omega) hnd).1 (hi.trans hx.symm)
          omega
        · cases hi
      have hs2 : (doneM (fun _ => 64) M (D.take k))[x]? = some s := by rw [doneM_at _ _ _ _ hne, hs]
      have Hs2 := Lib.hid hs2
      have hdn : Hid (doneM (fun _ => 64) M (D.take (k + 1)) = (doneM (fun _ => 64) M (D.take k)).set x (s.settle 64)) := by
        unfold Hid; rw [List.take_add_one, hx, Option.toList_some, doneM_snoc, List.getD, hs]; rfl
      obtain ⟨c0, c1, c2, c3, c4⟩ := hM.sec hs2
      obtain ⟨now, before, fresh, dirty, worn⟩ := s
      dsimp only at c0 c1 c2 c3 c4 hd hfx
      obtain ⟨z1, _, z2⟩ := hfx
      have z3 := z2 hd
      have Hl := Lib.hid (doneM_len (fun _ => 64) M (D.take k))
      have hws := hg.size
      clear hs hs2 hne hx hd z2 hvc
      have hvl : vb < wr.heap.size := by omega
      have av : ∀ o, (wr.alloc o).cell? ⟨vb, k, none⟩ = some (.int .i64 x) := fun o => (World.cell?_of_block (Below.heap_alloc wr o vb hvl)).trans hvr
      have ab : ∀ o, (wr.alloc o).cell? ⟨b, 0, none⟩ = some (.slice (some ⟨g, 0, none⟩) M.length cap) := fun o => (World.cell?_of_block (Below.heap_alloc wr o b hMl.1)).trans hc
      have a0 : ∀ o, (wr.alloc o).cell? ⟨g, x * 5, none⟩ = some (.string now) := fun o => (World.cell?_of_block (Below.heap_alloc wr o g hMl.2)).trans c0
      have a1 : ∀ o, (wr.alloc o).cell? ⟨g, x * 5 + 1, none⟩ = some (.string before) := fun o => (World.cell?_of_block (Below.heap_alloc wr o g hMl.2)).trans c1
      have a2 : ∀ o, (wr.alloc o).cell? ⟨g, x * 5 + 2, none⟩ = some (.string fresh) := fun o => (World.cell?_of_block (Below.heap_alloc wr o g hMl.2)).trans c2
      have a3 : ∀ o, (wr.alloc o).cell? ⟨g, x * 5 + 3, none⟩ = some (.bool dirty) := fun o => (World.cell?_of_block (Below.heap_alloc wr o g hMl.2)).trans c3
      have a4 : ∀ o, (wr.alloc o).cell? ⟨g, x * 5 + 4, none⟩ = some (.bool worn) := fun o => (World.cell?_of_block (Below.heap_alloc wr o g hMl.2)).trans c4
      go_wp2_with fail
      go_region
      have hbA : Blk (wr.alloc (.cells #[.string now, .string before, .string fresh, .bool dirty, .bool worn] 92)).drew wr.heap.size 92 #[.string now, .string before, .string fresh, .bool dirty, .bool worn] := Blk.new wr _ _
      have hBA : Below wr.heap.size wr (wr.alloc (.cells #[.string now, .string before, .string fresh, .bool dirty, .bool worn] 92)).drew := ((Below.refl _ wr).alloc (Nat.le_refl _) _).drew
      generalize (wr.alloc (.cells #[.string now, .string before, .string fresh, .bool dirty, .bool worn] 92)).drew = wA at hbA hBA ⊢
      clear av ab a0 a1 a2 a3 a4 c0 c1 c2 c3 c4
      have hA0 : wA.cell? ⟨wr.heap.size, 0, none⟩ = some (.string now) := hbA.cell 0
      have hA1 : wA.cell? ⟨wr.heap.size, 1, none⟩ = some (.string before) := hbA.cell 1
      have hAf := hbA.frozen
      go_wp2_with fail
      have hbB := hbA.set_ 1 (.string now)
      have hBB := hBA.setCell (p := ⟨wr.heap.size, 1, none⟩) (Nat.le_refl _) (.string now)
      generalize wA.setCell ⟨wr.heap.size, 1, none⟩ (.string now) = wB at hbB hBB ⊢
      clear hA0 hA1 hAf hbA hBA
      have hB0 : wB.cell? ⟨wr.heap.size, 0, none⟩ = some (.string now) := hbB.cell 0
      have hB2 : wB.cell? ⟨wr.heap.size, 2, none⟩ = some (.string fresh) := hbB.cell 2
      have hBf := hbB.frozen
      go_still_tail 10, (by kernel_rfl)
      change wpList _ _ _ _ _ wB.drew
      have hbC : Blk wB.drew wr.heap.size 92 #[.string now, .string now, .string fresh, .bool dirty, .bool worn] := hbB
      have hBC : Below wr.heap.size wr wB.drew := hBB.drew
      generalize wB.drew = wC at hbC hBC ⊢
      clear hB0 hB2 hBf hbB hBB
      have hC0 : wC.cell? ⟨wr.heap.size, 0, none⟩ = some (.string now) := hbC.cell 0
      have hC2 : wC.cell? ⟨wr.heap.size, 2, none⟩ = some (.string fresh) := hbC.cell 2
      have hC3 : wC.cell? ⟨wr.heap.size, 3, none⟩ = some (.bool dirty) := hbC.cell 3
      have hCf := hbC.frozen
      go_wp2_with fail
      have hbD := ((hbC.set_ 0 (.string (fresh.extract 0 64))).set_ 2 (.string ⟨#[]⟩)).set_ 3 (.bool false)
      have hBD := ((hBC.setCell (p := ⟨wr.heap.size, 0, none⟩) (Nat.le_refl _) (.string (fresh.extract 0 64))).setCell (p := ⟨wr.heap.size, 2, none⟩) (Nat.le_refl _) (.string ⟨#[]⟩)).setCell (p := ⟨wr.heap.size, 3, none⟩) (Nat.le_refl _) (.bool false)
      generalize (((wC.setCell ⟨wr.heap.size, 0, none⟩ (.string (fresh.extract 0 64))).setCell ⟨wr.heap.size, 2, none⟩ (.string ⟨#[]⟩)).setCell ⟨wr.heap.size, 3, none⟩ (.bool false)) = wD at hbD hBD ⊢
      clear hC0 hC2 hC3 hCf hbC hBC
      have hD0 : wD.cell? ⟨wr.heap.size, 0, none⟩ = some (.string (fresh.extract 0 64)) := hbD.cell 0
      have hD1 : wD.cell? ⟨wr.heap.size, 1, none⟩ = some (.string now) := hbD.cell 1
      have hD2 : wD.cell? ⟨wr.heap.size, 2, none⟩ = some (.string ⟨#[]⟩) := hbD.cell 2
      have hD3 : wD.cell? ⟨wr.heap.size, 3, none⟩ = some (.bool false) := hbD.cell 3
      have hD4 : wD.cell? ⟨wr.heap.size, 4, none⟩ = some (.bool worn) := hbD.cell 4
      have hDv : wD.cell? ⟨vb, k, none⟩ = some (.int .i64 x) := (hBD.cell (p := ⟨vb, k, none⟩) hvl).trans hvr
      have hDb : wD.cell? ⟨b, 0, none⟩ = some (.slice (some ⟨g, 0, none⟩) M.length cap) := (hBD.cell (p := ⟨b, 0, none⟩) hMl.1).trans hc
      go_still_tail 10, (by kernel_rfl)
      change wpList _ _ _ _ _ wD.drew
      have hME : RMem wD.drew b g (doneM (fun _ => 64) M (D.take k)) := hM.below hBD.drew hMl.1 hMl.2
      have hgE : w1.grownBy wD.drew (some g) := grown_trans hg (grown_below hBD.drew (Nat.le_refl _) _)
      generalize wD.drew = wE at hME hgE ⊢
      clear hD0 hD1 hD2 hD3 hD4 hDv hDb hbD hBD
      obtain ⟨c0, c1, c2, c3, c4⟩ := hME.sec Hs2.out
      have hfr := hME.frozen
      go_wp2_with fail
      go_roundw
      case rel => exact ⟨k + 1, by omega, by go_num, by rw [hdn.out, settle_full z1]; exact store5 hME Hs2.out ⟨fresh.extract 0 64, now, ⟨#[]⟩, false, worn⟩, grown_five hgE _ _ _ _ _ _ _ _ _ _⟩
      case measure => simp [intOf]; omega
    · obtain rfl : k = D.length := by omega
      rw [List.take_length] at hM
      go_wp2_with fail
      go_end0
      exact ⟨by simp, hM, grown_trans hg1 hg⟩

theorem rFlush_any (h : RMem w b g M) (hf : Fine M) (hN : M.length ≤ 1048576) :
    Calls Tryz.prog 84 #[.pointer (some ⟨b, 0, none⟩)] w fun e w' => e = .returned (.tuple #[]) ∧ RMem w' b g (doneM (fun _ => 64) M (idxs Sec.dirty M)) ∧ w.grownBy w' (some g) := by
  have HS := Lib.hid (rFlush_settle h hf hN)
  go_enter Tryz.func84, Tryz.ntmps84
  go_wp2_with (go_at_call 103; refine HS.out.mono ?_; rintro e w' ⟨rfl, h1, h2⟩)
  go_end0
  exact ⟨by simp, h1, h2⟩
end
end Go.Proofs.YtcifkahmeimniaaGreat
