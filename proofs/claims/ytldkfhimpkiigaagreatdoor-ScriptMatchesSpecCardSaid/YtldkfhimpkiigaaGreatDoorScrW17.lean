/-
  Layer 46 (script): few.
-/
import Derived.Test.YtldkfhimpkiigaaGreatDoorScrW16
namespace Go.Proofs.YtldkfhimpkiigaaGreatDoor
open Go.RowKit ScrP
attribute [local go_sem] Oper.semAt_some

set_option maxRecDepth 100000 in
set_option maxHeartbeats 12800000 in
theorem few_any (s : Scr) (u : Value) (B : Nat) (w : World) (hu : ScrAt w B u s) (hB : B ≤ w.heap.size) (hs : ScrIn s) :
    Calls Tryz.prog 9 #[u] w fun e w' => ∃ b : Bool, e = .returned (.bool b) ∧ Below w.heap.size w w' := by
  obtain ⟨ut, us, rfl, hut, hus⟩ := hu
  obtain ⟨At, ct, rfl, _⟩ := id hut
  obtain ⟨_, _, ⟨As, cs, rfl, _⟩, _⟩ := id hus
  have HT := Lib.hid hut
  have HST := Lib.hid hus
  have hBH := Lib.hid hB
  have HI := Lib.hid hs
  obtain ⟨T, hT⟩ : ∃ n, s.texts.length = n := ⟨_, rfl⟩
  obtain ⟨N, hN⟩ : ∃ n, s.steps.length = n := ⟨_, rfl⟩
  have hTl : T ≤ 17592186044416 := by rw [← hT]; exact hs.nt
  have hNl : N ≤ 17592186044416 := by rw [← hN]; exact hs.ns
  rw [hT] at HT
  rw [hN] at HST
  have hTH := Lib.hid hT
  have hNH := Lib.hid hN
  rw [hT, hN]
  clear hut hus hB hs hT hN
  go_enter Tryz.func9, Tryz.ntmps9
  go_upto_region 1 with fail
  refine world_is (P := fun W => Code.wp _ _ _ _ W) (fun W0 hW0 => ?_)
  have B0 : Hid (Below w.heap.size w W0) := by unfold Hid; rw [← hW0]; exact (Below.refl _ _).alloc (Nat.le_refl _) _
  have X0 : Hid (Blk W0 w.heap.size 25 #[.slice At T ct, .slice As N cs]) := by unfold Hid; rw [← hW0]; exact Blk.new _ _ _
  obtain ⟨g, hg⟩ : ∃ g, w.heap.size = g := ⟨_, rfl⟩
  rw [hg] at X0 ⊢
  have hgw : Hid (w.heap.size ≤ W0.heap.size) := B0.out.size
  clear hW0 hg
  have x0 := X0.out.cell 0
  have x1 := X0.out.cell 1
  go_wp2_with fail
  go_loopw [3, 18] (fun v3 v18 wr => ∃ (i : Nat) (z : Int), v18 = .int .i64 (i : Int) ∧ v3 = .int .i64 z ∧ i ≤ T ∧ wr = W0) (fun _ v18 _ => T - (intOf v18).toNat)
  case atStart => exact ⟨0, _, rfl, rfl, Nat.zero_le _, rfl⟩
  case round =>
  obtain ⟨i, z, rfl, rfl, hi, hww⟩ := hrel
  rw [hww]
  clear hww
  by_cases hlt : i < T
  case pos =>
    have d1 : decide (i < T) = true := decide_eq_true hlt
    have d2 : decide ((i : Int) < (T : Int)) = true := decide_eq_true (by omega)
    obtain ⟨t, ht⟩ : ∃ t, s.texts[i]? = some t := ⟨_, List.getElem?_eq_getElem (by rw [hTH.out]; exact hlt)⟩
    obtain ⟨tb, to_, rfl, htb, htc⟩ := HT.out.cellOf (by omega)
    have k0 : W0.cell? ⟨tb, to_ + i, none⟩ = some (.string t) := (B0.out.cell (p := ⟨tb, to_ + i, none⟩) (Nat.lt_of_lt_of_le htb hBH.out)).trans (htc i (.string t) (by unfold strsC; rw [List.getElem?_map, ht]; rfl))
    have htz := HI.out.txt t (List.mem_of_getElem? ht)
    have q0 : (0 : Int) ≤ (i : Int) := by omega
    have q1 : (i : Int) < (T : Int) := by omega
    have q2 : (T : Int) ≤ 17592186044416 := by omega
    have hltH := Lib.hid hlt
    clear ht htc hlt hi htb x0 x1
    go_wp2_with fail
    go_roundw
    case rel => exact ⟨i + 1, _, by go_num, rfl, hltH.out, trivial⟩
    case measure => have := hltH.out; simp [intOf]; omega
  case neg =>
  have d1 : decide (i < T) = false := decide_eq_false hlt
  have d2 : decide ((i : Int) < (T : Int)) = false := decide_eq_false (by omega)
  clear hlt x0
  go_wp2_with fail
  go_loopw [3, 31] (fun v3 v31 wr => ∃ (i : Nat) (z : Int), v31 = .int .i64 (i : Int) ∧ v3 = .int .i64 z ∧ i ≤ N ∧ Hid (Below w.heap.size w wr)) (fun _ v31 _ => N - (intOf v31).toNat)
  case atStart => exact ⟨0, _, rfl, rfl, Nat.zero_le _, B0.out⟩
  case round =>
  clear x1 d1 d2 hi
  obtain ⟨j, y, rfl, rfl, hj, B2⟩ := hrel
  obtain ⟨wo, rfl⟩ : ∃ x, x = wr := ⟨_, rfl⟩
  by_cases hlt : j < N
  case neg =>
    have d1 : decide (j < N) = false := decide_eq_false hlt
    have d2 : decide ((j : Int) < (N : Int)) = false := decide_eq_false (by omega)
    clear hlt
    go_wp2_with fail
    go_ret
    exact ⟨_, rfl, B2.out⟩
  case pos =>
  have d1 : decide (j < N) = true := decide_eq_true hlt
  have d2 : decide ((j : Int) < (N : Int)) = true := decide_eq_true (by omega)
  obtain ⟨x, hx⟩ : ∃ x, s.steps[j]? = some x := ⟨_, List.getElem?_eq_getElem (by rw [hNH.out]; exact hlt)⟩
  obtain ⟨rb, ro, u, rfl, hrb, y0, y1, y2, hrow⟩ := HST.out.some_ hNH.out hx
  obtain ⟨Aa, ca, rfl, _⟩ := hrow
  have k0 := (B2.out.cell (p := ⟨rb, _, none⟩) (Nat.lt_of_lt_of_le hrb hBH.out)).trans y0
  have k1 := (B2.out.cell (p := ⟨rb, _, none⟩) (Nat.lt_of_lt_of_le hrb hBH.out)).trans y1
  have k2 := (B2.out.cell (p := ⟨rb, _, none⟩) (Nat.lt_of_lt_of_le hrb hBH.out)).trans y2
  have htz := (HI.out.stp x (List.mem_of_getElem? hx)).text
  have hna := (HI.out.stp x (List.mem_of_getElem? hx)).nargs
  have q0 : (0 : Int) ≤ (j : Int) := by omega
  have q1 : (j : Int) < (N : Int) := by omega
  have q2 : (N : Int) ≤ 17592186044416 := by omega
  have hltH := Lib.hid hlt
  obtain ⟨n, hn⟩ : ∃ n, x.args.length = n := ⟨_, rfl⟩
  rw [hn] at k1 hna
  clear y0 y1 y2 hx hlt hj hrb hn
  go_upto_region 10 with fail
  refine world_is (P := fun W => Code.wp _ _ _ _ W) (fun W3 hW3 => ?_)
  have hb3 : Below wo.heap.size wo W3 := by rw [← hW3]; exact (Below.refl _ _).alloc (Nat.le_refl _) _
  have EB : Hid (Blk W3 wo.heap.size 53 #[.int .i64 x.kind, .slice Aa n ca, .string x.text]) := by unfold Hid; rw [← hW3]; exact Blk.new _ _ _
  have B3 := Lib.hid (B2.out.trans (hb3.mono B2.out.size))
  obtain ⟨a, ea⟩ : ∃ z, wo.heap.size = z := ⟨_, rfl⟩
  rw [ea] at EB ⊢
  clear hW3 hb3 ea B2 k0 k1 k2
  have b1 := EB.out.cell 1
  have b2 := EB.out.cell 2
  go_wp2_with fail
  go_roundw
  case rel => exact ⟨j + 1, _, by go_num, rfl, hltH.out, B3.out⟩
  case measure => have := hltH.out; simp [intOf]; omega
end Go.Proofs.YtldkfhimpkiigaaGreatDoor
