/-
  Layer 46 (script): Check.
-/
import Derived.Test.YtldkfhimpkiigaaGreatDoorScrW5
namespace Go.Proofs.YtldkfhimpkiigaaGreatDoor
open Go.RowKit ScrP
attribute [local go_sem] Oper.semAt_some

def badS (x : Stp) : Bool := !stepOk x
theorem checkS_long {s : Scr} (h : 8 < s.texts.length ∨ 400 < s.steps.length ∨ (s.texts.any fun t => decide (4000 < t.size)) = true) : checkS s = (-1, 2) := by unfold checkS; rw [if_pos h]
theorem checkS_odd {s : Scr} (h : ¬ (8 < s.texts.length ∨ 400 < s.steps.length ∨ (s.texts.any fun t => decide (4000 < t.size)) = true)) (h2 : s.texts.any oddT = true) : checkS s = (-1, 1) := by unfold checkS; rw [if_neg h, if_pos h2]
theorem checkS_step {s : Scr} (h : ¬ (8 < s.texts.length ∨ 400 < s.steps.length ∨ (s.texts.any fun t => decide (4000 < t.size)) = true)) (h2 : s.texts.any oddT = false) :
    checkS s = if s.steps.findIdx badS < s.steps.length then (((s.steps.findIdx badS : Nat) : Int), 1) else (0, 0) := by
  unfold checkS
  rw [if_neg h, if_neg (by rw [h2]; decide)]
  rfl
def CheckPost (s : Scr) (w : World) (e : Ending) (w' : World) : Prop := e = .returned (.tuple #[.int .i64 (checkS s).1, .int .i64 (checkS s).2]) ∧ Below w.heap.size w w'
/-- A step in a row: its cells, and its arguments. -/
theorem StepsAt.at_ {w : World} {B : Nat} {A : Option Addr} {c : Nat} {xs : List Stp} (h : StepsAt w B (.slice A xs.length c) xs) {i : Nat} {x : Stp} (hx : xs[i]? = some x) :
    ∃ b o u, A = some ⟨b, o, none⟩ ∧ b < B ∧ w.cell? ⟨b, o + i * 3, none⟩ = some (.int .i64 x.kind) ∧ w.cell? ⟨b, o + i * 3 + 1, none⟩ = some u ∧ w.cell? ⟨b, o + i * 3 + 2, none⟩ = some (.string x.text) ∧ RowAt w B u x.args.length (intsC x.args) := by
  obtain ⟨vs, hl, ⟨A', c', hv, hr⟩, hs⟩ := h
  cases hv
  have hi := (List.getElem?_eq_some_iff.1 hx).1
  obtain ⟨b, o, e, hb, hc⟩ := hr (by omega)
  obtain ⟨u, hu⟩ : ∃ u, vs[i]? = some u := ⟨_, List.getElem?_eq_getElem (by rw [hl]; exact hi)⟩
  obtain ⟨h0, h1, h2⟩ := stepsC_get xs vs i x u hx hu
  exact ⟨b, o, u, e, hb, hc _ _ h0, hc _ _ h1, hc _ _ h2, hs i x u hx hu⟩
set_option maxRecDepth 100000 in
set_option maxHeartbeats 4000000 in
theorem Check_any (s : Scr) (v : Value) (B : Nat) (w : World) (h : ScrAt w B v s) (hB : B ≤ w.heap.size) (hin : ScrIn s) (hK : KTab w) (hL : LibAt w) :
    Calls Tryz.prog 15 #[v] w (CheckPost s w) := by
  obtain ⟨vt, vs, rfl, ht, hs⟩ := h
  obtain ⟨At, ct, rfl, _⟩ := id ht
  have hs2 := hs
  obtain ⟨_, _, ⟨As, cs, rfl, _⟩, _⟩ := hs2
  have HT := Lib.hid ht
  have HS := Lib.hid hs
  have HI := Lib.hid hin
  have HK := Lib.hid hK
  have HL := Lib.hid hL
  have hBH := Lib.hid hB
  obtain ⟨T, hT⟩ : ∃ n, s.texts.length = n := ⟨_, rfl⟩
  obtain ⟨N, hN⟩ : ∃ n, s.steps.length = n := ⟨_, rfl⟩
  have hTl : T ≤ 17592186044416 := by rw [← hT]; exact hin.nt
  have hNl : N ≤ 17592186044416 := by rw [← hN]; exact hin.ns
  have hTH := Lib.hid hT
  have hNH := Lib.hid hN
  rw [hT, hN]
  clear ht hs hin hK hL hB hT hN
  go_enter Tryz.func15, Tryz.ntmps15
  go_upto_region 1 with fail
  refine world_is (P := fun W => Code.wp _ _ _ _ W) (fun W1 hW1 => ?_)
  have B1 : Hid (Below w.heap.size w W1) := by unfold Hid; rw [← hW1]; exact (Below.refl _ _).alloc (Nat.le_refl _) _
  have X1 : Hid (Blk W1 w.heap.size 25 #[.slice At T ct, .slice As N cs]) := by unfold Hid; rw [← hW1]; exact Blk.new _ _ _
  obtain ⟨g, hg⟩ : ∃ g, w.heap.size = g := ⟨_, rfl⟩
  rw [hg] at X1 ⊢
  clear hW1 hg
  have x0 := X1.out.cell 0
  have x1 := X1.out.cell 1
  by_cases h8 : 8 < T
  case pos =>
    have d1 : decide (8 < T) = true := decide_eq_true h8
    have d2 : decide ((8 : Int) < (T : Int)) = true := decide_eq_true (by omega)
    have hR := Lib.hid (checkS_long (s := s) (.inl (by rw [hTH.out]; exact h8)))
    clear h8 hTl hNl
    go_wp2_with fail
    go_ret2
    exact ⟨by rw [hR.out]; rfl, B1.out⟩
  case neg =>
  have d1 : decide (8 < T) = false := decide_eq_false h8
  have d2 : decide ((8 : Int) < (T : Int)) = false := decide_eq_false (by omega)
  by_cases h4 : 400 < N
  case pos =>
    have d3 : decide (400 < N) = true := decide_eq_true h4
    have d4 : decide ((400 : Int) < (N : Int)) = true := decide_eq_true (by omega)
    have hR := Lib.hid (checkS_long (s := s) (.inr (.inl (by rw [hNH.out]; exact h4))))
    clear h8 h4 hTl hNl
    go_wp2_with fail
    go_ret2
    exact ⟨by rw [hR.out]; rfl, B1.out⟩
  case neg =>
  have d3 : decide (400 < N) = false := decide_eq_false h4
  have d4 : decide ((400 : Int) < (N : Int)) = false := decide_eq_false (by omega)
  have hT1 := HT.out.below (B1.out.mono hBH.out)
  rw [hTH.out] at hT1
  have HL1 := Lib.hid (HasStr_any (g := 36) (fun t W ht => LongC_any t W ht) (enters_of Tryz.func36 (by kernel_rfl) rfl) s.texts _ B W1 (by rw [hTH.out]; exact hT1) (Nat.le_trans hBH.out B1.out.size) HI.out.nt HI.out.txt)
  obtain ⟨lo, hlo⟩ : ∃ b, (s.texts.any fun t => decide (4000 < t.size)) = b := ⟨_, rfl⟩
  rw [hlo] at HL1
  have hloH := Lib.hid hlo
  have h8H := Lib.hid h8
  have h4H := Lib.hid h4
  clear hT1 hlo h8 h4
  go_wp2_with fail
  refine HL1.out.mono ?_
  rintro e w2 ⟨rfl, hB2⟩
  have X2 := Lib.hid (X1.out.below hB2 X1.out.lt)
  have B2 := Lib.hid (B1.out.trans (hB2.mono B1.out.size))
  clear hB2 X1 B1 x0 x1 HL1 d1 d2 d3 d4
  cases lo
  case true =>
    have hR := Lib.hid (checkS_long (s := s) (.inr (.inr hloH.out)))
    clear hTl hNl
    go_wp2_with fail
    go_ret2
    exact ⟨by rw [hR.out]; rfl, B2.out⟩
  case false =>
  have hno : Hid (¬ (8 < s.texts.length ∨ 400 < s.steps.length ∨ (s.texts.any fun t => decide (4000 < t.size)) = true)) := by
    unfold Hid
    rw [hTH.out, hNH.out, hloH.out]
    rintro (h | h | h)
    · exact h8H.out h
    · exact h4H.out h
    · cases h
  have x0 := X2.out.cell 0
  have hT2 := HT.out.below (B2.out.mono hBH.out)
  have HO := Lib.hid (HasStr_any (g := 37) (fun t W ht => OddC_any t W) (enters_of Tryz.func37 (by kernel_rfl) rfl) s.texts _ B w2 hT2 (Nat.le_trans hBH.out B2.out.size) HI.out.nt HI.out.txt)
  rw [hTH.out] at HO
  obtain ⟨od, hod⟩ : ∃ b, s.texts.any oddT = b := ⟨_, rfl⟩
  rw [hod] at HO
  have hodH := Lib.hid hod
  clear hT2 hod
  go_wp2_with fail
  refine HO.out.mono ?_
  rintro e w3 ⟨rfl, hB3⟩
  have X3 := Lib.hid (X2.out.below hB3 X2.out.lt)
  have B3 := Lib.hid (B2.out.trans (hB3.mono B2.out.size))
  clear hB3 X2 B2 x0 HO
  cases od
  case true =>
    have hR := Lib.hid (checkS_odd hno.out hodH.out)
    clear hTl hNl
    go_wp2_with fail
    go_ret2
    exact ⟨by rw [hR.out]; rfl, B3.out⟩
  case false =>
  have hR := Lib.hid (checkS_step hno.out hodH.out)
  have x1 := X3.out.cell 1
  clear hTl
  go_wp2_with fail
  go_loopw [33] (fun v33 wr => ∃ i : Nat, v33 = .int .i64 (i : Int) ∧ i ≤ N ∧ Hid (s.steps.findIdx badS = i + (s.steps.drop i).findIdx badS) ∧ Hid (Below w3.heap.size w3 wr)) (fun v33 _ => N - (intOf v33).toNat)
  case atStart => exact ⟨0, rfl, Nat.zero_le _, by unfold Hid; rw [List.drop_zero, Nat.zero_add], Below.refl _ _⟩
  case round =>
  obtain ⟨i, rfl, hi, hE, hLr⟩ := hrel
  obtain ⟨w4, hw4⟩ : ∃ x, x = wr := ⟨_, rfl⟩
  subst hw4
  clear x1
  have B4 := Lib.hid (B3.out.trans (hLr.out.mono B3.out.size))
  by_cases hlt : i < N
  · have d1 : decide (i < N) = true := decide_eq_true hlt
    have d2 : decide ((i : Int) < (N : Int)) = true := decide_eq_true (by omega)
    obtain ⟨x, hx⟩ : ∃ x, s.steps[i]? = some x := ⟨_, List.getElem?_eq_getElem (by rw [hNH.out]; exact hlt)⟩
    have hSr := HS.out.below (B4.out.mono hBH.out)
    obtain ⟨b, o, u, rfl, hb, k0, k1, k2, hu⟩ := hSr.at_ hx
    obtain ⟨Au, cu, rfl, _⟩ := id hu
    have hxin := HI.out.stp x (List.mem_iff_getElem?.2 ⟨i, hx⟩)
    have hstep := Lib.hid (idx_step badS hx)
    have q0 : (0 : Int) ≤ (i : Int) := by omega
    have q1 : (i : Int) < (N : Int) := by omega
    have hltH := Lib.hid hlt
    have HU := Lib.hid hu
    have HX := Lib.hid hxin
    obtain ⟨n, hn⟩ : ∃ n, x.args.length = n := ⟨_, rfl⟩
    obtain ⟨kd, hkd⟩ : ∃ n, x.kind = n := ⟨_, rfl⟩
    obtain ⟨tx, htx⟩ : ∃ n, x.text = n := ⟨_, rfl⟩
    rw [hn] at k1
    rw [hkd] at k0
    rw [htx] at k2
    have hnH := Lib.hid hn
    have hkdH := Lib.hid hkd
    have htxH := Lib.hid htx
    clear hx hSr hu hxin hlt hb hn hkd htx
    go_upto_region 10 with fail
    refine world_is (P := fun W => Code.wp _ _ _ _ W) (fun W5 hW5 => ?_)
    have hB5 : Below w4.heap.size w4 W5 := by rw [← hW5]; exact (Below.refl _ _).alloc (Nat.le_refl _) _
    have Y5 : Hid (Blk W5 w4.heap.size 53 #[.int .i64 kd, .slice Au n cu, .string tx]) := by unfold Hid; rw [← hW5]; exact Blk.new _ _ _
    have B5 := Lib.hid (B4.out.trans (hB5.mono B4.out.size))
    have L5 := Lib.hid (hLr.out.trans (hB5.mono hLr.out.size))
    have U5 := Lib.hid (HU.out.below (hB5.mono (Nat.le_trans hBH.out B4.out.size)))
    obtain ⟨y, hy⟩ : ∃ g, w4.heap.size = g := ⟨_, rfl⟩
    rw [hy] at Y5 ⊢
    clear hW5 hy hB5 k0 k1 k2 hLr HU B4
    have y0 := Y5.out.cell 0
    have y1 := Y5.out.cell 1
    have y2 := Y5.out.cell 2
    have HC := isStep_any x (.slice Au x.args.length cu) B W5 U5.out (Nat.le_trans hBH.out B5.out.size) HX.out.nargs HX.out.text (HK.out.below B5.out) (HL.out.below B5.out)
    rw [hnH.out, hkdH.out, htxH.out] at HC
    obtain ⟨ok, hok⟩ : ∃ b, stepOk x = b := ⟨_, rfl⟩
    have hbd : badS x = !ok := by unfold badS; rw [hok]
    rw [hok] at HC
    rw [hbd] at hstep
    have HCH := Lib.hid HC
    clear hok hbd HC
    go_wp2_with fail
    refine HCH.out.mono ?_
    rintro e w6 ⟨rfl, hB6⟩
    have B6 := Lib.hid (B5.out.trans (hB6.mono B5.out.size))
    have L6 := Lib.hid (L5.out.trans (hB6.mono L5.out.size))
    clear hB6 B5 L5 y0 y1 y2 HCH Y5 U5
    cases ok
    case false =>
      rw [if_pos (show (!false) = true from rfl)] at hstep
      have hF : Hid (checkS s = ((i : Int), 1)) := by
        unfold Hid
        rw [hR.out, hE.out, hstep.out, hNH.out, if_pos (by have := hltH.out; omega)]
        rfl
      go_wp2_with fail
      go_ret2
      exact ⟨by rw [hF.out]; rfl, B6.out⟩
    case true =>
      rw [if_neg (show ¬ (!true) = true by decide)] at hstep
      go_wp2_with fail
      go_roundw
      case rel => exact ⟨i + 1, by go_num, hltH.out, by unfold Hid; rw [hE.out, hstep.out]; omega, L6⟩
      case measure => have := hltH.out; simp [intOf]; omega
  · have d1 : decide (i < N) = false := decide_eq_false hlt
    have d2 : decide ((i : Int) < (N : Int)) = false := decide_eq_false (by omega)
    have hF : Hid (checkS s = (0, 0)) := by
      unfold Hid
      rw [hR.out, hE.out, hNH.out, if_neg (by omega)]
    clear hlt
    go_wp2_with fail
    go_ret2
    exact ⟨by rw [hF.out]; rfl, B4.out⟩
end Go.Proofs.YtldkfhimpkiigaaGreatDoor
