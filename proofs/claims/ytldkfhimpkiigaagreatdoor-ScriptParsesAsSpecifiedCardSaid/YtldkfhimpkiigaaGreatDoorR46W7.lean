/-
  Layer 46 (script), the specification: Check.
-/
import Derived.Test.YtldkfhimpkiigaaGreatDoorR46W6
import Derived.Test.YtldkfhimpkiigaaGreatDoorScrW6
namespace Go.Proofs.YtldkfhimpkiigaaGreatDoor
open Go.RowKit ScrP
attribute [local go_sem] Oper.semAt_some

/-- A text in a row. -/
theorem text_at {w : World} {B : Nat} {A : Option Addr} {c n : Nat} {l : List ByteArray} (h : RowAt w B (.slice A n c) n (strsC l)) (hn : l.length = n) {i : Nat} {t : ByteArray} (ht : l[i]? = some t) : ∃ b o, A = some ⟨b, o, none⟩ ∧ w.cell? ⟨b, o + i, none⟩ = some (.string t) := by
  obtain ⟨A', c', ev, hrow⟩ := h
  have hi := (List.getElem?_eq_some_iff.1 ht).1
  obtain ⟨b, o, eA, _, hcell⟩ := hrow (by omega)
  cases ev
  exact ⟨b, o, eA, hcell i (.string t) (by unfold strsC; rw [List.getElem?_map, ht]; rfl)⟩
theorem any_take_step {α : Type} (p : α → Bool) {l : List α} {i : Nat} {x : α} (hx : l[i]? = some x) (h : (l.take i).any p = false) : (l.take (i + 1)).any p = p x := by
  rw [take_m4 hx, List.any_append, h]
  simp
theorem any_mem {α : Type} (p : α → Bool) {l : List α} {i : Nat} {x : α} (hx : l[i]? = some x) (h : p x = true) : l.any p = true := List.any_eq_true.2 ⟨x, List.mem_of_getElem? hx, h⟩
set_option maxRecDepth 100000 in
set_option maxHeartbeats 12800000 in
theorem rCheck_any (s : Scr) (v : Value) (B : Nat) (w : World) (h : ScrAt w B v s) (hB : B ≤ w.heap.size) (hin : ScrIn s) :
    Calls Tryz.prog 16 #[v] w (CheckPost s w) := by
  obtain ⟨vt, vs, rfl, ht, hs⟩ := h
  obtain ⟨At, ct, rfl⟩ : ∃ A c, vt = .slice A s.texts.length c := ⟨ht.choose, ht.choose_spec.choose, ht.choose_spec.choose_spec.1⟩
  obtain ⟨As, cs, rfl⟩ : ∃ A c, vs = .slice A s.steps.length c := ⟨hs.choose_spec.2.1.choose, hs.choose_spec.2.1.choose_spec.choose, hs.choose_spec.2.1.choose_spec.choose_spec.1⟩
  have HT := Lib.hid ht
  have HS := Lib.hid hs
  have HI := Lib.hid hin
  have hBH := Lib.hid hB
  obtain ⟨T, hT⟩ : ∃ n, s.texts.length = n := ⟨_, rfl⟩
  obtain ⟨N, hN⟩ : ∃ n, s.steps.length = n := ⟨_, rfl⟩
  have hTl : T ≤ 17592186044416 := by rw [← hT]; exact hin.nt
  have hNl : N ≤ 17592186044416 := by rw [← hN]; exact hin.ns
  have hTH := Lib.hid hT
  have hNH := Lib.hid hN
  rw [hT] at HT
  rw [hT, hN]
  clear ht hs hin hB hT hN
  go_enter Tryz.func16, Tryz.ntmps16
  go_upto_region 1 with fail
  refine world_is (P := fun W => Code.wp _ _ _ _ W) (fun W1 hW1 => ?_)
  have B1 : Hid (Below w.heap.size w W1) := by unfold Hid; rw [← hW1]; exact (Below.refl _ _).alloc (Nat.le_refl _) _
  have X1 : Hid (Blk W1 w.heap.size 25 #[.slice At T ct, .slice As N cs]) := by unfold Hid; rw [← hW1]; exact Blk.new _ _ _
  obtain ⟨g, hg⟩ : ∃ g, w.heap.size = g := ⟨_, rfl⟩
  rw [hg] at X1 ⊢
  clear hW1 hg
  have x0 := X1.out.cell 0
  have x1 := X1.out.cell 1
  by_cases h8 : 8 < T
  case pos =>
    have d1 : decide (8 < T) = true := decide_eq_true h8
    have d2 : decide ((8 : Int) < (T : Int)) = true := decide_eq_true (by omega)
    have hR := Lib.hid (checkS_long (s := s) (.inl (by rw [hTH.out]; exact h8)))
    clear h8 hTl hNl
    go_wp2_with fail
    go_ret2
    exact ⟨by rw [hR.out]; rfl, B1.out⟩
  case neg =>
  have d1 : decide (8 < T) = false := decide_eq_false h8
  have d2 : decide ((8 : Int) < (T : Int)) = false := decide_eq_false (by omega)
  by_cases h4 : 400 < N
  case pos =>
    have d3 : decide (400 < N) = true := decide_eq_true h4
    have d4 : decide ((400 : Int) < (N : Int)) = true := decide_eq_true (by omega)
    have hR := Lib.hid (checkS_long (s := s) (.inr (.inl (by rw [hNH.out]; exact h4))))
    clear h8 h4 hTl hNl
    go_wp2_with fail
    go_ret2
    exact ⟨by rw [hR.out]; rfl, B1.out⟩
  case neg =>
  have d3 : decide (400 < N) = false := decide_eq_false h4
  have d4 : decide ((400 : Int) < (N : Int)) = false := decide_eq_false (by omega)
  have HT1 := Lib.hid (HT.out.below (B1.out.mono hBH.out))
  have hT8 : T ≤ 8 := by omega
  have hN4 : N ≤ 400 := by omega
  have h8H := Lib.hid h8
  have h4H := Lib.hid h4
  clear h8 h4
  go_wp2_with fail
  go_loopw [4] (fun v4 wr => ∃ i : Nat, v4 = .int .i64 (i : Int) ∧ Hid (i ≤ T) ∧ Hid (((s.texts.take i).any fun t => decide (4000 < t.size)) = false) ∧ wr = W1) (fun v4 _ => T - (intOf v4).toNat)
  case atStart => exact ⟨0, rfl, Nat.zero_le _, rfl, rfl⟩
  case round =>
  obtain ⟨i, rfl, hi, hA, rfl⟩ := hrel
  obtain ⟨w3, hw3⟩ : ∃ x, x = wr := ⟨_, rfl⟩
  subst hw3
  clear d1 d2 d3 d4
  by_cases hlt : i < T
  · have m1 : decide (i < T) = true := decide_eq_true hlt
    have m2 : decide ((i : Int) < (T : Int)) = true := decide_eq_true (by omega)
    have m3 : (0 : Int) ≤ (i : Int) := by omega
    have m4 : (i : Int) < (T : Int) := by omega
    obtain ⟨t, hx⟩ : ∃ a, s.texts[i]? = some a := ⟨_, List.getElem?_eq_getElem (by rw [hTH.out]; exact hlt)⟩
    obtain ⟨b, o, rfl, ca⟩ := text_at HT1.out hTH.out hx
    have hltH := Lib.hid hlt
    have hst := any_take_step (fun t : ByteArray => decide (4000 < t.size)) hx hA.out
    have hstH := Lib.hid hst
    have hxH := Lib.hid hx
    clear hx hst hlt
    by_cases g1 : 4000 < t.size
    · have p1 : decide (4000 < t.size) = true := decide_eq_true g1
      have p2 : decide ((4000 : Int) < (t.size : Int)) = true := decide_eq_true (by omega)
      have p3 : (4000 : Int) < (t.size : Int) := by omega
      have hR := Lib.hid (checkS_long (s := s) (.inr (.inr (any_mem _ hxH.out p1))))
      clear g1 p1
      go_wp2_with fail
      go_ret2
      exact ⟨by rw [hR.out]; rfl, B1.out⟩
    · have p2 : decide ((4000 : Int) < (t.size : Int)) = false := decide_eq_false (by omega)
      have p3 : ¬ (4000 : Int) < (t.size : Int) := by omega
      have hnew : Hid (((s.texts.take (i + 1)).any fun t => decide (4000 < t.size)) = false) := by unfold Hid; rw [hstH.out, decide_eq_false g1]
      clear g1
      go_wp2_with fail
      go_roundw
      case rel => exact ⟨i + 1, by go_num, hltH.out, hnew.out, by first | rfl | trivial⟩
      case measure => have := hltH.out; simp [intOf]; omega
  · have m1 : decide (i < T) = false := decide_eq_false hlt
    have m2 : decide ((i : Int) < (T : Int)) = false := decide_eq_false (by omega)
    have hno : Hid (¬ (8 < s.texts.length ∨ 400 < s.steps.length ∨ (s.texts.any fun t => decide (4000 < t.size)) = true)) := by
      unfold Hid
      have h9 := hA.out
      rw [List.take_of_length_le (by rw [hTH.out]; have := hi.out; omega)] at h9
      rw [hTH.out, hNH.out, h9]
      rintro (h | h | h)
      · exact h8H.out h
      · exact h4H.out h
      · cases h
    clear hlt
    go_wp2_with fail
    go_loopw [5] (fun v5 wr2 => ∃ i : Nat, v5 = .int .i64 (i : Int) ∧ Hid (i ≤ T) ∧ Hid (((s.texts.take i).any oddT) = false) ∧ wr2 = w3) (fun v5 _ => T - (intOf v5).toNat)
    case atStart => exact ⟨0, rfl, Nat.zero_le _, rfl, rfl⟩
    case round =>
    clear hi hA m1 m2
    obtain ⟨i2, rfl, hi, hA, rfl⟩ := hrel
    obtain ⟨w4, hw4⟩ : ∃ x, x = wr := ⟨_, rfl⟩
    subst hw4
    by_cases hlt : i2 < T
    · have m1 : decide (i2 < T) = true := decide_eq_true hlt
      have m2 : decide ((i2 : Int) < (T : Int)) = true := decide_eq_true (by omega)
      have m3 : (0 : Int) ≤ (i2 : Int) := by omega
      have m4 : (i2 : Int) < (T : Int) := by omega
      obtain ⟨t, hx⟩ : ∃ a, s.texts[i2]? = some a := ⟨_, List.getElem?_eq_getElem (by rw [hTH.out]; exact hlt)⟩
      obtain ⟨b, o, rfl, ca⟩ := text_at HT1.out hTH.out hx
      have hltH := Lib.hid hlt
      have hst := any_take_step oddT hx hA.out
      have hstH := Lib.hid hst
      have hxH := Lib.hid hx
      have htz : t.size ≤ 140737488355328 := HI.out.txt t (List.mem_of_getElem? hx)
      have hlen : Hid (t.data.toList.length = t.size) := Array.length_toList
      clear hx hst hlt
      go_wp2_with fail
      go_loopw [6] (fun v6 wr2 => ∃ j : Nat, v6 = .int .i64 (j : Int) ∧ Hid (j ≤ t.size) ∧ Hid (((t.data.toList.take j).any oddB) = false) ∧ wr2 = w4) (fun v6 _ => t.size - (intOf v6).toNat)
      case atStart => exact ⟨0, rfl, Nat.zero_le _, rfl, rfl⟩
      case round =>
      clear m1 m2
      obtain ⟨j, rfl, hj, hB2, rfl⟩ := hrel
      by_cases hjl : j < t.size
      · have m1 : decide (j < t.size) = true := decide_eq_true hjl
        have m2 : decide ((j : Int) < (t.size : Int)) = true := decide_eq_true (by omega)
        have m5 : j < 140737488355328 := by omega
        obtain ⟨c, hc⟩ : ∃ c, t.data.toList[j]? = some c := ⟨_, List.getElem?_eq_getElem (by rw [hlen.out]; exact hjl)⟩
        have ic := str_index hc
        have hcH := Lib.hid hc
        have hjlH := Lib.hid hjl
        have hst2 := any_take_step oddB hc hB2.out
        have hst2H := Lib.hid hst2
        clear hc hst2 hjl
        by_cases c10 : c = 10
        · have n1 : ((c.toNat : Int) != 10) = false := by rw [c10]; rfl
          have hnew : Hid (((t.data.toList.take (j + 1)).any oddB) = false) := by unfold Hid; rw [hst2H.out, c10]; rfl
          clear c10
          go_wp2_with fail
          go_roundw
          case rel => exact ⟨j + 1, by go_num, hjlH.out, hnew.out, by first | rfl | trivial⟩
          case measure => have := hjlH.out; simp [intOf]; omega
        · have cne : (c == 10) = false := beq_eq_false_iff_ne.2 c10
          have n1 : ((c.toNat : Int) != 10) = true := by
            rw [bne_iff_ne]
            intro e
            exact c10 (UInt8.toNat_inj.1 (by rw [show (10 : UInt8).toNat = 10 from rfl]; omega))
          by_cases c32 : c.toNat < 32
          · have n2 : decide ((c.toNat : Int) < 32) = true := decide_eq_true (by omega)
            have hodd : oddB c = true := by unfold oddB; rw [cne, decide_eq_true c32]; rfl
            have hR := Lib.hid (checkS_odd hno.out (any_mem oddT hxH.out (any_mem oddB hcH.out hodd)))
            clear c10 cne c32 hodd
            go_wp2_with fail
            go_ret2
            exact ⟨by rw [hR.out]; rfl, B1.out⟩
          · have n2 : decide ((c.toNat : Int) < 32) = false := decide_eq_false (by omega)
            by_cases c126 : 126 < c.toNat
            · have n3 : decide ((126 : Int) < (c.toNat : Int)) = true := decide_eq_true (by omega)
              have hodd : oddB c = true := by unfold oddB; rw [cne, decide_eq_true c126]; simp
              have hR := Lib.hid (checkS_odd hno.out (any_mem oddT hxH.out (any_mem oddB hcH.out hodd)))
              clear c10 cne c32 c126 hodd
              go_wp2_with fail
              go_ret2
              exact ⟨by rw [hR.out]; rfl, B1.out⟩
            · have n3 : decide ((126 : Int) < (c.toNat : Int)) = false := decide_eq_false (by omega)
              have hnew : Hid (((t.data.toList.take (j + 1)).any oddB) = false) := by unfold Hid; rw [hst2H.out]; unfold oddB; rw [cne, decide_eq_false c32, decide_eq_false c126]; rfl
              clear c10 cne c32 c126
              go_wp2_with fail
              go_roundw
              case rel => exact ⟨j + 1, by go_num, hjlH.out, hnew.out, by first | rfl | trivial⟩
              case measure => have := hjlH.out; simp [intOf]; omega
      · have m1 : decide (j < t.size) = false := decide_eq_false hjl
        have m2 : decide ((j : Int) < (t.size : Int)) = false := decide_eq_false (by omega)
        have hnew : Hid (((s.texts.take (i2 + 1)).any oddT) = false) := by
          unfold Hid
          rw [hstH.out]
          unfold oddT
          have h9 := hB2.out
          rw [List.take_of_length_le (by rw [hlen.out]; have := hj.out; omega)] at h9
          exact h9
        clear hjl
        go_wp2_with fail
        go_roundw
        case rel => exact ⟨i2 + 1, by go_num, hltH.out, hnew.out, by first | rfl | trivial⟩
        case measure => have := hltH.out; simp [intOf]; omega
    · have m1 : decide (i2 < T) = false := decide_eq_false hlt
      have m2 : decide ((i2 : Int) < (T : Int)) = false := decide_eq_false (by omega)
      have hR : Hid (checkS s = if s.steps.findIdx badS < s.steps.length then (((s.steps.findIdx badS : Nat) : Int), 1) else (0, 0)) := by
        unfold Hid
        have h9 := hA.out
        rw [List.take_of_length_le (by rw [hTH.out]; have := hi.out; omega)] at h9
        exact checkS_step hno.out h9
      clear hlt
      go_wp2_with fail
      go_loopw [8] (fun v8 wr2 => ∃ i : Nat, v8 = .int .i64 (i : Int) ∧ Hid (i ≤ N) ∧ Hid (s.steps.findIdx badS = i + (s.steps.drop i).findIdx badS) ∧ Hid (Below w4.heap.size w4 wr2)) (fun v8 _ => N - (intOf v8).toNat)
      case atStart => exact ⟨0, rfl, Nat.zero_le _, by unfold Hid; rw [List.drop_zero, Nat.zero_add], Below.refl _ _⟩
      case round =>
      clear m1 m2 x0 x1
      obtain ⟨k, rfl, hk, hE, hLr⟩ := hrel
      obtain ⟨w5, hw5⟩ : ∃ x, x = wr := ⟨_, rfl⟩
      subst hw5
      have B4 := Lib.hid (B1.out.trans (hLr.out.mono B1.out.size))
      have X4 := Lib.hid (X1.out.below hLr.out X1.out.lt)
      have x1 := X4.out.cell 1
      by_cases hlt : k < N
      · have d1 : decide (k < N) = true := decide_eq_true hlt
        have d2 : decide ((k : Int) < (N : Int)) = true := decide_eq_true (by omega)
        obtain ⟨x, hx⟩ : ∃ x, s.steps[k]? = some x := ⟨_, List.getElem?_eq_getElem (by rw [hNH.out]; exact hlt)⟩
        have hSr := HS.out.below (B4.out.mono hBH.out)
        obtain ⟨b, o, u, rfl, hb, k0, k1, k2, hu⟩ := hSr.at_ hx
        obtain ⟨Au, cu, rfl⟩ : ∃ A c, u = .slice A x.args.length c := ⟨hu.choose, hu.choose_spec.choose, hu.choose_spec.choose_spec.1⟩
        have hxin := HI.out.stp x (List.mem_iff_getElem?.2 ⟨k, hx⟩)
        have hstep := Lib.hid (idx_step badS hx)
        have q0 : (0 : Int) ≤ (k : Int) := by omega
        have q1 : (k : Int) < (N : Int) := by omega
        have hltH := Lib.hid hlt
        have HU := Lib.hid hu
        have HC := risStep_any x (.slice Au x.args.length cu) B w5 HU.out (Nat.le_trans hBH.out B4.out.size) hxin.nargs hxin.text
        obtain ⟨n, hn⟩ : ∃ n, x.args.length = n := ⟨_, rfl⟩
        obtain ⟨kd, hkd⟩ : ∃ n, x.kind = n := ⟨_, rfl⟩
        obtain ⟨tx, htx⟩ : ∃ n, x.text = n := ⟨_, rfl⟩
        rw [hn] at k1
        rw [hkd] at k0
        rw [htx] at k2
        rw [hn, hkd, htx] at HC
        obtain ⟨ok, hok⟩ : ∃ b, stepOk x = b := ⟨_, rfl⟩
        have hbd : badS x = !ok := by unfold badS; rw [hok]
        rw [hok] at HC
        rw [hbd] at hstep
        have HCH := Lib.hid HC
        clear hx hSr hu hxin hlt hb hn hkd htx hok hbd HC
        go_wp2_with fail
        refine HCH.out.mono ?_
        rintro e w6 ⟨rfl, hB6⟩
        have B6 := Lib.hid (B4.out.trans (hB6.mono B4.out.size))
        have L6 := Lib.hid (hLr.out.trans (hB6.mono hLr.out.size))
        clear hB6 B4 hLr k0 k1 k2 HCH HU X4 x1
        cases ok
        case false =>
          have hst2 := hstep.out
          rw [if_pos (show (!false) = true from rfl)] at hst2
          have hF : Hid (checkS s = ((k : Int), 1)) := by
            unfold Hid
            rw [hR.out, hE.out, hst2, hNH.out, if_pos (by have := hltH.out; omega)]
            rfl
          clear hst2
          go_wp2_with fail
          go_ret2
          exact ⟨by rw [hF.out]; rfl, B6.out⟩
        case true =>
          have hst2 := hstep.out
          rw [if_neg (show ¬ (!true) = true by decide)] at hst2
          have hst3 := Lib.hid hst2
          clear hst2
          go_wp2_with fail
          go_roundw
          case rel => exact ⟨k + 1, by go_num, hltH.out, by unfold Hid; rw [hE.out, hst3.out]; omega, L6⟩
          case measure => have := hltH.out; simp [intOf]; omega
      · have d1 : decide (k < N) = false := decide_eq_false hlt
        have d2 : decide ((k : Int) < (N : Int)) = false := decide_eq_false (by omega)
        have hF : Hid (checkS s = (0, 0)) := by
          unfold Hid
          rw [hR.out, hE.out, hNH.out, if_neg (by omega)]
        clear hlt
        go_wp2_with fail
        go_ret2
        exact ⟨by rw [hF.out]; rfl, B4.out⟩
end Go.Proofs.YtldkfhimpkiigaaGreatDoor
