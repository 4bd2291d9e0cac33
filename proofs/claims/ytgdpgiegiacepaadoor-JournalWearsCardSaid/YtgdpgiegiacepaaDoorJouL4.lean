/-
  Layer 25 (journal): the law of the worn sectors. (Written by a small program.)
-/
import Derived.Test.YtgdpgiegiacepaaDoorJouL3
import Derived.Deep.CutRange
namespace Go.Proofs.YtgdpgiegiacepaaDoor
open Go.RowKit Go.Shelf
open Sec (mostN countN)
attribute [local go_sem] Oper.semAt_some

section
variable {W : World}
set_option maxRecDepth 100000 in
set_option maxHeartbeats 1600000 in
theorem wears_bad (x : Int) (A : Option Addr) (N c : Nat) (h : ¬ (2 ≤ x ∧ x ≤ 40 ∧ N ≤ 40)) :
    Calls Tryd.prog 5 #[.int .i64 x, .slice A N c] W fun e w' => e = .returned (.bool true) ∧ Below W.heap.size W w' := by
  have HS := Lib.hid (sanity_true W)
  by_cases h1 : x < 2
  · have d1 : decide (x < 2) = true := decide_eq_true h1
    clear h h1
    go_enter Tryd.func5, Tryd.ntmps5
    go_wp2_with (first | (go_at_call 6; refine HS.out.mono ?_; rintro e w1 ⟨rfl, hB⟩))
    go_ret
    exact ⟨rfl, hB⟩
  · have d1 : decide (x < 2) = false := decide_eq_false h1
    by_cases h2 : 40 < x
    · have d2 : decide (40 < x) = true := decide_eq_true h2
      clear h h1 h2
      go_enter Tryd.func5, Tryd.ntmps5
      go_wp2_with (first | (go_at_call 6; refine HS.out.mono ?_; rintro e w1 ⟨rfl, hB⟩))
      go_ret
      exact ⟨rfl, hB⟩
    · have d2 : decide (40 < x) = false := decide_eq_false h2
      have d3 : decide (40 < N) = true := decide_eq_true (by omega)
      have d3' : decide (40 < (N : Int)) = true := decide_eq_true (by omega)
      clear h h1 h2
      go_enter Tryd.func5, Tryd.ntmps5
      go_wp2_with (first | (go_at_call 6; refine HS.out.mono ?_; rintro e w1 ⟨rfl, hB⟩))
      go_ret
      exact ⟨rfl, hB⟩
theorem hist_new (w : World) : Blk (w.alloc (.cells #[.slice none 0 0, .int .i64 0] 42)) w.heap.size 42 #[.slice none 0 0, .int .i64 0] ∧ Below w.heap.size w (w.alloc (.cells #[.slice none 0 0, .int .i64 0] 42)) :=
  ⟨Blk.new w _ _, (Below.refl _ w).alloc (Nat.le_refl _) _⟩
set_option maxRecDepth 100000 in
set_option maxHeartbeats 8000000 in
theorem wears_loop (n : Nat) (hn : 2 ≤ n ∧ n ≤ 40) (v : Value) (ops : List JStep) (hv : JStepsAt W v ops) (ho : ∀ (i : Nat) (o : JStep), ops[i]? = some o → o.ok) (hN : ops.length ≤ 40) :
    Calls Tryd.prog 5 #[.int .i64 n, v] W fun e w' => e = .returned (.bool true) ∧ Below W.heap.size W w' := by
  obtain ⟨A, c, rfl, hA⟩ := hv
  have HD := Lib.hid (start_any W W (Below.refl _ W) n hn)
  have HA := Lib.hid hA
  have HO := Lib.hid ho
  have HN := Lib.hid hN
  have d1 : decide (n < 2) = false := decide_eq_false (by omega)
  have d1' : decide ((n : Int) < 2) = false := decide_eq_false (by omega)
  have d2 : decide (40 < n) = false := decide_eq_false (by omega)
  have d2' : decide (40 < (n : Int)) = false := decide_eq_false (by omega)
  have d3 : decide (40 < ops.length) = false := decide_eq_false (by omega)
  have d3' : decide (40 < (ops.length : Int)) = false := decide_eq_false (by omega)
  clear hA ho hn hN
  go_enter Tryd.func5, Tryd.ntmps5
  go_wp2_with (first | (go_at_call 7; refine HD.out.mono ?_; rintro e w1 ⟨a, jb, v0, rfl, H0, HB0⟩))
  obtain ⟨hx, hxB⟩ := hist_new w1
  have H1 := Lib.hid (H0.out.on hxB)
  have HH1 : Hid (HIs (w1.alloc (.cells #[.slice none 0 0, .int .i64 0] 42)) a w1.heap.size (J0.l.map Prod.snd) (lastN J0.l) (.slice none 0 0)) :=
    ⟨hx, World.ownsRow_nil _ _ _ _, fun g e => by cases e⟩
  have hW : W.heap.size ≤ w1.heap.size := H0.out.bel.size
  generalize (w1.alloc (.cells #[.slice none 0 0, .int .i64 0] 42)) = w2 at *
  generalize w1.heap.size = hb at *
  clear H0 HB0 HD hx hxB
  go_wp2_with fail
  go_loopw [6, 37] (fun jv i wr => ∃ (k jb : Nat) (v u : Value) (J : Jrn) (D : Dev), k ≤ ops.length ∧ jv = .pointer (some ⟨jb, 0, none⟩) ∧ i = .int .i64 k ∧ Hid (JSt W wr a n k jb v J D) ∧ Hid (HIs wr a hb (J.l.map Prod.snd) (lastN J.l) u)) (fun _ i _ => ops.length - (intOf i).toNat)
  case atStart => exact ⟨0, jb, v0, .slice none 0 0, J0, _, Nat.zero_le _, rfl, rfl, H1, HH1⟩
  case round =>
    clear H1 HH1
    obtain ⟨k, jb, v, u, J, D, hk, rfl, rfl, H, HH⟩ := hrel
    have hwk : wrap64 ((k : Int) + 1) = (k : Int) + 1 := by have := HN.out; unfold wrap64; omega
    by_cases hkl : k < ops.length
    · have Hkl := Lib.hid hkl
      obtain ⟨o, hk0⟩ : ∃ o, ops[k]? = some o := ⟨_, List.getElem?_eq_getElem hkl⟩
      obtain ⟨B, off, rfl, hbl, hat⟩ := HA.out (by omega)
      obtain ⟨A1, n1, cc, g0, g1, g2, g3, g4, hok⟩ := (hat k o hk0).below hbl H.out.bel
      have hoo := Lib.hid (HO.out k o hk0)
      have hP : Hid (IntsAt W (.slice A1 n1 cc) o.picks) := by
        obtain ⟨_, _, _, e, _, h3⟩ := hok
        cases e
        exact h3
      have hd1 : decide (k < ops.length) = true := decide_eq_true hkl
      have hk1 : Hid (k + 1 ≤ 100) := by have := HN.out; unfold Hid; omega
      obtain ⟨hx, hB⟩ := stepBox_new wr o.kind o.n o.size (o.fill : Int) (.slice A1 n1 cc)
      have H2 := Lib.hid (H.out.on hB)
      have HH2 := Lib.hid (HH.out.below hB)
      have HX2 := Lib.hid hx
      obtain ⟨x0, x1, x2, x3, x4⟩ := stepBox_cells hx
      obtain ⟨xb, hxb⟩ : ∃ xb, wr.heap.size = xb := ⟨_, rfl⟩
      obtain ⟨w3, hw3⟩ : ∃ w3, (wr.alloc (.cells #[.int .i64 o.kind, .int .i64 o.n, .int .i64 o.size, .int .u8 (o.fill : Int), .slice A1 n1 cc] 30)) = w3 := ⟨_, rfl⟩
      rw [hw3] at H2 HH2 HX2 x0 x1 x2 x3 x4
      rw [hxb] at HX2 x0 x1 x2 x3 x4
      clear hok hat hk0 hkl hx hB H HH
      go_upto_if 43 with fail
      go_cut [37] from 37 to 95 (fun i wx => i = .int .i64 k ∧ ∃ D', Hid (JSt W wx a n k jb v J D') ∧ Hid (HIs wx a hb (J.l.map Prod.snd) (lastN J.l) u) ∧ Hid (Blk wx xb 30 #[.int .i64 o.kind, .int .i64 o.n, .int .i64 o.size, .int .u8 (o.fill : Int), .slice A1 n1 cc]))
      case first =>
        by_cases q6 : o.kind = 6
        · have b6 : (o.kind == 6) = true := beq_iff_eq.2 q6
          clear q6
          go_wp2_with fail
          refine (H2.out.wear o.n).mono ?_
          rintro e w4 ⟨xr, rfl, H3, hF⟩
          have HH3 := Lib.hid (HH2.out.leftD H2.out.dev.dev hF.out)
          have HX3 : Hid (Blk w4 xb 30 #[.int .i64 o.kind, .int .i64 o.n, .int .i64 o.size, .int .u8 (o.fill : Int), .slice A1 n1 cc]) := (hF.out.blk H2.out.dev.dev HX2.out (fun e => by cases e) (fun e => by cases e) (fun e => by cases e) (fun e => by cases e)).trans HX2.out
          clear hF
          go_wp2_with fail
          go_meet
          case rel => exact ⟨rfl, _, H3, HH3, HX3⟩
        · have b6 : (o.kind == 6) = false := beq_eq_false_iff_ne.2 q6
          clear q6
          go_wp2_with fail
          go_meet
          case rel => exact ⟨rfl, _, H2, HH2, HX2⟩
      case rest =>
      obtain ⟨rfl, D', H3, HH3, HX3⟩ := hcut
      clear H2 HH2 HX2 x0 x1 x2 x3 x4
      obtain ⟨x0, x1, x2, x3, x4⟩ := stepBox_cells HX3.out
      go_upto_if 50 with fail
      go_cut [6, 37] from 37 to 95 (fun jv i wx => i = .int .i64 k ∧ ∃ (jb : Nat) (v : Value) (J : Jrn), jv = .pointer (some ⟨jb, 0, none⟩) ∧ Hid (JSt W wx a n k jb v J D') ∧ Hid (HIs wx a hb (J.l.map Prod.snd) (lastN J.l) u) ∧ Hid (Blk wx xb 30 #[.int .i64 o.kind, .int .i64 o.n, .int .i64 o.size, .int .u8 (o.fill : Int), .slice A1 n1 cc]))
      case first =>
        by_cases q4 : o.kind = 4
        · have b4 : (o.kind == 4) = true := beq_iff_eq.2 q4
          clear q4
          go_wp2_with fail
          refine (H3.out.mount _ _ hP.out).mono ?_
          rintro e w4 ⟨rfl, H4, hF⟩
          have HH4 := Lib.hid (HH3.out.leftD H3.out.dev.dev hF.out)
          have HX4 : Hid (Blk w4 xb 30 #[.int .i64 o.kind, .int .i64 o.n, .int .i64 o.size, .int .u8 (o.fill : Int), .slice A1 n1 cc]) := (hF.out.blk H3.out.dev.dev HX3.out (fun e => by cases e) (fun e => by cases e) (fun e => by cases e) (fun e => by cases e)).trans HX3.out
          clear hF
          go_wp2_with fail
          refine H4.out.open_.mono ?_
          rintro e w5 ⟨jc, v3, rfl, H5, hB⟩
          have hl4 : (jopen (n / 2) D'.M).l = J.l := by rw [jopen_eq H4.out.inv]
          have HH5 : Hid (HIs w5 a hb ((jopen (n / 2) D'.M).l.map Prod.snd) (lastN (jopen (n / 2) D'.M).l) u) := by
            unfold Hid
            rw [hl4]
            exact HH4.out.below hB.out
          have HX5 := Lib.hid (HX4.out.below hB.out HX4.out.lt)
          clear hB hl4
          go_wp2_with fail
          go_meet
          case rel => exact ⟨rfl, jc, v3, _, rfl, H5, HH5, HX5⟩
        · have b4 : (o.kind == 4) = false := beq_eq_false_iff_ne.2 q4
          clear q4
          go_wp2_with fail
          go_meet
          case rel => exact ⟨rfl, _, _, _, rfl, H3, HH3, HX3⟩
      case rest =>
      clear H3 HH3 HX3 x0 x1 x2 x3 x4
      obtain ⟨rfl, jb, v, J, rfl, H3, HH3, HX3⟩ := hcut
      obtain ⟨x0, x1, x2, x3, x4⟩ := stepBox_cells HX3.out
      go_wp2_with fail
      refine (hput_any H3.out HH3.out hW hk1.out o hoo.out A1 n1 cc).mono ?_
      rintro e w6 ⟨er, v6, u6, J6, D6, rfl, her, H6, HH6⟩
      clear H3 HH3 HX3 x0 x1 x2 x3 x4 g0 g1 g2 g3 g4 d1 d1' d2 d2' d3 d3' hd1 hP
      have y0 : w6.cell? ⟨hb, 0, none⟩ = some u6 := HH6.out.blk.cell 0
      go_upto_region 19 with fail
      go_cut [37, 94] from 37 to 95 (fun i r wx => i = .int .i64 k ∧ r = .bool false ∧ Hid (JSt W wx a n (k + 1) jb v6 J6 D6) ∧ Hid (HIs wx a hb (J6.l.map Prod.snd) (lastN J6.l) u6))
      case first =>
        rcases her with rfl | rfl | rfl
        · refine wp_region_held_drew (S := (fun w' => w'.cell? ⟨hb, 0, none⟩ = some u6)) (by kernel_rfl) y0 (fun hHeld => ?_)
          refine' wpAnyH_take (i := 0) (v := ?v0a0) rfl (by kernel_rfl) (by kernel_rfl) (by kernel_rfl) (fun _ _ _ h => h) (Or.inl ⟨by go_simp, ?hy0a0⟩) hHeld ?rest0a0
          case hy0a0 =>
            intro w hSw
            try dsimp only at hSw
            go_simp
            all_goals with_reducible rfl
          try simp only [Act.put, List.setIfInBounds_toArray, List.getElem_toArray]
          refine' wpAnyH_take (i := 1) (v := ?v1a0) rfl (by kernel_rfl) (by kernel_rfl) (by kernel_rfl) (fun _ _ _ h => h) (Or.inl ⟨by go_simp, ?hy1a0⟩) hHeld ?rest1a0
          case hy1a0 =>
            intro w hSw
            try dsimp only at hSw
            go_simp
            all_goals with_reducible rfl
          try simp only [Act.put, List.getElem_toArray]
          refine' wpAnyH_take (i := 2) (v := ?v2a0) rfl (by kernel_rfl) (by kernel_rfl) (by kernel_rfl) (fun _ _ _ h => h) (Or.inl ⟨by go_simp, ?hy2a0⟩) hHeld ?rest2a0
          case hy2a0 =>
            intro w hSw
            try dsimp only at hSw
            go_simp
            all_goals with_reducible rfl
          try simp only [Act.put, List.getElem_toArray]
          refine' wpAnyH_take (i := 3) (v := ?v3a0) rfl (by kernel_rfl) (by kernel_rfl) (by kernel_rfl) (fun _ _ _ h => h) (Or.inl ⟨by go_simp, ?hy3a0⟩) hHeld ?rest3a0
          case hy3a0 =>
            intro w hSw
            try dsimp only at hSw
            go_simp
            all_goals with_reducible rfl
          try simp only [Act.put, List.getElem_toArray]
          refine' wpAnyH_take (i := 4) (v := ?v4a0) rfl (by kernel_rfl) (by kernel_rfl) (by kernel_rfl) (fun _ _ _ h => h) (Or.inl ⟨by go_simp, ?hy4a0⟩) hHeld ?rest4a0
          case hy4a0 =>
            intro w hSw
            try dsimp only at hSw
            go_simp
            all_goals with_reducible rfl
          try simp only [Act.put, List.setIfInBounds_toArray, List.set_cons_zero, List.set_cons_succ, List.getElem_toArray, List.getElem_cons_zero]
          refine' wpAnyH_take (i := 5) (v := ?v5a0) rfl (by kernel_rfl) (by kernel_rfl) (by kernel_rfl) (fun _ _ _ h => h) (Or.inl ⟨by go_simp, ?hy5a0⟩) hHeld ?rest5a0
          case hy5a0 =>
            intro w hSw
            try dsimp only at hSw
            go_simp
            all_goals with_reducible rfl
          try simp only [Act.put, List.getElem_toArray]
          refine wpAnyH_take (i := 6) (v := undef) rfl (by kernel_rfl) (by kernel_rfl) (by kernel_rfl) (fun _ _ _ h => h) (Or.inr ⟨by go_simp, rfl⟩) hHeld ?_
          try simp only [Act.put, List.setIfInBounds_toArray, List.set_cons_zero, List.set_cons_succ, List.getElem_toArray, List.getElem_cons_zero, List.getElem_cons_succ]
          refine wpAnyH_take (i := 7) (v := undef) rfl (by kernel_rfl) (by kernel_rfl) (by kernel_rfl) (fun _ _ _ h => h) (Or.inr ⟨by go_simp, rfl⟩) hHeld ?_
          try simp only [Act.put, List.setIfInBounds_toArray, List.set_cons_zero, List.set_cons_succ, List.getElem_toArray, List.getElem_cons_zero, List.getElem_cons_succ]
          refine' wpAnyH_take (i := 8) (v := ?v8a0) rfl (by kernel_rfl) (by kernel_rfl) (by kernel_rfl) (fun _ _ _ h => h) (Or.inl ⟨by go_simp, ?hy8a0⟩) hHeld ?rest8a0
          case hy8a0 =>
            intro w hSw
            try dsimp only at hSw
            go_simp
            all_goals with_reducible rfl
          try simp only [Act.put, List.setIfInBounds_toArray, List.set_cons_zero, List.set_cons_succ, List.getElem_toArray, List.getElem_cons_zero, List.getElem_cons_succ]
          refine' wpAnyH_take (i := 9) (v := ?v9a0) rfl (by kernel_rfl) (by kernel_rfl) (by kernel_rfl) (fun _ _ _ h => h) (Or.inl ⟨by go_simp, ?hy9a0⟩) hHeld ?rest9a0
          case hy9a0 =>
            intro w hSw
            try dsimp only at hSw
            go_simp
            all_goals with_reducible rfl
          try simp only [Act.put, List.setIfInBounds_toArray, List.set_cons_zero, List.set_cons_succ, List.getElem_toArray, List.getElem_cons_zero, List.getElem_cons_succ]
          refine wpAnyH_take (i := 10) (v := undef) rfl (by kernel_rfl) (by kernel_rfl) (by kernel_rfl) (fun _ _ _ h => h) (Or.inr ⟨by go_simp, rfl⟩) hHeld ?_
          try simp only [Act.put, List.setIfInBounds_toArray, List.set_cons_zero, List.set_cons_succ, List.getElem_toArray, List.getElem_cons_zero, List.getElem_cons_succ]
          refine wpAnyH_take (i := 11) (v := undef) rfl (by kernel_rfl) (by kernel_rfl) (by kernel_rfl) (fun _ _ _ h => h) (Or.inr ⟨by go_simp, rfl⟩) hHeld ?_
          try simp only [Act.put, List.setIfInBounds_toArray, List.set_cons_zero, List.set_cons_succ, List.getElem_toArray, List.getElem_cons_zero, List.getElem_cons_succ]
          refine' wpAnyH_take (i := 12) (v := ?v12a0) rfl (by kernel_rfl) (by kernel_rfl) (by kernel_rfl) (fun _ _ _ h => h) (Or.inl ⟨by go_simp, ?hy12a0⟩) hHeld ?rest12a0
          case hy12a0 =>
            intro w hSw
            try dsimp only at hSw
            go_simp
            all_goals with_reducible rfl
          try simp only [Act.put, List.setIfInBounds_toArray, List.set_cons_zero, List.set_cons_succ, List.getElem_toArray, List.getElem_cons_zero, List.getElem_cons_succ]
          refine' wpAnyH_take (i := 13) (v := ?v13a0) rfl (by kernel_rfl) (by kernel_rfl) (by kernel_rfl) (fun _ _ _ h => h) (Or.inl ⟨by go_simp, ?hy13a0⟩) hHeld ?rest13a0
          case hy13a0 =>
            intro w hSw
            try dsimp only at hSw
            go_simp
            all_goals with_reducible rfl
          try simp only [Act.put, List.setIfInBounds_toArray, List.set_cons_zero, List.set_cons_succ, List.getElem_toArray, List.getElem_cons_zero, List.getElem_cons_succ]
          refine' wpAnyH_take (i := 14) (v := ?v14a0) rfl (by kernel_rfl) (by kernel_rfl) (by kernel_rfl) (fun _ _ _ h => h) (Or.inl ⟨by go_simp, ?hy14a0⟩) hHeld ?rest14a0
          case hy14a0 =>
            intro w hSw
            try dsimp only at hSw
            go_simp
            all_goals with_reducible rfl
          try simp only [Act.put, List.setIfInBounds_toArray, List.set_cons_zero, List.set_cons_succ, List.getElem_toArray, List.getElem_cons_zero, List.getElem_cons_succ]
          refine' wpAnyH_take (i := 15) (v := ?v15a0) rfl (by kernel_rfl) (by kernel_rfl) (by kernel_rfl) (fun _ _ _ h => h) (Or.inl ⟨by go_simp, ?hy15a0⟩) hHeld ?rest15a0
          case hy15a0 =>
            intro w hSw
            try dsimp only at hSw
            go_simp
            all_goals with_reducible rfl
          try simp only [Act.put, List.setIfInBounds_toArray, List.set_cons_zero, List.set_cons_succ, List.getElem_toArray, List.getElem_cons_zero, List.getElem_cons_succ]
          refine' wpAnyH_take (i := 17) (v := ?v17a0) rfl (by kernel_rfl) (by kernel_rfl) (by kernel_rfl) (fun _ _ _ h => h) (Or.inl ⟨by go_simp, ?hy17a0⟩) hHeld ?rest17a0
          case hy17a0 =>
            intro w hSw
            try dsimp only at hSw
            go_simp
            all_goals with_reducible rfl
          try simp only [Act.put, List.setIfInBounds_toArray, List.set_cons_zero, List.set_cons_succ, List.getElem_toArray, List.getElem_cons_zero, List.getElem_cons_succ]
          refine' wpAnyH_take (i := 18) (v := ?v18a0) rfl (by kernel_rfl) (by kernel_rfl) (by kernel_rfl) (fun _ _ _ h => h) (Or.inl ⟨by go_simp, ?hy18a0⟩) hHeld ?rest18a0
          case hy18a0 =>
            intro w hSw
            try dsimp only at hSw
            go_simp
            all_goals with_reducible rfl
          try simp only [Act.put, List.setIfInBounds_toArray, List.set_cons_zero, List.set_cons_succ, List.getElem_toArray, List.getElem_cons_zero, List.getElem_cons_succ]
          refine wpAnyH_ready (rs := [16]) (by kernel_rfl) (by simp) ?_
          refine AllReadyH.cons rfl (fun K hK => ?_) AllReadyH.nil
          go_simp
          go_at_call 15
          refine (H6.out.on ((Below.refl _ w6).drew)).records.mono ?_
          rintro e w7 ⟨ur, rfl, hT, H7⟩
          have HB7 := Lib.hid (Below.trans ((Below.refl _ w6).drew) hT.out.2.2)
          have HH7 := Lib.hid (HH6.out.below HB7.out)
          have hT7 := Lib.hid (textsAt_row hT.out.1)
          clear hT
          go_wp2_with fail
          refine hK.out _ _ ?_ (fun hHeld2 => ?_)
          · exact HH7.out.blk.cell 0
          clear hK K hHeld
          have hHeld := hHeld2
          clear hHeld2
          try simp only [Act.put, List.setIfInBounds_toArray, List.set_cons_zero, List.set_cons_succ, List.getElem_toArray, List.getElem_cons_zero, List.getElem_cons_succ]
          refine wpAnyH_ready (rs := [19]) (by kernel_rfl) (by simp) ?_
          refine AllReadyH.cons rfl (fun K hK => ?_) AllReadyH.nil
          go_simp
          go_at_call 19
          refine (jsame_true _ _ _ _ hT7.out HH7.out.texts).mono ?_
          rintro e w8 ⟨rfl, hB8⟩
          have H8 := Lib.hid (H7.out.on hB8)
          have HH8 := Lib.hid (HH7.out.below hB8)
          clear hB8
          go_wp2_with fail
          refine hK.out _ _ ?_ (fun hHeld2 => ?_)
          · exact HH8.out.blk.cell 0
          clear hK K hHeld
          have hHeld := hHeld2
          clear hHeld2
          try simp only [Act.put, List.setIfInBounds_toArray, List.set_cons_zero, List.set_cons_succ, List.getElem_toArray, List.getElem_cons_zero, List.getElem_cons_succ]
          refine' wpAnyH_take (i := 20) (v := ?v20a0) rfl (by kernel_rfl) (by kernel_rfl) (by kernel_rfl) (fun _ _ _ h => h) (Or.inl ⟨by go_simp, ?hy20a0⟩) hHeld ?rest20a0
          case hy20a0 =>
            intro w hSw
            try dsimp only at hSw
            go_simp
            all_goals with_reducible rfl
          try simp only [Act.put, List.setIfInBounds_toArray, List.set_cons_zero, List.set_cons_succ, List.getElem_toArray, List.getElem_cons_zero, List.getElem_cons_succ]
          refine' wpAnyH_take (i := 21) (v := ?v21a0) rfl (by kernel_rfl) (by kernel_rfl) (by kernel_rfl) (fun _ _ _ h => h) (Or.inl ⟨by go_simp, ?hy21a0⟩) hHeld ?rest21a0
          case hy21a0 =>
            intro w hSw
            try dsimp only at hSw
            go_simp
            all_goals with_reducible rfl
          try simp only [Act.put, List.setIfInBounds_toArray, List.set_cons_zero, List.set_cons_succ, List.getElem_toArray, List.getElem_cons_zero, List.getElem_cons_succ]
          refine wpAnyH_done (by kernel_rfl) ?_ _
          clear hHeld
          go_wp2_with fail
          go_meet
          case rel => exact ⟨rfl, rfl, H8, HH8⟩
        · refine wp_region_held_drew (S := (fun w' => w'.cell? ⟨hb, 0, none⟩ = some u6)) (by kernel_rfl) y0 (fun hHeld => ?_)
          refine' wpAnyH_take (i := 0) (v := ?v0a1) rfl (by kernel_rfl) (by kernel_rfl) (by kernel_rfl) (fun _ _ _ h => h) (Or.inl ⟨by go_simp, ?hy0a1⟩) hHeld ?rest0a1
          case hy0a1 =>
            intro w hSw
            try dsimp only at hSw
            go_simp
            all_goals with_reducible rfl
          try simp only [Act.put, List.setIfInBounds_toArray, List.set_cons_zero, List.set_cons_succ, List.getElem_toArray, List.getElem_cons_zero]
          refine' wpAnyH_take (i := 1) (v := ?v1a1) rfl (by kernel_rfl) (by kernel_rfl) (by kernel_rfl) (fun _ _ _ h => h) (Or.inl ⟨by go_simp, ?hy1a1⟩) hHeld ?rest1a1
          case hy1a1 =>
            intro w hSw
            try dsimp only at hSw
            go_simp
            all_goals with_reducible rfl
          try simp only [Act.put, List.setIfInBounds_toArray, List.set_cons_zero, List.set_cons_succ, List.getElem_toArray, List.getElem_cons_zero, List.getElem_cons_succ]
          refine' wpAnyH_take (i := 2) (v := ?v2a1) rfl (by kernel_rfl) (by kernel_rfl) (by kernel_rfl) (fun _ _ _ h => h) (Or.inl ⟨by go_simp, ?hy2a1⟩) hHeld ?rest2a1
          case hy2a1 =>
            intro w hSw
            try dsimp only at hSw
            go_simp
            all_goals with_reducible rfl
          try simp only [Act.put, List.setIfInBounds_toArray, List.set_cons_zero, List.set_cons_succ, List.getElem_toArray, List.getElem_cons_zero, List.getElem_cons_succ]
          refine' wpAnyH_take (i := 3) (v := ?v3a1) rfl (by kernel_rfl) (by kernel_rfl) (by kernel_rfl) (fun _ _ _ h => h) (Or.inl ⟨by go_simp, ?hy3a1⟩) hHeld ?rest3a1
          case hy3a1 =>
            intro w hSw
            try dsimp only at hSw
            go_simp
            all_goals with_reducible rfl
          try simp only [Act.put, List.setIfInBounds_toArray, List.set_cons_zero, List.set_cons_succ, List.getElem_toArray, List.getElem_cons_zero, List.getElem_cons_succ]
          refine' wpAnyH_take (i := 4) (v := ?v4a1) rfl (by kernel_rfl) (by kernel_rfl) (by kernel_rfl) (fun _ _ _ h => h) (Or.inl ⟨by go_simp, ?hy4a1⟩) hHeld ?rest4a1
          case hy4a1 =>
            intro w hSw
            try dsimp only at hSw
            go_simp
            all_goals with_reducible rfl
          try simp only [Act.put, List.setIfInBounds_toArray, List.set_cons_zero, List.set_cons_succ, List.getElem_toArray, List.getElem_cons_zero, List.getElem_cons_succ]
          refine' wpAnyH_take (i := 5) (v := ?v5a1) rfl (by kernel_rfl) (by kernel_rfl) (by kernel_rfl) (fun _ _ _ h => h) (Or.inl ⟨by go_simp, ?hy5a1⟩) hHeld ?rest5a1
          case hy5a1 =>
            intro w hSw
            try dsimp only at hSw
            go_simp
            all_goals with_reducible rfl
          try simp only [Act.put, List.setIfInBounds_toArray, List.set_cons_zero, List.set_cons_succ, List.getElem_toArray, List.getElem_cons_zero, List.getElem_cons_succ]
          refine' wpAnyH_take (i := 6) (v := ?v6a1) rfl (by kernel_rfl) (by kernel_rfl) (by kernel_rfl) (fun _ _ _ h => h) (Or.inl ⟨by go_simp, ?hy6a1⟩) hHeld ?rest6a1
          case hy6a1 =>
            intro w hSw
            try dsimp only at hSw
            go_simp
            all_goals with_reducible rfl
          try simp only [Act.put, List.setIfInBounds_toArray, List.set_cons_zero, List.set_cons_succ, List.getElem_toArray, List.getElem_cons_zero, List.getElem_cons_succ]
          refine' wpAnyH_take (i := 7) (v := ?v7a1) rfl (by kernel_rfl) (by kernel_rfl) (by kernel_rfl) (fun _ _ _ h => h) (Or.inl ⟨by go_simp, ?hy7a1⟩) hHeld ?rest7a1
          case hy7a1 =>
            intro w hSw
            try dsimp only at hSw
            go_simp
            all_goals with_reducible rfl
          try simp only [Act.put, List.setIfInBounds_toArray, List.set_cons_zero, List.set_cons_succ, List.getElem_toArray, List.getElem_cons_zero, List.getElem_cons_succ]
          refine' wpAnyH_take (i := 8) (v := ?v8a1) rfl (by kernel_rfl) (by kernel_rfl) (by kernel_rfl) (fun _ _ _ h => h) (Or.inl ⟨by go_simp, ?hy8a1⟩) hHeld ?rest8a1
          case hy8a1 =>
            intro w hSw
            try dsimp only at hSw
            go_simp
            all_goals with_reducible rfl
          try simp only [Act.put, List.setIfInBounds_toArray, List.set_cons_zero, List.set_cons_succ, List.getElem_toArray, List.getElem_cons_zero, List.getElem_cons_succ]
          refine' wpAnyH_take (i := 9) (v := ?v9a1) rfl (by kernel_rfl) (by kernel_rfl) (by kernel_rfl) (fun _ _ _ h => h) (Or.inl ⟨by go_simp, ?hy9a1⟩) hHeld ?rest9a1
          case hy9a1 =>
            intro w hSw
            try dsimp only at hSw
            go_simp
            all_goals with_reducible rfl
          try simp only [Act.put, List.setIfInBounds_toArray, List.set_cons_zero, List.set_cons_succ, List.getElem_toArray, List.getElem_cons_zero, List.getElem_cons_succ]
          refine wpAnyH_take (i := 10) (v := undef) rfl (by kernel_rfl) (by kernel_rfl) (by kernel_rfl) (fun _ _ _ h => h) (Or.inr ⟨by go_simp, rfl⟩) hHeld ?_
          try simp only [Act.put, List.setIfInBounds_toArray, List.set_cons_zero, List.set_cons_succ, List.getElem_toArray, List.getElem_cons_zero, List.getElem_cons_succ]
          refine wpAnyH_take (i := 11) (v := undef) rfl (by kernel_rfl) (by kernel_rfl) (by kernel_rfl) (fun _ _ _ h => h) (Or.inr ⟨by go_simp, rfl⟩) hHeld ?_
          try simp only [Act.put, List.setIfInBounds_toArray, List.set_cons_zero, List.set_cons_succ, List.getElem_toArray, List.getElem_cons_zero, List.getElem_cons_succ]
          refine' wpAnyH_take (i := 12) (v := ?v12a1) rfl (by kernel_rfl) (by kernel_rfl) (by kernel_rfl) (fun _ _ _ h => h) (Or.inl ⟨by go_simp, ?hy12a1⟩) hHeld ?rest12a1
          case hy12a1 =>
            intro w hSw
            try dsimp only at hSw
            go_simp
            all_goals with_reducible rfl
          try simp only [Act.put, List.setIfInBounds_toArray, List.set_cons_zero, List.set_cons_succ, List.getElem_toArray, List.getElem_cons_zero, List.getElem_cons_succ]
          refine' wpAnyH_take (i := 13) (v := ?v13a1) rfl (by kernel_rfl) (by kernel_rfl) (by kernel_rfl) (fun _ _ _ h => h) (Or.inl ⟨by go_simp, ?hy13a1⟩) hHeld ?rest13a1
          case hy13a1 =>
            intro w hSw
            try dsimp only at hSw
            go_simp
            all_goals with_reducible rfl
          try simp only [Act.put, List.setIfInBounds_toArray, List.set_cons_zero, List.set_cons_succ, List.getElem_toArray, List.getElem_cons_zero, List.getElem_cons_succ]
          refine' wpAnyH_take (i := 14) (v := ?v14a1) rfl (by kernel_rfl) (by kernel_rfl) (by kernel_rfl) (fun _ _ _ h => h) (Or.inl ⟨by go_simp, ?hy14a1⟩) hHeld ?rest14a1
          case hy14a1 =>
            intro w hSw
            try dsimp only at hSw
            go_simp
            all_goals with_reducible rfl
          try simp only [Act.put, List.setIfInBounds_toArray, List.set_cons_zero, List.set_cons_succ, List.getElem_toArray, List.getElem_cons_zero, List.getElem_cons_succ]
          refine' wpAnyH_take (i := 15) (v := ?v15a1) rfl (by kernel_rfl) (by kernel_rfl) (by kernel_rfl) (fun _ _ _ h => h) (Or.inl ⟨by go_simp, ?hy15a1⟩) hHeld ?rest15a1
          case hy15a1 =>
            intro w hSw
            try dsimp only at hSw
            go_simp
            all_goals with_reducible rfl
          try simp only [Act.put, List.setIfInBounds_toArray, List.set_cons_zero, List.set_cons_succ, List.getElem_toArray, List.getElem_cons_zero, List.getElem_cons_succ]
          refine' wpAnyH_take (i := 17) (v := ?v17a1) rfl (by kernel_rfl) (by kernel_rfl) (by kernel_rfl) (fun _ _ _ h => h) (Or.inl ⟨by go_simp, ?hy17a1⟩) hHeld ?rest17a1
          case hy17a1 =>
            intro w hSw
            try dsimp only at hSw
            go_simp
            all_goals with_reducible rfl
          try simp only [Act.put, List.setIfInBounds_toArray, List.set_cons_zero, List.set_cons_succ, List.getElem_toArray, List.getElem_cons_zero, List.getElem_cons_succ]
          refine' wpAnyH_take (i := 18) (v := ?v18a1) rfl (by kernel_rfl) (by kernel_rfl) (by kernel_rfl) (fun _ _ _ h => h) (Or.inl ⟨by go_simp, ?hy18a1⟩) hHeld ?rest18a1
          case hy18a1 =>
            intro w hSw
            try dsimp only at hSw
            go_simp
            all_goals with_reducible rfl
          try simp only [Act.put, List.setIfInBounds_toArray, List.set_cons_zero, List.set_cons_succ, List.getElem_toArray, List.getElem_cons_zero, List.getElem_cons_succ]
          refine wpAnyH_ready (rs := [16]) (by kernel_rfl) (by simp) ?_
          refine AllReadyH.cons rfl (fun K hK => ?_) AllReadyH.nil
          go_simp
          go_at_call 15
          refine (H6.out.on ((Below.refl _ w6).drew)).records.mono ?_
          rintro e w7 ⟨ur, rfl, hT, H7⟩
          have HB7 := Lib.hid (Below.trans ((Below.refl _ w6).drew) hT.out.2.2)
          have HH7 := Lib.hid (HH6.out.below HB7.out)
          have hT7 := Lib.hid (textsAt_row hT.out.1)
          clear hT
          go_wp2_with fail
          refine hK.out _ _ ?_ (fun hHeld2 => ?_)
          · exact HH7.out.blk.cell 0
          clear hK K hHeld
          have hHeld := hHeld2
          clear hHeld2
          try simp only [Act.put, List.setIfInBounds_toArray, List.set_cons_zero, List.set_cons_succ, List.getElem_toArray, List.getElem_cons_zero, List.getElem_cons_succ]
          refine wpAnyH_ready (rs := [19]) (by kernel_rfl) (by simp) ?_
          refine AllReadyH.cons rfl (fun K hK => ?_) AllReadyH.nil
          go_simp
          go_at_call 19
          refine (jsame_true _ _ _ _ hT7.out HH7.out.texts).mono ?_
          rintro e w8 ⟨rfl, hB8⟩
          have H8 := Lib.hid (H7.out.on hB8)
          have HH8 := Lib.hid (HH7.out.below hB8)
          clear hB8
          go_wp2_with fail
          refine hK.out _ _ ?_ (fun hHeld2 => ?_)
          · exact HH8.out.blk.cell 0
          clear hK K hHeld
          have hHeld := hHeld2
          clear hHeld2
          try simp only [Act.put, List.setIfInBounds_toArray, List.set_cons_zero, List.set_cons_succ, List.getElem_toArray, List.getElem_cons_zero, List.getElem_cons_succ]
          refine' wpAnyH_take (i := 20) (v := ?v20a1) rfl (by kernel_rfl) (by kernel_rfl) (by kernel_rfl) (fun _ _ _ h => h) (Or.inl ⟨by go_simp, ?hy20a1⟩) hHeld ?rest20a1
          case hy20a1 =>
            intro w hSw
            try dsimp only at hSw
            go_simp
            all_goals with_reducible rfl
          try simp only [Act.put, List.setIfInBounds_toArray, List.set_cons_zero, List.set_cons_succ, List.getElem_toArray, List.getElem_cons_zero, List.getElem_cons_succ]
          refine' wpAnyH_take (i := 21) (v := ?v21a1) rfl (by kernel_rfl) (by kernel_rfl) (by kernel_rfl) (fun _ _ _ h => h) (Or.inl ⟨by go_simp, ?hy21a1⟩) hHeld ?rest21a1
          case hy21a1 =>
            intro w hSw
            try dsimp only at hSw
            go_simp
            all_goals with_reducible rfl
          try simp only [Act.put, List.setIfInBounds_toArray, List.set_cons_zero, List.set_cons_succ, List.getElem_toArray, List.getElem_cons_zero, List.getElem_cons_succ]
          refine wpAnyH_done (by kernel_rfl) ?_ _
          clear hHeld
          go_wp2_with fail
          go_meet
          case rel => exact ⟨rfl, rfl, H8, HH8⟩
        · refine wp_region_held_drew (S := (fun w' => w'.cell? ⟨hb, 0, none⟩ = some u6)) (by kernel_rfl) y0 (fun hHeld => ?_)
          refine' wpAnyH_take (i := 0) (v := ?v0a2) rfl (by kernel_rfl) (by kernel_rfl) (by kernel_rfl) (fun _ _ _ h => h) (Or.inl ⟨by go_simp, ?hy0a2⟩) hHeld ?rest0a2
          case hy0a2 =>
            intro w hSw
            try dsimp only at hSw
            go_simp
            all_goals with_reducible rfl
          try simp only [Act.put, List.setIfInBounds_toArray, List.set_cons_zero, List.set_cons_succ, List.getElem_toArray, List.getElem_cons_zero]
          refine' wpAnyH_take (i := 1) (v := ?v1a2) rfl (by kernel_rfl) (by kernel_rfl) (by kernel_rfl) (fun _ _ _ h => h) (Or.inl ⟨by go_simp, ?hy1a2⟩) hHeld ?rest1a2
          case hy1a2 =>
            intro w hSw
            try dsimp only at hSw
            go_simp
            all_goals with_reducible rfl
          try simp only [Act.put, List.setIfInBounds_toArray, List.set_cons_zero, List.set_cons_succ, List.getElem_toArray, List.getElem_cons_zero, List.getElem_cons_succ]
          refine' wpAnyH_take (i := 2) (v := ?v2a2) rfl (by kernel_rfl) (by kernel_rfl) (by kernel_rfl) (fun _ _ _ h => h) (Or.inl ⟨by go_simp, ?hy2a2⟩) hHeld ?rest2a2
          case hy2a2 =>
            intro w hSw
            try dsimp only at hSw
            go_simp
            all_goals with_reducible rfl
          try simp only [Act.put, List.setIfInBounds_toArray, List.set_cons_zero, List.set_cons_succ, List.getElem_toArray, List.getElem_cons_zero, List.getElem_cons_succ]
          refine' wpAnyH_take (i := 3) (v := ?v3a2) rfl (by kernel_rfl) (by kernel_rfl) (by kernel_rfl) (fun _ _ _ h => h) (Or.inl ⟨by go_simp, ?hy3a2⟩) hHeld ?rest3a2
          case hy3a2 =>
            intro w hSw
            try dsimp only at hSw
            go_simp
            all_goals with_reducible rfl
          try simp only [Act.put, List.setIfInBounds_toArray, List.set_cons_zero, List.set_cons_succ, List.getElem_toArray, List.getElem_cons_zero, List.getElem_cons_succ]
          refine' wpAnyH_take (i := 4) (v := ?v4a2) rfl (by kernel_rfl) (by kernel_rfl) (by kernel_rfl) (fun _ _ _ h => h) (Or.inl ⟨by go_simp, ?hy4a2⟩) hHeld ?rest4a2
          case hy4a2 =>
            intro w hSw
            try dsimp only at hSw
            go_simp
            all_goals with_reducible rfl
          try simp only [Act.put, List.setIfInBounds_toArray, List.set_cons_zero, List.set_cons_succ, List.getElem_toArray, List.getElem_cons_zero, List.getElem_cons_succ]
          refine' wpAnyH_take (i := 5) (v := ?v5a2) rfl (by kernel_rfl) (by kernel_rfl) (by kernel_rfl) (fun _ _ _ h => h) (Or.inl ⟨by go_simp, ?hy5a2⟩) hHeld ?rest5a2
          case hy5a2 =>
            intro w hSw
            try dsimp only at hSw
            go_simp
            all_goals with_reducible rfl
          try simp only [Act.put, List.setIfInBounds_toArray, List.set_cons_zero, List.set_cons_succ, List.getElem_toArray, List.getElem_cons_zero, List.getElem_cons_succ]
          refine' wpAnyH_take (i := 6) (v := ?v6a2) rfl (by kernel_rfl) (by kernel_rfl) (by kernel_rfl) (fun _ _ _ h => h) (Or.inl ⟨by go_simp, ?hy6a2⟩) hHeld ?rest6a2
          case hy6a2 =>
            intro w hSw
            try dsimp only at hSw
            go_simp
            all_goals with_reducible rfl
          try simp only [Act.put, List.setIfInBounds_toArray, List.set_cons_zero, List.set_cons_succ, List.getElem_toArray, List.getElem_cons_zero, List.getElem_cons_succ]
          refine' wpAnyH_take (i := 7) (v := ?v7a2) rfl (by kernel_rfl) (by kernel_rfl) (by kernel_rfl) (fun _ _ _ h => h) (Or.inl ⟨by go_simp, ?hy7a2⟩) hHeld ?rest7a2
          case hy7a2 =>
            intro w hSw
            try dsimp only at hSw
            go_simp
            all_goals with_reducible rfl
          try simp only [Act.put, List.setIfInBounds_toArray, List.set_cons_zero, List.set_cons_succ, List.getElem_toArray, List.getElem_cons_zero, List.getElem_cons_succ]
          refine' wpAnyH_take (i := 8) (v := ?v8a2) rfl (by kernel_rfl) (by kernel_rfl) (by kernel_rfl) (fun _ _ _ h => h) (Or.inl ⟨by go_simp, ?hy8a2⟩) hHeld ?rest8a2
          case hy8a2 =>
            intro w hSw
            try dsimp only at hSw
            go_simp
            all_goals with_reducible rfl
          try simp only [Act.put, List.setIfInBounds_toArray, List.set_cons_zero, List.set_cons_succ, List.getElem_toArray, List.getElem_cons_zero, List.getElem_cons_succ]
          refine' wpAnyH_take (i := 9) (v := ?v9a2) rfl (by kernel_rfl) (by kernel_rfl) (by kernel_rfl) (fun _ _ _ h => h) (Or.inl ⟨by go_simp, ?hy9a2⟩) hHeld ?rest9a2
          case hy9a2 =>
            intro w hSw
            try dsimp only at hSw
            go_simp
            all_goals with_reducible rfl
          try simp only [Act.put, List.setIfInBounds_toArray, List.set_cons_zero, List.set_cons_succ, List.getElem_toArray, List.getElem_cons_zero, List.getElem_cons_succ]
          refine' wpAnyH_take (i := 10) (v := ?v10a2) rfl (by kernel_rfl) (by kernel_rfl) (by kernel_rfl) (fun _ _ _ h => h) (Or.inl ⟨by go_simp, ?hy10a2⟩) hHeld ?rest10a2
          case hy10a2 =>
            intro w hSw
            try dsimp only at hSw
            go_simp
            all_goals with_reducible rfl
          try simp only [Act.put, List.setIfInBounds_toArray, List.set_cons_zero, List.set_cons_succ, List.getElem_toArray, List.getElem_cons_zero, List.getElem_cons_succ]
          refine' wpAnyH_take (i := 11) (v := ?v11a2) rfl (by kernel_rfl) (by kernel_rfl) (by kernel_rfl) (fun _ _ _ h => h) (Or.inl ⟨by go_simp, ?hy11a2⟩) hHeld ?rest11a2
          case hy11a2 =>
            intro w hSw
            try dsimp only at hSw
            go_simp
            all_goals with_reducible rfl
          try simp only [Act.put, List.setIfInBounds_toArray, List.set_cons_zero, List.set_cons_succ, List.getElem_toArray, List.getElem_cons_zero, List.getElem_cons_succ]
          refine' wpAnyH_take (i := 12) (v := ?v12a2) rfl (by kernel_rfl) (by kernel_rfl) (by kernel_rfl) (fun _ _ _ h => h) (Or.inl ⟨by go_simp, ?hy12a2⟩) hHeld ?rest12a2
          case hy12a2 =>
            intro w hSw
            try dsimp only at hSw
            go_simp
            all_goals with_reducible rfl
          try simp only [Act.put, List.setIfInBounds_toArray, List.set_cons_zero, List.set_cons_succ, List.getElem_toArray, List.getElem_cons_zero, List.getElem_cons_succ]
          refine' wpAnyH_take (i := 13) (v := ?v13a2) rfl (by kernel_rfl) (by kernel_rfl) (by kernel_rfl) (fun _ _ _ h => h) (Or.inl ⟨by go_simp, ?hy13a2⟩) hHeld ?rest13a2
          case hy13a2 =>
            intro w hSw
            try dsimp only at hSw
            go_simp
            all_goals with_reducible rfl
          try simp only [Act.put, List.setIfInBounds_toArray, List.set_cons_zero, List.set_cons_succ, List.getElem_toArray, List.getElem_cons_zero, List.getElem_cons_succ]
          refine' wpAnyH_take (i := 14) (v := ?v14a2) rfl (by kernel_rfl) (by kernel_rfl) (by kernel_rfl) (fun _ _ _ h => h) (Or.inl ⟨by go_simp, ?hy14a2⟩) hHeld ?rest14a2
          case hy14a2 =>
            intro w hSw
            try dsimp only at hSw
            go_simp
            all_goals with_reducible rfl
          try simp only [Act.put, List.setIfInBounds_toArray, List.set_cons_zero, List.set_cons_succ, List.getElem_toArray, List.getElem_cons_zero, List.getElem_cons_succ]
          refine' wpAnyH_take (i := 15) (v := ?v15a2) rfl (by kernel_rfl) (by kernel_rfl) (by kernel_rfl) (fun _ _ _ h => h) (Or.inl ⟨by go_simp, ?hy15a2⟩) hHeld ?rest15a2
          case hy15a2 =>
            intro w hSw
            try dsimp only at hSw
            go_simp
            all_goals with_reducible rfl
          try simp only [Act.put, List.setIfInBounds_toArray, List.set_cons_zero, List.set_cons_succ, List.getElem_toArray, List.getElem_cons_zero, List.getElem_cons_succ]
          refine' wpAnyH_take (i := 17) (v := ?v17a2) rfl (by kernel_rfl) (by kernel_rfl) (by kernel_rfl) (fun _ _ _ h => h) (Or.inl ⟨by go_simp, ?hy17a2⟩) hHeld ?rest17a2
          case hy17a2 =>
            intro w hSw
            try dsimp only at hSw
            go_simp
            all_goals with_reducible rfl
          try simp only [Act.put, List.setIfInBounds_toArray, List.set_cons_zero, List.set_cons_succ, List.getElem_toArray, List.getElem_cons_zero, List.getElem_cons_succ]
          refine' wpAnyH_take (i := 18) (v := ?v18a2) rfl (by kernel_rfl) (by kernel_rfl) (by kernel_rfl) (fun _ _ _ h => h) (Or.inl ⟨by go_simp, ?hy18a2⟩) hHeld ?rest18a2
          case hy18a2 =>
            intro w hSw
            try dsimp only at hSw
            go_simp
            all_goals with_reducible rfl
          try simp only [Act.put, List.setIfInBounds_toArray, List.set_cons_zero, List.set_cons_succ, List.getElem_toArray, List.getElem_cons_zero, List.getElem_cons_succ]
          refine wpAnyH_ready (rs := [16]) (by kernel_rfl) (by simp) ?_
          refine AllReadyH.cons rfl (fun K hK => ?_) AllReadyH.nil
          go_simp
          go_at_call 15
          refine (H6.out.on ((Below.refl _ w6).drew)).records.mono ?_
          rintro e w7 ⟨ur, rfl, hT, H7⟩
          have HB7 := Lib.hid (Below.trans ((Below.refl _ w6).drew) hT.out.2.2)
          have HH7 := Lib.hid (HH6.out.below HB7.out)
          have hT7 := Lib.hid (textsAt_row hT.out.1)
          clear hT
          go_wp2_with fail
          refine hK.out _ _ ?_ (fun hHeld2 => ?_)
          · exact HH7.out.blk.cell 0
          clear hK K hHeld
          have hHeld := hHeld2
          clear hHeld2
          try simp only [Act.put, List.setIfInBounds_toArray, List.set_cons_zero, List.set_cons_succ, List.getElem_toArray, List.getElem_cons_zero, List.getElem_cons_succ]
          refine wpAnyH_ready (rs := [19]) (by kernel_rfl) (by simp) ?_
          refine AllReadyH.cons rfl (fun K hK => ?_) AllReadyH.nil
          go_simp
          go_at_call 19
          refine (jsame_true _ _ _ _ hT7.out HH7.out.texts).mono ?_
          rintro e w8 ⟨rfl, hB8⟩
          have H8 := Lib.hid (H7.out.on hB8)
          have HH8 := Lib.hid (HH7.out.below hB8)
          clear hB8
          go_wp2_with fail
          refine hK.out _ _ ?_ (fun hHeld2 => ?_)
          · exact HH8.out.blk.cell 0
          clear hK K hHeld
          have hHeld := hHeld2
          clear hHeld2
          try simp only [Act.put, List.setIfInBounds_toArray, List.set_cons_zero, List.set_cons_succ, List.getElem_toArray, List.getElem_cons_zero, List.getElem_cons_succ]
          refine' wpAnyH_take (i := 20) (v := ?v20a2) rfl (by kernel_rfl) (by kernel_rfl) (by kernel_rfl) (fun _ _ _ h => h) (Or.inl ⟨by go_simp, ?hy20a2⟩) hHeld ?rest20a2
          case hy20a2 =>
            intro w hSw
            try dsimp only at hSw
            go_simp
            all_goals with_reducible rfl
          try simp only [Act.put, List.setIfInBounds_toArray, List.set_cons_zero, List.set_cons_succ, List.getElem_toArray, List.getElem_cons_zero, List.getElem_cons_succ]
          refine' wpAnyH_take (i := 21) (v := ?v21a2) rfl (by kernel_rfl) (by kernel_rfl) (by kernel_rfl) (fun _ _ _ h => h) (Or.inl ⟨by go_simp, ?hy21a2⟩) hHeld ?rest21a2
          case hy21a2 =>
            intro w hSw
            try dsimp only at hSw
            go_simp
            all_goals with_reducible rfl
          try simp only [Act.put, List.setIfInBounds_toArray, List.set_cons_zero, List.set_cons_succ, List.getElem_toArray, List.getElem_cons_zero, List.getElem_cons_succ]
          refine wpAnyH_done (by kernel_rfl) ?_ _
          clear hHeld
          go_wp2_with fail
          go_meet
          case rel => exact ⟨rfl, rfl, H8, HH8⟩
      case rest =>
      obtain ⟨rfl, rfl, H8, HH8⟩ := hcut
      clear H6 HH6 y0
      go_wp2_with fail
      go_roundw
      case rel => exact ⟨k + 1, _, _, _, _, _, Hkl.out, rfl, by go_num, H8, HH8⟩
      case measure => rw [hwk]; exact meas_up Hkl.out
    · have hd1 : decide (k < ops.length) = false := decide_eq_false hkl
      clear hkl
      go_wp2_with (first | (go_at_call 6; refine (sanity_true _).mono ?_; rintro e w7 ⟨rfl, hB⟩))
      go_ret
      exact ⟨rfl, H.out.bel.trans (hB.mono H.out.bel.size)⟩
theorem law_wears (x : Int) (v : Value) (ops : List JStep) (hv : JStepsAt W v ops) (ho : ∀ (i : Nat) (o : JStep), ops[i]? = some o → o.ok) :
    Calls Tryd.prog 5 #[.int .i64 x, v] W fun e w' => e = .returned (.bool true) ∧ Below W.heap.size W w' := by
  by_cases hz : 2 ≤ x ∧ x ≤ 40 ∧ ops.length ≤ 40
  · obtain ⟨n, rfl⟩ := Int.eq_ofNat_of_zero_le (show 0 ≤ x by omega)
    exact wears_loop n ⟨by omega, by omega⟩ v ops hv ho hz.2.2
  · obtain ⟨A, c, rfl, _⟩ := hv
    exact wears_bad x A ops.length c hz
end
end Go.Proofs.YtgdpgiegiacepaaDoor
