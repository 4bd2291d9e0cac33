/-
  Layer 46 (script): the specification's Same.
-/
import Derived.Test.YtldkfhimpkiigaaGreatDoorScrW6
import Derived.Test.YtldkfhimpkiigaaGreatDoorScrW15
namespace Go.Proofs.YtldkfhimpkiigaaGreatDoor
open Go.RowKit ScrP
attribute [local go_sem] Oper.semAt_some

deriving instance DecidableEq for ScrP.Stp
/-- Two scripts are the same. -/
def sameE (s t : Scr) : Bool := decide (s.texts = t.texts) && decide (s.steps = t.steps)
theorem stp_dec (x y : Stp) : decide (x = y) = (decide (x.kind = y.kind) && (decide (x.text = y.text) && decide (x.args = y.args))) := by
  cases x; cases y
  rw [Bool.eq_iff_iff]
  simp only [Bool.and_eq_true, decide_eq_true_iff, Stp.mk.injEq]
  exact ⟨fun ⟨a, b, c⟩ => ⟨a, c, b⟩, fun ⟨a, b, c⟩ => ⟨a, c, b⟩⟩
/-- A step's cells in a world, however the steps lie. -/
theorem StepsAt.some_ {w : World} {B : Nat} {A : Option Addr} {c n : Nat} {xs : List Stp} (h : StepsAt w B (.slice A n c) xs) (hn : xs.length = n) {i : Nat} {x : Stp} (hx : xs[i]? = some x) :
    ∃ b o u, A = some ⟨b, o, none⟩ ∧ b < B ∧ w.cell? ⟨b, o + i * 3, none⟩ = some (.int .i64 x.kind) ∧ w.cell? ⟨b, o + i * 3 + 1, none⟩ = some u ∧ w.cell? ⟨b, o + i * 3 + 2, none⟩ = some (.string x.text) ∧ RowAt w B u x.args.length (intsC x.args) := by
  subst hn
  exact h.at_ hx
theorem bel_drewN {B : Nat} {w w' : World} (h : Below B w w') (n : Nat) : Below B w (w'.drewN n) := h.trans ⟨rfl, rfl, rfl, Nat.le_refl _, fun _ _ => rfl⟩
set_option maxRecDepth 100000 in
set_option maxHeartbeats 12800000 in
theorem rSame_any (s t : Scr) (u v : Value) (B : Nat) (w : World) (hu : ScrAt w B u s) (hv : ScrAt w B v t) (hB : B ≤ w.heap.size) (hs : ScrIn s) (ht : ScrIn t) :
    Calls Tryz.prog 22 #[u, v] w fun e w' => e = .returned (.bool (sameE s t)) ∧ Below w.heap.size w w' := by
  obtain ⟨ut, us, rfl, hut, hus⟩ := hu
  obtain ⟨vt, vs, rfl, hvt, hvs⟩ := hv
  obtain ⟨Aut, cut, rfl, _⟩ := id hut
  obtain ⟨_, _, ⟨Aus, cus, rfl, _⟩, _⟩ := id hus
  obtain ⟨Avt, cvt, rfl, _⟩ := id hvt
  obtain ⟨_, _, ⟨Avs, cvs, rfl, _⟩, _⟩ := id hvs
  have HUT := Lib.hid hut
  have HUS := Lib.hid hus
  have HVT := Lib.hid hvt
  have HVS := Lib.hid hvs
  have hBH := Lib.hid hB
  have HSI := Lib.hid hs
  have HTI := Lib.hid ht
  clear hut hus hvt hvs hB
  obtain ⟨T, hT⟩ : ∃ n, s.texts.length = n := ⟨_, rfl⟩
  obtain ⟨N, hN⟩ : ∃ n, s.steps.length = n := ⟨_, rfl⟩
  obtain ⟨T', hT'⟩ : ∃ n, t.texts.length = n := ⟨_, rfl⟩
  obtain ⟨N', hN'⟩ : ∃ n, t.steps.length = n := ⟨_, rfl⟩
  have hTl : T ≤ 17592186044416 := by rw [← hT]; exact hs.nt
  have hNl : N ≤ 17592186044416 := by rw [← hN]; exact hs.ns
  have hTl' : T' ≤ 17592186044416 := by rw [← hT']; exact ht.nt
  have hNl' : N' ≤ 17592186044416 := by rw [← hN']; exact ht.ns
  rw [hT] at HUT
  rw [hT'] at HVT
  rw [hN] at HUS
  rw [hN'] at HVS
  have hTH := Lib.hid hT
  have hNH := Lib.hid hN
  have hTH' := Lib.hid hT'
  have hNH' := Lib.hid hN'
  rw [hT, hN, hT', hN']
  clear hT hN hT' hN' hs ht
  go_enter Tryz.func22, Tryz.ntmps22
  go_upto_region 1 with fail
  refine world_is (P := fun W => Code.wp _ _ _ _ W) (fun W1 hW1 => ?_)
  have B1 : Hid (Below w.heap.size w W1) := by unfold Hid; rw [← hW1]; exact ((Below.refl _ _).alloc (Nat.le_refl _) _).alloc (by rw [World.size_alloc]; omega) _
  have X1 : Hid (Blk W1 w.heap.size 25 #[.slice Aut T cut, .slice Aus N cus]) := by unfold Hid; rw [← hW1]; exact (Blk.new _ _ _).alloc _
  have Y1 : Hid (Blk W1 (w.alloc (.cells #[.slice Aut T cut, .slice Aus N cus] 25)).heap.size 25 #[.slice Avt T' cvt, .slice Avs N' cvs]) := by unfold Hid; rw [← hW1]; exact Blk.new _ _ _
  rw [World.size_alloc] at Y1
  obtain ⟨g, hg⟩ : ∃ g, w.heap.size = g := ⟨_, rfl⟩
  rw [hg] at X1 Y1 ⊢
  clear hW1 hg
  have x0 := X1.out.cell 0
  have x1 := X1.out.cell 1
  have y0 := Y1.out.cell 0
  have y1 := Y1.out.cell 1
  by_cases hTT : T = T'
  case neg =>
    have d1 : ((T : Int) != (T' : Int)) = true := by rw [bne_iff_ne]; omega
    have d2 : (T != T') = true := by rw [bne_iff_ne]; exact hTT
    have hF : Hid (sameE s t = false) := by
      unfold Hid sameE
      rw [decide_eq_false (fun e => hTT (by rw [← hTH.out, ← hTH'.out, e]))]
      rfl
    clear hTT
    go_wp2_with fail
    go_ret
    exact ⟨by rw [hF.out]; rfl, B1.out⟩
  case pos =>
  subst hTT
  by_cases hNN : N = N'
  case neg =>
    have d1 : ((N : Int) != (N' : Int)) = true := by rw [bne_iff_ne]; omega
    have d2 : (N != N') = true := by rw [bne_iff_ne]; exact hNN
    have hF : Hid (sameE s t = false) := by
      unfold Hid sameE
      rw [decide_eq_false (p := s.steps = t.steps) (fun e => hNN (by rw [← hNH.out, ← hNH'.out, e]))]
      exact Bool.and_false _
    clear hNN
    go_wp2_with fail
    go_ret
    exact ⟨by rw [hF.out]; rfl, B1.out⟩
  case pos =>
  subst hNN
  go_wp2_with fail
  go_loopw [5] (fun a wr => ∃ k : Nat, k ≤ T ∧ a = .int .i64 k ∧ Hid (decide (s.texts = t.texts) = decide (s.texts.drop k = t.texts.drop k)) ∧ ∃ q, wr = W1.drewN q) (fun a _ => T - (intOf a).toNat)
  case atStart => exact ⟨0, Nat.zero_le _, rfl, rfl, 0, rfl⟩
  case round =>
  obtain ⟨k, hk, rfl, hE, q, hq⟩ := hrel
  clear x0 x1 y0 y1
  have x0 : wr.cell? ⟨g, 0, none⟩ = some (.slice Aut T cut) := by rw [hq]; exact X1.out.cell 0
  have x1 : wr.cell? ⟨g, 1, none⟩ = some (.slice Aus N cus) := by rw [hq]; exact X1.out.cell 1
  have y0 : wr.cell? ⟨g + 1, 0, none⟩ = some (.slice Avt T cvt) := by rw [hq]; exact Y1.out.cell 0
  have y1 : wr.cell? ⟨g + 1, 1, none⟩ = some (.slice Avs N cvs) := by rw [hq]; exact Y1.out.cell 1
  by_cases hkl : k < T
  case pos =>
    obtain ⟨x, hx⟩ : ∃ z, s.texts[k]? = some z := ⟨_, List.getElem?_eq_getElem (by rw [hTH.out]; exact hkl)⟩
    obtain ⟨y, hy⟩ : ∃ z, t.texts[k]? = some z := ⟨_, List.getElem?_eq_getElem (by rw [hTH'.out]; exact hkl)⟩
    obtain ⟨gu, ou, rfl, hgu, hcu⟩ := HUT.out.cellOf (by omega)
    obtain ⟨gv, ov, rfl, hgv, hcv⟩ := HVT.out.cellOf (by omega)
    have c0 : wr.cell? ⟨gu, ou + k, none⟩ = some (.string x) := by rw [hq]; exact (B1.out.cell (p := ⟨gu, ou + k, none⟩) (Nat.lt_of_lt_of_le hgu hBH.out)).trans (hcu k _ (by unfold strsC; rw [List.getElem?_map, hx]; rfl))
    have c1 : wr.cell? ⟨gv, ov + k, none⟩ = some (.string y) := by rw [hq]; exact (B1.out.cell (p := ⟨gv, ov + k, none⟩) (Nat.lt_of_lt_of_le hgv hBH.out)).trans (hcv k _ (by unfold strsC; rw [List.getElem?_map, hy]; rfl))
    have d1 : decide (k < T) = true := decide_eq_true hkl
    have d2 : decide ((k : Int) < (T : Int)) = true := decide_eq_true (by omega)
    have hst := Lib.hid (drop_dec hx hy)
    have hkH := Lib.hid hkl
    have q0 : (0 : Int) ≤ (k : Int) := by omega
    have q1 : (k : Int) < (T : Int) := by omega
    have q2 : (T : Int) ≤ 17592186044416 := by omega
    have hqH := Lib.hid hq
    clear hx hy hcu hcv hkl hq hk hgu hgv
    by_cases hxy : x = y
    · subst hxy
      go_wp2_with (go_quiet (fail))
      go_roundw
      case rel => exact ⟨k + 1, hkH.out, by go_num, by unfold Hid; rw [hE.out, hst.out]; simp, _, by rw [hqH.out, World.drewN_drewN]⟩
      case measure => have := hkH.out; simp [intOf]; omega
    · have d3 : (x.toList == y.toList) = false := by
        cases e : (x.toList == y.toList) with
        | false => rfl
        | true => exact absurd (text_eq_iff.1 e) hxy
      have d4 : ¬ x.toList = y.toList := beq_eq_false_iff_ne.1 d3
      have d5 : (x.toList != y.toList) = true := by rw [bne_iff_ne]; exact d4
      have hF : Hid (sameE s t = false) := by unfold Hid sameE; rw [hE.out, hst.out, decide_eq_false hxy]; rfl
      clear hxy
      go_wp2_with (go_quiet (fail))
      go_ret
      exact ⟨by rw [hF.out]; rfl, by rw [hqH.out, World.drewN_drewN]; exact bel_drewN B1.out _⟩
  case neg =>
  have d1 : decide (k < T) = false := decide_eq_false hkl
  have d2 : decide ((k : Int) < (T : Int)) = false := decide_eq_false (by omega)
  have hTx : Hid (decide (s.texts = t.texts) = true) := by unfold Hid; rw [hE.out, List.drop_eq_nil_of_le (by rw [hTH.out]; omega), List.drop_eq_nil_of_le (by rw [hTH'.out]; omega)]; rfl
  have hqH := Lib.hid hq
  clear hkl hE hk hq
  obtain ⟨wo, rfl⟩ : ∃ z, z = wr := ⟨_, rfl⟩
  go_wp2_with fail
  go_loopw [6] (fun a wr => ∃ k : Nat, k ≤ N ∧ a = .int .i64 k ∧ Hid (decide (s.steps = t.steps) = decide (s.steps.drop k = t.steps.drop k)) ∧ ∃ q, wr = W1.drewN q) (fun a _ => N - (intOf a).toNat)
  case atStart => exact ⟨0, Nat.zero_le _, rfl, rfl, q, hqH.out⟩
  case round =>
  clear x0 x1 y0 y1 hqH d1 d2
  obtain ⟨k, hk, rfl, hE, q, hq⟩ := hrel
  have x1 : wr.cell? ⟨g, 1, none⟩ = some (.slice Aus N cus) := by rw [hq]; exact X1.out.cell 1
  have y1 : wr.cell? ⟨g + 1, 1, none⟩ = some (.slice Avs N cvs) := by rw [hq]; exact Y1.out.cell 1
  by_cases hkl : k < N
  case neg =>
    have d1 : decide (k < N) = false := decide_eq_false hkl
    have d2 : decide ((k : Int) < (N : Int)) = false := decide_eq_false (by omega)
    have hF : Hid (sameE s t = true) := by unfold Hid sameE; rw [hTx.out, hE.out, List.drop_eq_nil_of_le (by rw [hNH.out]; omega), List.drop_eq_nil_of_le (by rw [hNH'.out]; omega)]; rfl
    have hqH := Lib.hid hq
    clear hkl hq hk
    go_wp2_with fail
    go_ret
    exact ⟨by rw [hF.out]; rfl, by rw [hqH.out]; exact bel_drewN B1.out _⟩
  case pos =>
  obtain ⟨x, hx⟩ : ∃ z, s.steps[k]? = some z := ⟨_, List.getElem?_eq_getElem (by rw [hNH.out]; exact hkl)⟩
  obtain ⟨y, hy⟩ : ∃ z, t.steps[k]? = some z := ⟨_, List.getElem?_eq_getElem (by rw [hNH'.out]; exact hkl)⟩
  obtain ⟨gu, ou, xu, rfl, hgu, cu0, cu1, cu2, hru⟩ := HUS.out.some_ hNH.out hx
  obtain ⟨gv, ov, yv, rfl, hgv, cv0, cv1, cv2, hrv⟩ := HVS.out.some_ hNH'.out hy
  have c0 : wr.cell? ⟨gu, ou + k * 3, none⟩ = some (.int .i64 x.kind) := by rw [hq]; exact (B1.out.cell (p := ⟨gu, _, none⟩) (Nat.lt_of_lt_of_le hgu hBH.out)).trans cu0
  have c1 : wr.cell? ⟨gu, ou + k * 3 + 1, none⟩ = some xu := by rw [hq]; exact (B1.out.cell (p := ⟨gu, _, none⟩) (Nat.lt_of_lt_of_le hgu hBH.out)).trans cu1
  have c2 : wr.cell? ⟨gu, ou + k * 3 + 2, none⟩ = some (.string x.text) := by rw [hq]; exact (B1.out.cell (p := ⟨gu, _, none⟩) (Nat.lt_of_lt_of_le hgu hBH.out)).trans cu2
  have e0 : wr.cell? ⟨gv, ov + k * 3, none⟩ = some (.int .i64 y.kind) := by rw [hq]; exact (B1.out.cell (p := ⟨gv, _, none⟩) (Nat.lt_of_lt_of_le hgv hBH.out)).trans cv0
  have e1 : wr.cell? ⟨gv, ov + k * 3 + 1, none⟩ = some yv := by rw [hq]; exact (B1.out.cell (p := ⟨gv, _, none⟩) (Nat.lt_of_lt_of_le hgv hBH.out)).trans cv1
  have e2 : wr.cell? ⟨gv, ov + k * 3 + 2, none⟩ = some (.string y.text) := by rw [hq]; exact (B1.out.cell (p := ⟨gv, _, none⟩) (Nat.lt_of_lt_of_le hgv hBH.out)).trans cv2
  have hSI := fun n => Lib.hid (SameInts_any x.args y.args xu yv B (wr.drewN n) (by rw [hq]; exact hru.below (bel_drewN (bel_drewN (B1.out.mono hBH.out) _) _)) (by rw [hq]; exact hrv.below (bel_drewN (bel_drewN (B1.out.mono hBH.out) _) _)) (by rw [hq]; exact Nat.le_trans hBH.out B1.out.size) ((HSI.out.stp x (List.mem_of_getElem? hx)).nargs))
  have d1 : decide (k < N) = true := decide_eq_true hkl
  have d2 : decide ((k : Int) < (N : Int)) = true := decide_eq_true (by omega)
  have hst := Lib.hid (drop_dec hx hy)
  have hsd := stp_dec x y
  have hkH := Lib.hid hkl
  have q0 : (0 : Int) ≤ (k : Int) := by omega
  have q1 : (k : Int) < (N : Int) := by omega
  have q2 : (N : Int) ≤ 17592186044416 := by omega
  have hqH := Lib.hid hq
  obtain ⟨wo2, rfl⟩ : ∃ z, z = wr := ⟨_, rfl⟩
  clear hx hy hru hrv cu0 cu1 cu2 cv0 cv1 cv2 hkl hq hk hgu hgv
  obtain ⟨kx, hkx⟩ : ∃ z, x.kind = z := ⟨_, rfl⟩
  obtain ⟨ky, hky⟩ : ∃ z, y.kind = z := ⟨_, rfl⟩
  obtain ⟨tx, htx⟩ : ∃ z, x.text = z := ⟨_, rfl⟩
  obtain ⟨ty, hty⟩ : ∃ z, y.text = z := ⟨_, rfl⟩
  obtain ⟨ax, hax⟩ : ∃ z, decide (x.args = y.args) = z := ⟨_, rfl⟩
  rw [hkx, hky, htx, hty, hax] at hsd
  rw [hkx] at c0
  rw [hky] at e0
  rw [htx] at c2
  rw [hty] at e2
  rw [hax] at hSI
  have hsdH := Lib.hid hsd
  clear hsd hkx hky htx hty hax
  by_cases hk1 : kx = ky
  case neg =>
    have d3 : (kx != ky) = true := by rw [bne_iff_ne]; exact hk1
    have d4 : (kx == ky) = false := beq_eq_false_iff_ne.2 hk1
    have hF : Hid (sameE s t = false) := by unfold Hid sameE; rw [hE.out, hst.out, hsdH.out, decide_eq_false hk1]; simp
    clear hk1 hSI
    go_wp2_with fail
    go_quiet (fail)
    go_wp2_with fail
    go_ret
    exact ⟨by rw [hF.out]; rfl, by rw [hqH.out, World.drewN_drewN]; exact bel_drewN B1.out _⟩
  case pos =>
  subst hk1
  by_cases ht1 : tx = ty
  case neg =>
    have d3 : (tx.toList == ty.toList) = false := by
      cases e : (tx.toList == ty.toList) with
      | false => rfl
      | true => exact absurd (text_eq_iff.1 e) ht1
    have d4 : ¬ tx.toList = ty.toList := beq_eq_false_iff_ne.1 d3
    have d5 : (tx.toList != ty.toList) = true := by rw [bne_iff_ne]; exact d4
    have hF : Hid (sameE s t = false) := by unfold Hid sameE; rw [hE.out, hst.out, hsdH.out, decide_eq_false ht1]; simp
    clear ht1 hSI
    go_wp2_with fail
    go_quiet (fail)
    go_wp2_with fail
    go_ret
    exact ⟨by rw [hF.out]; rfl, by rw [hqH.out, World.drewN_drewN]; exact bel_drewN B1.out _⟩
  case pos =>
  subst ht1
  cases ax
  case false =>
    have hF : Hid (sameE s t = false) := by unfold Hid sameE; rw [hE.out, hst.out, hsdH.out]; simp
    go_wp2_with fail
    go_quiet ((go_at_call 53; exact Calls.quiet_of (hSI _).out))
    go_wp2_with fail
    go_ret
    exact ⟨by rw [hF.out]; rfl, by rw [hqH.out, World.drewN_drewN]; exact bel_drewN B1.out _⟩
  case true =>
    have hE2 : Hid (decide (s.steps = t.steps) = decide (s.steps.drop (k + 1) = t.steps.drop (k + 1))) := by unfold Hid; rw [hE.out, hst.out, hsdH.out]; simp
    go_wp2_with fail
    go_quiet ((go_at_call 53; exact Calls.quiet_of (hSI _).out))
    go_wp2_with fail
    go_roundw
    case rel => exact ⟨k + 1, hkH.out, by go_num, hE2.out, _, by rw [hqH.out, World.drewN_drewN]⟩
    case measure => have := hkH.out; simp [intOf]; omega
end Go.Proofs.YtldkfhimpkiigaaGreatDoor
