/-
  Layer 46 (script): the step of the words of a line.
-/
import Derived.Test.YtldkfhimpkiigaaGreatDoorScrW9
import Derived.Test.YtldkfhimpkiigaaGreatDoorRowB
namespace Go.Proofs.YtldkfhimpkiigaaGreatDoor
open Go.RowKit ScrP
attribute [local go_sem] Oper.semAt_some

def bls (l : List ByteArray) : List (List UInt8) := l.map fun z => z.data.toList
def valsOf (l : List ByteArray) : List Int := l.map fun z => (decVal z.data.toList : Int)
def zStep : Value := .agg #[.int .i64 0, .slice none 0 0, .string ⟨#[]⟩]
/-- What step leaves. -/
def StepPost (l : List (List UInt8)) (w : World) (e : Ending) (w' : World) : Prop :=
  Below w.heap.size w w' ∧ match stepW l with
  | .error c => e = .returned (.tuple #[zStep, .int .i64 c])
  | .ok x => ∃ va, e = .returned (.tuple #[.agg #[.int .i64 x.kind, va, .string x.text], .int .i64 0]) ∧ w'.ownsRow w.heap.size 3 1 va x.args.length (intsC x.args) ∧ x.args.length ≤ 100000000 ∧ x.text.size ≤ 200000000
theorem stepW_none {z : ByteArray} {rs : List ByteArray} (h : kindN z = 0) : stepW (bls (z :: rs)) = .error 4 := by
  show stepW (z.data.toList :: bls rs) = _
  unfold stepW
  dsimp only
  rw [show (⟨z.data.toList.toArray⟩ : ByteArray) = z by cases z; simp, if_pos h]
theorem stepW_some {z : ByteArray} {rs : List ByteArray} {k : Nat} (h : kindN z = k) (hk : 0 < k) : stepW (bls (z :: rs)) = match restB (bls rs) with
    | none => .error 3
    | some (args, t) => if stepOk ⟨k, args, ⟨t.toArray⟩⟩ then .ok ⟨k, args, ⟨t.toArray⟩⟩ else .error 1 := by
  show stepW (z.data.toList :: bls rs) = _
  unfold stepW
  dsimp only
  rw [show (⟨z.data.toList.toArray⟩ : ByteArray) = z by cases z; simp, h, if_neg (by omega)]
  rfl
theorem slice_one (b N : Nat) (hN : 0 < N) : ∃ A2, (1 < N → A2 = some ⟨b, 1, none⟩) ∧ ∀ wx, (Instr.slice 22 (.slice (some ⟨b, 0, none⟩) N N) (some (.int .i64 1)) none none).run Tryz.prog wx = .ok (.slice A2 (N - 1) (N - 1)) wx := by
  by_cases h1 : 1 < N
  · refine ⟨some ⟨b, 1, none⟩, fun _ => rfl, fun wx => ?_⟩
    have e1 : ¬ N < 1 := by omega
    have e3 : 1 ≤ N := by omega
    have e4 : ¬ N = 1 := by omega
    simp [go_sem, e4]
    intro h
    omega
  · obtain rfl : N = 1 := by omega
    exact ⟨some ⟨b, 0, none⟩, fun h => absurd h (by decide), fun wx => by simp [go_sem]⟩
theorem slice_head {u : ByteArray} {c : UInt8} {r : List UInt8} (h : u.data.toList = c :: r) (wx : World) : (Instr.slice 9 (.string u) none (some (.int .i64 1)) none).run Tryz.prog wx = .ok (.string ⟨#[c]⟩) wx := by
  have hs : u.size = r.length + 1 := by rw [show u.size = u.data.toList.length from Array.length_toList.symm, h]; rfl
  have e : u.extract 0 1 = ⟨#[c]⟩ := by
    refine ByteArray.ext (Array.ext' ?_)
    rw [ByteArray.data_extract, Array.toList_extract, List.extract_eq_take_drop, h]
    rfl
  have h1 : (1 : Int) ≤ (u.size : Int) := by omega
  rw [← e]
  simp [Instr.slice, Instr.sliceBounds, Instr.sliceBound, asIntOf, run_underlying Tryz.underlying9]
  intro hc
  omega
theorem slice_upto (b n m : Nat) (h : m ≤ n) (wx : World) : (Instr.slice 22 (.slice (some ⟨b, 1, none⟩) n n) none (some (.int .i64 (m : Int))) none).run Tryz.prog wx = .ok (.slice (some ⟨b, 1, none⟩) m n) wx := by
  simp [go_sem, h]
theorem last_map {rs : List ByteArray} {u : ByteArray} {m : Nat} (hl : rs.length = m + 1) (hu : rs[m]? = some u) : (bls rs).getLast? = some u.data.toList := by
  unfold bls
  rw [List.getLast?_map, List.getLast?_eq_getElem?, show rs.length - 1 = m by omega, hu]
  rfl
theorem drop_map {rs : List ByteArray} : (bls rs).dropLast = bls rs.dropLast := by unfold bls; rw [List.map_dropLast]
theorem intsC_snoc (l : List Int) (a : Int) : intsC (l ++ [a]) = intsC l ++ [.int .i64 a] := by unfold intsC; rw [List.map_append]; rfl
theorem intsC_snoc' (l : List Int) (z : ByteArray) : intsC (l ++ List.map (fun z : ByteArray => (decVal z.data.toList : Int)) [z]) = intsC l ++ [.int .i64 (decVal z.data.toList : Int)] := by unfold intsC; rw [List.map_append]; rfl
theorem ownsRow_setCell_ne' {w : World} {B n k g : Nat} {e t : TypeId} {v : Value} {xs : List Value} {cs : Array Value} (h : w.ownsRow B e k v n xs) (hb : Blk w g t cs) (hne : e ≠ t) (i : Nat) (u : Value) : (w.setCell ⟨g, i, none⟩ u).ownsRow B e k v n xs :=
  h.kept (row := some g) ⟨rfl, rfl, rfl, by rw [show (w.setCell ⟨g, i, none⟩ u).heap.size = w.heap.size by simp [World.setCell]]; exact Nat.le_refl _, fun j hj hne2 => Below.heap_setCell _ _ _ _ (fun e => hne2 (by rw [e]))⟩ (.inr (own_blk_ne h hb hne))
theorem take_more {α : Type} {l : List α} {j : Nat} {r : α} (h : l[j]? = some r) : l.take (j + 1) = l.take j ++ [r] := by rw [List.take_add_one, h]; rfl
theorem drop_at_ (rs : List ByteArray) (j : Nat) (z : ByteArray) (h : rs.dropLast[j]? = some z) : rs[j]? = some z := by
  rw [List.getElem?_dropLast] at h
  split at h
  · exact h
  · cases h
def ZCells : Array Value := #[.int .i64 0, .slice none 0 0, .string ⟨#[]⟩]
set_option maxRecDepth 100000 in
set_option maxHeartbeats 8000000 in
theorem step_any (z0 : ByteArray) (rs : List ByteArray) (b : Nat) (w : World) (hc : ∀ (j : Nat) (z : ByteArray), (z0 :: rs)[j]? = some z → w.cell? ⟨b, j, none⟩ = some (.string z)) (hb : b < w.heap.size)
    (hz : ∀ z ∈ z0 :: rs, z.size ≠ 0 ∧ z.size ≤ 100000000) (hn : rs.length ≤ 100000000) (hK : KTab w) (hL : LibAt w) :
    Calls Tryz.prog 56 #[.slice (some ⟨b, 0, none⟩) (rs.length + 1) (rs.length + 1)] w (StepPost (bls (z0 :: rs)) w) := by
  have HC := Lib.hid hc
  have HB := Lib.hid hb
  have HZ := Lib.hid hz
  have HK := Lib.hid hK
  have HL := Lib.hid hL
  obtain ⟨n, hnn⟩ : ∃ n, rs.length = n := ⟨_, rfl⟩
  have hnH := Lib.hid hnn
  rw [hnn] at hn ⊢
  obtain ⟨N, hN⟩ : ∃ N, n + 1 = N := ⟨_, rfl⟩
  obtain ⟨A2, hA2, hsl⟩ := slice_one b N (by omega)
  rw [hN]
  rw [show N - 1 = n by omega] at hsl
  have hA2H : Hid (0 < n → A2 = some ⟨b, 1, none⟩) := fun h => hA2 (by omega)
  have hNn := Lib.hid hN
  have q0 : (0 : Int) < (N : Int) := by omega
  have q0' : 0 < N := by omega
  clear hc hb hz hK hL hnn hN hA2
  go_enter Tryz.func56, Tryz.ntmps56
  go_upto_region 1 with fail
  refine world_is (P := fun W => Code.wp _ _ _ _ W) (fun W1 hW1 => ?_)
  have B1 : Hid (Below w.heap.size w W1) := by unfold Hid; rw [← hW1]; exact (Below.refl _ _).alloc (Nat.le_refl _) _
  have RA1 : Hid (Blk W1 w.heap.size 53 #[.int .i64 0, .slice none 0 0, .string ⟨#[]⟩]) := by unfold Hid; rw [← hW1]; exact Blk.new _ _ _
  obtain ⟨ra, era⟩ : ∃ g, w.heap.size = g := ⟨_, rfl⟩
  have hra : Hid (w.heap.size ≤ ra) := Nat.le_of_eq era
  rw [era] at RA1 ⊢
  clear hW1 era
  have k0 : W1.cell? ⟨b, 0, none⟩ = some (.string z0) := (B1.out.cell (p := ⟨b, _, none⟩) HB.out).trans (HC.out 0 z0 rfl)
  obtain ⟨kn, hkn⟩ : ∃ k, kindN z0 = k := ⟨_, rfl⟩
  have HKd := Lib.hid (Kind_any z0 W1 (HK.out.below B1.out))
  rw [hkn] at HKd
  have hknH := Lib.hid hkn
  clear hkn
  go_wp2_with fail
  refine HKd.out.mono ?_
  rintro e w2 ⟨rfl, hB2⟩
  have B2 := Lib.hid (B1.out.trans (hB2.mono B1.out.size))
  have RA2 := Lib.hid (RA1.out.below hB2 RA1.out.lt)
  clear hB2 B1 RA1 k0 HKd
  by_cases hk : 0 < kn
  case neg =>
    have d1 : decide (0 < kn) = false := decide_eq_false hk
    have hF := Lib.hid (stepW_none (z := z0) (rs := rs) (by rw [hknH.out]; omega))
    have r0 := RA2.out.cell 0
    have r1 := RA2.out.cell 1
    have r2 := RA2.out.cell 2
    have f0 := RA2.out.frozen 0
    have f1 := RA2.out.frozen 1
    have f2 := RA2.out.frozen 2
    clear hk hsl q0 q0'
    go_wp2_with fail
    refine bodyPost_ret (results_ct (P := Tryz.prog) rfl _ _ ra 53 #[.int .i64 0, .slice none 0 0, .string ⟨#[]⟩] _ rfl (((RA2.out.set_ 0 _).set_ 1 _).set_ 2 _) Tryz.underlying53 rfl (by kernel_rfl)) rfl ?_
    refine ⟨((B2.out.setCell (p := ⟨ra, 0, none⟩) hra.out _).setCell (p := ⟨ra, 1, none⟩) hra.out _).setCell (p := ⟨ra, 2, none⟩) hra.out _, ?_⟩
    rw [hF.out]
    rfl
  case pos =>
  have d1 : decide (0 < kn) = true := decide_eq_true hk
  have hF := Lib.hid (stepW_some (rs := rs) hknH.out hk)
  clear hk
  go_upto_region 5 with fail
  refine world_is (P := fun W => Code.wp _ _ _ _ W) (fun W3 hW3 => ?_)
  have hB3 : Below w2.heap.size w2 W3 := by rw [← hW3]; exact (Below.refl _ _).alloc (Nat.le_refl _) _
  have B3 := Lib.hid (B2.out.trans (hB3.mono B2.out.size))
  have RA3 := Lib.hid (RA2.out.below hB3 RA2.out.lt)
  have X3 : Hid (Blk W3 w2.heap.size 53 #[.int .i64 (kn : Int), .slice none 0 0, .string ⟨#[]⟩]) := by unfold Hid; rw [← hW3]; exact Blk.new _ _ _
  have hxr : w2.heap.size ≠ ra := Nat.ne_of_gt RA2.out.lt
  have hxb : Hid (w.heap.size ≤ w2.heap.size) := B2.out.size
  obtain ⟨xb, exb⟩ : ∃ g, w2.heap.size = g := ⟨_, rfl⟩
  rw [exb] at X3 hxr hxb ⊢
  clear hW3 exb hB3 B2 RA2 d1
  have hcell : Hid (∀ W, Below w.heap.size w W → ∀ (j : Nat) (z : ByteArray), rs[j]? = some z → W.cell? ⟨b, 1 + j, none⟩ = some (.string z)) := fun W hW j z h => (hW.cell (p := ⟨b, _, none⟩) HB.out).trans (HC.out (1 + j) z (by rw [Nat.add_comm]; exact h))
  go_upto_region 7 with fail
  obtain ⟨lit, hlit⟩ : ∃ b, (match rs.getLast? with | some u => isLit u.data.toList | none => false) = b := ⟨_, rfl⟩
  have hlitH := Lib.hid hlit
  clear hlit hsl q0 q0'
  go_cut [38] from 28 (fun v wx => v = .bool lit ∧ ∃ W, wx = W ∧ Hid (Below W3.heap.size W3 W))
  case first =>
    by_cases h0 : 0 < n
    case neg =>
      have e0 : n = 0 := by omega
      have e1 : decide ((0 : Int) < (n : Int)) = false := decide_eq_false (by omega)
      have e2 : decide (0 < n) = false := decide_eq_false h0
      have e3 : ¬ (0 : Int) < (n : Int) := by omega
      have hl : Hid (lit = false) := by
        unfold Hid
        rw [← hlitH.out, List.eq_nil_of_length_eq_zero (show rs.length = 0 by rw [hnH.out]; exact e0)]
        rfl
      clear h0 e0
      go_wp2_with fail
      go_meet
      exact ⟨by rw [hl.out], _, rfl, Below.refl _ _⟩
    case pos =>
      obtain ⟨m, hm⟩ : ∃ m, n = m + 1 := ⟨n - 1, by omega⟩
      obtain ⟨u, hu⟩ : ∃ u, rs[m]? = some u := ⟨_, List.getElem?_eq_getElem (by rw [hnH.out]; omega)⟩
      have huz := HZ.out u (List.mem_cons_of_mem _ (List.mem_iff_getElem?.2 ⟨m, hu⟩))
      obtain ⟨c, r, hcr⟩ : ∃ c r, u.data.toList = c :: r := by
        cases e : u.data.toList with
        | nil => exact absurd (show u.size = 0 by rw [show u.size = u.data.toList.length from Array.length_toList.symm, e]; rfl) huz.1
        | cons c r => exact ⟨c, r, rfl⟩
      have hst := slice_head hcr
      have hA := hA2H.out h0
      subst hA
      have kl := hcell.out W3 B3.out m u hu
      have hl : Hid ((c == 64 || c == 61) = lit) := by
        unfold Hid
        rw [← hlitH.out, List.getLast?_eq_getElem?, show rs.length - 1 = m by rw [hnH.out]; omega, hu]
        show _ = isLit u.data.toList
        rw [hcr, isLit_head]
      have e1 : decide ((0 : Int) < (n : Int)) = true := decide_eq_true (by omega)
      have e2 : decide (0 < n) = true := decide_eq_true h0
      have e3 : (n : Int) - 1 = (m : Int) := by omega
      have q1 : (0 : Int) ≤ (m : Int) := by omega
      have q2 : (m : Int) < (n : Int) := by omega
      have HA := Lib.hid (ContainsAny_first c W3)
      rw [hl.out] at HA
      clear hu hcr huz hm h0
      go_wp2_with fail
      refine HA.out.mono ?_
      rintro e w5 ⟨rfl, hB5⟩
      have L5 := Lib.hid hB5
      clear hB5 HA kl
      go_wp2_with fail
      go_meet
      exact ⟨rfl, _, rfl, L5.out⟩
  case rest =>
  obtain ⟨rfl, w4, hww, hL4⟩ := hcut
  rw [hww]
  clear hww
  have B4 := Lib.hid (B3.out.trans (hL4.out.mono B3.out.size))
  have RA4 := Lib.hid (RA3.out.below hL4.out RA3.out.lt)
  have X4 := Lib.hid (X3.out.below hL4.out X3.out.lt)
  clear hL4 B3 RA3 X3
  go_upto_if 38 with fail
  go_cut [0, 5] from 38 (fun v0 _ wx => ∃ (ms : List ByteArray) (A4 : Option Addr) (c4 : Nat) (tx : ByteArray), v0 = .slice A4 ms.length c4 ∧ Hid (0 < ms.length → A4 = some ⟨b, 1, none⟩) ∧ Hid (∀ (j : Nat) (z : ByteArray), ms[j]? = some z → rs[j]? = some z) ∧ ms.length ≤ n ∧ Hid (restB (bls rs) = restOf (bls ms) tx.data.toList) ∧ tx.size ≤ 200000000 ∧ ∃ W, wx = W ∧ Hid (Blk W xb 53 #[.int .i64 (kn : Int), .slice none 0 0, .string tx]) ∧ Hid (Blk W ra 53 #[.int .i64 0, .slice none 0 0, .string ⟨#[]⟩]) ∧ Hid (Below w.heap.size w W))
  case first =>
    cases lit
    case false =>
      have hR : Hid (restB (bls rs) = restOf (bls rs) (⟨#[]⟩ : ByteArray).data.toList) := by
        unfold Hid
        by_cases h0 : 0 < n
        · obtain ⟨m, hm⟩ : ∃ m, n = m + 1 := ⟨n - 1, by omega⟩
          obtain ⟨u, hu⟩ : ∃ u, rs[m]? = some u := ⟨_, List.getElem?_eq_getElem (by rw [hnH.out]; omega)⟩
          have hl := hlitH.out
          rw [List.getLast?_eq_getElem?, show rs.length - 1 = m by rw [hnH.out]; omega, hu] at hl
          exact rest_plain (last_map (by rw [hnH.out]; exact hm) hu) hl
        · rw [List.eq_nil_of_length_eq_zero (show rs.length = 0 by rw [hnH.out]; omega)]
          rfl
      go_wp2_with fail
      go_meet
      exact ⟨rs, A2, n, ⟨#[]⟩, by rw [hnH.out], by rw [hnH.out]; exact hA2H, fun j z h => h, Nat.le_of_eq hnH.out, hR.out, Nat.zero_le _, _, rfl, X4.out, RA4.out, B4.out⟩
    case true =>
      have h0 : 0 < n := by
        refine Nat.pos_of_ne_zero fun e => ?_
        have hl := hlitH.out
        rw [List.eq_nil_of_length_eq_zero (show rs.length = 0 by rw [hnH.out]; exact e)] at hl
        cases hl
      obtain ⟨m, hm⟩ : ∃ m, n = m + 1 := ⟨n - 1, by omega⟩
      obtain ⟨u, hu⟩ : ∃ u, rs[m]? = some u := ⟨_, List.getElem?_eq_getElem (by rw [hnH.out]; omega)⟩
      have huz := HZ.out u (List.mem_cons_of_mem _ (List.mem_iff_getElem?.2 ⟨m, hu⟩))
      obtain ⟨c, r, hcr⟩ : ∃ c r, u.data.toList = c :: r := by
        cases e : u.data.toList with
        | nil => exact absurd (show u.size = 0 by rw [show u.size = u.data.toList.length from Array.length_toList.symm, e]; rfl) huz.1
        | cons c r => exact ⟨c, r, rfl⟩
      have hA := hA2H.out h0
      subst hA
      have kl := hcell.out w4 B4.out m u hu
      have hl : Hid (isLit u.data.toList = true) := by
        have hl := hlitH.out
        rw [List.getLast?_eq_getElem?, show rs.length - 1 = m by rw [hnH.out]; omega, hu] at hl
        exact hl
      have hlast := Lib.hid (last_map (by rw [hnH.out]; exact hm) hu)
      have e3 : (n : Int) - 1 = (m : Int) := by omega
      have q1 : (0 : Int) ≤ (m : Int) := by omega
      have q2 : (m : Int) < (n : Int) := by omega
      have hmH := Lib.hid hm
      have HLt := Lib.hid (literal_any u c r hcr w4 (by omega))
      have husz : Hid (u.size ≤ 100000000) := huz.2
      have hsu := slice_upto b n m (by omega)
      clear hu hcr huz hm h0
      go_wp2_with fail
      refine HLt.out.mono ?_
      rintro e w5 ⟨hB5, t, is, rfl, his, hts, htz⟩
      have X5 := Lib.hid (X4.out.below hB5 X4.out.lt)
      have RA5 := Lib.hid (RA4.out.below hB5 RA4.out.lt)
      have B5 := Lib.hid (B4.out.trans (hB5.mono B4.out.size))
      have isH := Lib.hid his
      have tsH := Lib.hid hts
      have tzH : Hid (t.size ≤ 200000000) := by unfold Hid; have := husz.out; omega
      clear hB5 X4 RA4 B4 his hts htz kl HLt
      have x2 := X5.out.cell 2
      have g2 := X5.out.frozen 2
      cases is
      case true =>
        have hR : Hid (restB (bls rs) = restOf (bls rs.dropLast) t.data.toList) := by
          unfold Hid
          rw [← drop_map]
          exact rest_some hlast.out hl.out (tsH.out rfl)
        have hdl : Hid (rs.dropLast.length = m) := by unfold Hid; rw [List.length_dropLast, hnH.out, hmH.out]; rfl
        clear x2 g2
        have x2 := X5.out.cell 2
        have g2 := X5.out.frozen 2
        go_wp2_with fail
        go_meet
        exact ⟨rs.dropLast, some ⟨b, 1, none⟩, n, t, by rw [hdl.out], fun _ => rfl, drop_at_ rs, (by have h1 := hdl.out; have h2 := hmH.out; omega), hR.out, tzH.out, _, rfl, X5.out.set_ 2 _, RA5.out.other (a := ⟨xb, 2, none⟩) (Ne.symm hxr) _, B5.out.setCell (p := ⟨xb, 2, none⟩) hxb.out _⟩
      case false =>
        have hnone : literalB u.data.toList = none := by
          cases e : literalB u.data.toList with
          | none => rfl
          | some x => have := isH.out; rw [e] at this; cases this
        have hR : Hid (restB (bls rs) = restOf (bls rs) t.data.toList) := rest_none _ hlast.out hl.out hnone
        clear hnone
        go_wp2_with fail
        go_meet
        exact ⟨rs, some ⟨b, 1, none⟩, n, t, by rw [hnH.out], fun _ => rfl, fun j z h => h, Nat.le_of_eq hnH.out, hR.out, tzH.out, _, rfl, X5.out.set_ 2 _, RA5.out.other (a := ⟨xb, 2, none⟩) (Ne.symm hxr) _, B5.out.setCell (p := ⟨xb, 2, none⟩) hxb.out _⟩
  case rest =>
  obtain ⟨ms, A4, c4, tx, rfl, hA4, hms, hmn, hRB, htx, w6, hww, X6, RA6, B6⟩ := hcut
  rw [hww]
  clear hww X4 RA4 B4 hlitH hA2H
  obtain ⟨M, hM⟩ : ∃ M, ms.length = M := ⟨_, rfl⟩
  have hMH := Lib.hid hM
  rw [hM] at hA4 hmn ⊢
  clear hM
  have hMn : M ≤ 100000000 := Nat.le_trans hmn hn
  have htxH := Lib.hid htx
  clear hmn htx
  go_wp2_with fail
  go_loopw [56] (fun v56 wr => ∃ (j : Nat) (va : Value), v56 = .int .i64 (j : Int) ∧ j ≤ M ∧ Hid ((bls (ms.take j)).all decOk = true) ∧ Hid (Blk wr xb 53 #[.int .i64 (kn : Int), va, .string tx]) ∧ Hid (wr.ownsRow w.heap.size 3 1 va j (intsC (valsOf (ms.take j)))) ∧ Hid (Blk wr ra 53 #[.int .i64 0, .slice none 0 0, .string ⟨#[]⟩]) ∧ Hid (Below w.heap.size w wr)) (fun v56 _ => M - (intOf v56).toNat)
  case atStart => exact ⟨0, _, rfl, Nat.zero_le _, rfl, X6.out, World.ownsRow_nil _ _ _ _, RA6.out, B6.out⟩
  case round =>
  obtain ⟨j, va, rfl, hj, hall, X7, hrow, RA7, B7⟩ := hrel
  obtain ⟨w7, hw7⟩ : ∃ x, x = wr := ⟨_, rfl⟩
  subst hw7
  obtain ⟨Av, Cv, rfl⟩ := own_slice hrow.out
  clear X6 RA6 B6
  by_cases hlt : j < M
  case pos =>
    have d1 : decide (j < M) = true := decide_eq_true hlt
    have d2 : decide ((j : Int) < (M : Int)) = true := decide_eq_true (by omega)
    obtain ⟨z, hz⟩ : ∃ z, ms[j]? = some z := ⟨_, List.getElem?_eq_getElem (by rw [hMH.out]; exact hlt)⟩
    have hzr := hms.out j z hz
    have k0 := hcell.out w7 B7.out j z hzr
    have hA := hA4.out (by omega)
    subst hA
    have hzz := HZ.out z (List.mem_cons_of_mem _ (List.mem_iff_getElem?.2 ⟨j, hzr⟩))
    have HD := Lib.hid (decimal_any z w7 (by omega) (HL.out.below B7.out))
    have q1 : (0 : Int) ≤ (j : Int) := by omega
    have q2 : (j : Int) < (M : Int) := by omega
    have hzH := Lib.hid hz
    have hltH := Lib.hid hlt
    clear hz hzr hlt hzz
    go_wp2_with fail
    refine HD.out.mono ?_
    rintro e w8 ⟨hB8, n8, rfl, hn8⟩
    have X8 := Lib.hid (X7.out.below hB8 X7.out.lt)
    have RA8 := Lib.hid (RA7.out.below hB8 RA7.out.lt)
    have B8 := Lib.hid (B7.out.trans (hB8.mono B7.out.size))
    have R8 := Lib.hid (hrow.out.kept (grown_ofBelow hB8 none) (by cases (Value.slice Av j Cv).ownBlock with | none => exact .inl rfl | some c => exact .inr (fun e => by cases e)))
    have n8H := Lib.hid hn8
    obtain ⟨ok, hok⟩ : ∃ b, decOk z.data.toList = b := ⟨_, rfl⟩
    rw [hok] at n8H ⊢
    have hokH := Lib.hid hok
    clear hok hn8 hB8 X7 RA7 B7 hrow k0 HD
    cases ok
    case false =>
      have hno : Hid ((bls ms).all decOk = false) := by
        unfold Hid
        rw [List.all_eq_false]
        exact ⟨z.data.toList, List.mem_map_of_mem (List.mem_iff_getElem?.2 ⟨j, hzH.out⟩), by rw [hokH.out]; decide⟩
      have hE : Hid (stepW (bls (z0 :: rs)) = .error 3) := by
        unfold Hid
        rw [hF.out, hRB.out]
        unfold restOf
        rw [hno.out]
        rfl
      have r0 := RA8.out.cell 0
      have r1 := RA8.out.cell 1
      have r2 := RA8.out.cell 2
      have f0 := RA8.out.frozen 0
      have f1 := RA8.out.frozen 1
      have f2 := RA8.out.frozen 2
      go_wp2_with fail
      refine bodyPost_ret (results_ct (P := Tryz.prog) rfl _ _ ra 53 #[.int .i64 0, .slice none 0 0, .string ⟨#[]⟩] _ rfl (((RA8.out.set_ 0 _).set_ 1 _).set_ 2 _) Tryz.underlying53 rfl (by kernel_rfl)) rfl ?_
      refine ⟨((B8.out.setCell (p := ⟨ra, 0, none⟩) hra.out _).setCell (p := ⟨ra, 1, none⟩) hra.out _).setCell (p := ⟨ra, 2, none⟩) hra.out _, ?_⟩
      rw [hE.out]
      rfl
    case true =>
      have hnv : n8 = (decVal z.data.toList : Int) := n8H.out rfl
      have ho : ∀ u ∈ (#[Value.int .i64 n8] : Array Value).toList, u.oneCell' = true := by intro u hu; simp only [List.mem_singleton] at hu; rw [hu]; rfl
      have hlS : Hid (j + 1 ≤ 1000000000) := by unfold Hid; omega
      have hnvH := Lib.hid hnv
      have x1 := X8.out.cell 1
      clear hnv n8H
      go_upto_region 18 with (refine wp_gpush_list 51 3 (.int .i64 0) 1 8 Tryz.underlying51 (by kernel_rfl) rfl (by decide) (by decide) rfl _ _ rfl w.heap.size (.slice Av j Cv) j (intsC (valsOf (ms.take j))) rfl R8.out 1 1 #[.int .i64 n8] rfl rfl ho hlS.out B8.out.size ?_; intro v9 w9 hP9; obtain ⟨A9, C9, rfl⟩ := own_slice hP9.row; have q9 := (X8.out.grown hP9.grown (Ne.symm (own_blk_ne R8.out X8.out (by decide)))).cell 1; have f9 := (X8.out.grown hP9.grown (Ne.symm (own_blk_ne R8.out X8.out (by decide)))).frozen 1)
      have X9 := Lib.hid ((X8.out.grown hP9.grown (Ne.symm (own_blk_ne R8.out X8.out (by decide)))).set_ 1 (.slice A9 (j + 1) C9))
      have RA9 := Lib.hid ((RA8.out.grown hP9.grown (Ne.symm (own_blk_ne R8.out RA8.out (by decide)))).other (a := ⟨xb, 1, none⟩) (Ne.symm hxr) (.slice A9 (j + 1) C9))
      have B9 := Lib.hid ((hP9.bel w.heap.size w (Nat.le_refl _) B8.out.size B8.out).setCell (p := ⟨xb, 1, none⟩) hxb.out (.slice A9 (j + 1) C9))
      have R9 := Lib.hid (ownsRow_setCell_ne' hP9.row (X8.out.grown hP9.grown (Ne.symm (own_blk_ne R8.out X8.out (by decide)))) (by decide) 1 (.slice A9 (j + 1) C9))
      go_wp2_with fail
      go_roundw
      case rel =>
        refine ⟨j + 1, .slice A9 (j + 1) C9, by go_num, hltH.out, ?_, X9.out, ?_, RA9.out, B9.out⟩
        · unfold Hid
          rw [take_more hzH.out]
          unfold bls at hall ⊢
          rw [List.map_append, List.all_append, hall.out]
          show (decOk z.data.toList && true) = true
          rw [hokH.out]
          rfl
        · unfold Hid
          have h := R9.out
          rw [take_more hzH.out]
          unfold valsOf at h ⊢
          rw [List.map_append, intsC_snoc']
          rw [hnvH.out] at h
          exact h
      case measure => have := hltH.out; simp [intOf]; omega
  case neg =>
    have d1 : decide (j < M) = false := decide_eq_false hlt
    have d2 : decide ((j : Int) < (M : Int)) = false := decide_eq_false (by omega)
    obtain rfl : j = M := by omega
    have htk : ms.take j = ms := List.take_of_length_le (by rw [hMH.out]; exact Nat.le_refl _)
    have hall' := hall.out
    rw [htk] at hall'
    have hrow' := hrow.out
    rw [htk] at hrow'
    obtain ⟨x, hx⟩ : ∃ x : Stp, x = ⟨(kn : Int), valsOf ms, tx⟩ := ⟨_, rfl⟩
    have hxl : x.args.length = j := by rw [hx]; show (valsOf ms).length = j; unfold valsOf; rw [List.length_map, hMH.out]
    have hxk : x.kind = (kn : Int) := by rw [hx]
    have hxt : x.text = tx := by rw [hx]
    have hxa : x.args = valsOf ms := by rw [hx]
    have hW : Hid (stepW (bls (z0 :: rs)) = if stepOk x = true then .ok x else .error 1) := by
      unfold Hid
      rw [hF.out, hRB.out, hx]
      unfold restOf
      rw [hall']
      have e2 : ((bls ms).map fun w => (decVal w : Int)) = valsOf ms := by unfold bls valsOf; rw [List.map_map]; rfl
      rw [if_pos rfl, e2]
    have hro := rowAt_own hrow'
    rw [← hxa] at hro hrow'
    have HS := isStep_any x (.slice Av j Cv) w7.heap.size w7 (by rw [hxl]; exact hro) (Nat.le_refl _) (by rw [hxl]; omega) (by rw [hxt]; have := htxH.out; omega) (HK.out.below B7.out) (HL.out.below B7.out)
    rw [hxk, hxt] at HS
    obtain ⟨ok, hok⟩ : ∃ b, stepOk x = b := ⟨_, rfl⟩
    rw [hok] at HS hW
    have HSH := Lib.hid HS
    have hxlH := Lib.hid hxl
    have hxkH := Lib.hid hxk
    have hxtH := Lib.hid hxt
    have HRW := Lib.hid hrow'
    have x0 := X7.out.cell 0
    have x1 := X7.out.cell 1
    have x2 := X7.out.cell 2
    have hjb : Hid (j ≤ 100000000) := by unfold Hid; omega
    clear hlt htk hall' hrow' hx hxl hxk hxt hxa hro HS hok hall hj
    go_wp2_with fail
    refine HSH.out.mono ?_
    rintro e w8 ⟨rfl, hB8⟩
    have X8 := Lib.hid (X7.out.below hB8 X7.out.lt)
    have RA8 := Lib.hid (RA7.out.below hB8 RA7.out.lt)
    have B8 := Lib.hid (B7.out.trans (hB8.mono B7.out.size))
    have R8 := Lib.hid (HRW.out.kept (grown_ofBelow hB8 none) (by cases (Value.slice Av j Cv).ownBlock with | none => exact .inl rfl | some c => exact .inr (fun e => by cases e)))
    clear hB8 X7 RA7 B7 HRW x0 x1 x2 HSH hrow
    have r0 := RA8.out.cell 0
    have r1 := RA8.out.cell 1
    have r2 := RA8.out.cell 2
    have f0 := RA8.out.frozen 0
    have f1 := RA8.out.frozen 1
    have f2 := RA8.out.frozen 2
    cases ok
    case false =>
      go_wp2_with fail
      refine bodyPost_ret (results_ct (P := Tryz.prog) rfl _ _ ra 53 #[.int .i64 0, .slice none 0 0, .string ⟨#[]⟩] _ rfl (((RA8.out.set_ 0 _).set_ 1 _).set_ 2 _) Tryz.underlying53 rfl (by kernel_rfl)) rfl ?_
      refine ⟨((B8.out.setCell (p := ⟨ra, 0, none⟩) hra.out _).setCell (p := ⟨ra, 1, none⟩) hra.out _).setCell (p := ⟨ra, 2, none⟩) hra.out _, ?_⟩
      have hWf : stepW (bls (z0 :: rs)) = .error 1 := hW.out.trans (by simp)
      rw [hWf]
      rfl
    case true =>
      have x0 := X8.out.cell 0
      have x1 := X8.out.cell 1
      have x2 := X8.out.cell 2
      go_wp2_with fail
      refine bodyPost_ret (results_ct (P := Tryz.prog) rfl _ _ ra 53 #[.int .i64 (kn : Int), .slice Av j Cv, .string tx] _ rfl (((RA8.out.set_ 0 _).set_ 1 _).set_ 2 _) Tryz.underlying53 rfl (by kernel_rfl)) rfl ?_
      refine ⟨((B8.out.setCell (p := ⟨ra, 0, none⟩) hra.out _).setCell (p := ⟨ra, 1, none⟩) hra.out _).setCell (p := ⟨ra, 2, none⟩) hra.out _, ?_⟩
      have hWt : stepW (bls (z0 :: rs)) = .ok x := hW.out.trans (by simp)
      rw [hWt]
      refine ⟨.slice Av j Cv, by rw [hxkH.out, hxtH.out]; rfl, ?_, by rw [hxlH.out]; exact hjb.out, by rw [hxtH.out]; exact htxH.out⟩
      rw [hxlH.out]
      have R9 := ownsRow_setCell_ne' R8.out RA8.out (by decide) 0 (.int .i64 (kn : Int))
      have R10 := ownsRow_setCell_ne' R9 (RA8.out.set_ 0 _) (by decide) 1 (.slice Av j Cv)
      exact ownsRow_setCell_ne' R10 ((RA8.out.set_ 0 _).set_ 1 _) (by decide) 2 (.string tx)
end Go.Proofs.YtldkfhimpkiigaaGreatDoor
