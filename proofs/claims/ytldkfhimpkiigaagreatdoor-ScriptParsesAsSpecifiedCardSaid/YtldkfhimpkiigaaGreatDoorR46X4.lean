/-
  Layer 46 (script), the specification: literal.
-/
import Derived.Test.YtldkfhimpkiigaaGreatDoorR46X3
namespace Go.Proofs.YtldkfhimpkiigaaGreatDoor
open Go.RowKit ScrP
attribute [local go_sem] Oper.semAt_some

theorem unhex_odd : ∀ (m : Nat) (l : List UInt8), l.length = 2 * m + 1 → unhex l = none
  | 0, [a], _ => rfl
  | 0, [], h => by cases h
  | 0, _ :: _ :: _, h => by simp only [List.length_cons] at h; omega
  | m + 1, [], h => by cases h
  | m + 1, [_], h => by simp only [List.length_cons, List.length_nil] at h; omega
  | m + 1, a :: b :: l, h => by
    have := unhex_odd m l (by simp only [List.length_cons] at h; omega)
    unfold unhex
    rw [this]
    cases unD a <;> cases unD b <;> rfl
theorem unhex_hit {a b : UInt8} {x y : Nat} {l : List UInt8} (ha : unD a = some x) (hb : unD b = some y) : unhex (a :: b :: l) = (unhex l).map (UInt8.ofNat (16 * x + y) :: ·) := by
  rw [unhex, ha, hb]
  cases unhex l <;> rfl
theorem unhex_miss {a b : UInt8} {l : List UInt8} (h : unD a = none ∨ unD b = none) : unhex (a :: b :: l) = none := by
  rw [unhex]
  rcases h with h | h <;> rw [h]
  cases unD a <;> rfl
theorem digI_cases (c : UInt8) : (digI c = -1 ∧ unD c = none) ∨ ∃ v : Nat, digI c = (v : Int) ∧ unD c = some v ∧ v < 16 := by
  unfold digI
  cases h : unD c with
  | none => exact .inl ⟨rfl, rfl⟩
  | some v => exact .inr ⟨v, rfl, rfl, (unD_some h).1⟩
theorem lit_of {c : UInt8} {r : List UInt8} (h : ¬ c = 64) : literalB (c :: r) = (unhex r).map (61 :: ·) := by
  unfold literalB
  rw [if_neg (by intro e; exact h (Option.some.inj e))]
  rfl
def LitPost (l : List UInt8) (w : World) (e : Ending) (w' : World) : Prop := Below w.heap.size w w' ∧ match literalB l with
  | some t => e = .returned (.tuple #[.string ⟨t.toArray⟩, .bool true])
  | none => e = .returned (.tuple #[.string ⟨#[]⟩, .bool false])
theorem lit_none {l : List UInt8} {w w' : World} (h : literalB l = none) (hb : Below w.heap.size w w') : LitPost l w (.returned (.tuple #[.string ⟨#[]⟩, .bool false])) w' := by
  unfold LitPost
  rw [h]
  exact ⟨hb, rfl⟩
theorem lit_some {l t : List UInt8} {w w' : World} {u : ByteArray} (h : literalB l = some t) (hu : u = ⟨t.toArray⟩) (hb : Below w.heap.size w w') : LitPost l w (.returned (.tuple #[.string u, .bool true])) w' := by
  unfold LitPost
  rw [h, hu]
  exact ⟨hb, rfl⟩
set_option maxRecDepth 100000 in
set_option maxHeartbeats 12800000 in
theorem rliteral_any (s : ByteArray) (c : UInt8) (r : List UInt8) (hl : s.data.toList = c :: r) (w : World) (hs : s.size ≤ 100000000) : Calls Tryz.prog 80 #[.string s] w (LitPost (c :: r) w) := by
  have hrl : s.size = r.length + 1 := by rw [show s.size = s.data.toList.length from Array.length_toList.symm, hl]; rfl
  have i0 : ∀ wx, (Instr.index 9 (.string s) (.int .i64 0)).run Tryz.prog wx = .ok (.int .u8 (c.toNat : Int)) wx := str_index (k := 0) (by rw [hl]; rfl)
  by_cases h64 : c = 64
  · have e1 : ((c.toNat : Int) == 64) = true := by rw [h64]; rfl
    have hR : Hid (literalB (c :: r) = some (c :: r)) := by unfold Hid literalB; rw [h64]; rfl
    have hsd : Hid (s = ⟨(c :: r).toArray⟩) := ByteArray.ext (Array.ext' hl)
    clear h64 hl hrl
    go_enter Tryz.func80, Tryz.ntmps80
    go_wp2_with fail
    go_ret2
    exact lit_some hR.out hsd.out (Below.refl _ _)
  · have e1 : ((c.toNat : Int) == 64) = false := by
      rw [beq_eq_false_iff_ne]
      intro e
      exact h64 (UInt8.toNat_inj.1 (by rw [show (64 : UInt8).toNat = 64 from rfl]; omega))
    have hlit := Lib.hid (lit_of (r := r) h64)
    obtain ⟨n, hn⟩ : ∃ n, s.size = n := ⟨_, rfl⟩
    have hnH := Lib.hid hn
    have hri : Hid (∀ j d, r[j]? = some d → s.data.toList[j + 1]? = some d) := fun j d h => by rw [hl, List.getElem?_cons_succ]; exact h
    have hrlH : Hid (n = r.length + 1) := by unfold Hid; rw [← hn]; exact hrl
    clear h64 hl hrl
    by_cases hev : n % 2 = 0
    · have e2 : (n : Int).tmod 2 = 0 := by rw [Int.tmod_eq_emod_of_nonneg (by omega)]; omega
      have hR : Hid (literalB (c :: r) = none) := by
        unfold Hid
        rw [hlit.out, unhex_odd ((n - 2) / 2) r (by have := hrlH.out; omega)]
        rfl
      clear hev
      go_enter Tryz.func80, Tryz.ntmps80
      go_wp2_with fail
      go_ret2
      exact lit_none hR.out (Below.refl _ _)
    · have e2 : (n : Int).tmod 2 = 1 := by rw [Int.tmod_eq_emod_of_nonneg (by omega)]; omega
      obtain ⟨m, hm⟩ : ∃ m, r.length = 2 * m := ⟨r.length / 2, by have := hrlH.out; omega⟩
      have hmH := Lib.hid hm
      have hn8 : Hid (n ≤ 100000000) := by unfold Hid; omega
      obtain ⟨B0, hB0⟩ : ∃ g, w.heap.size = g := ⟨_, rfl⟩
      have hBw : Hid (w.heap.size = B0) := hB0
      clear hev hm hs hB0
      go_enter Tryz.func80, Tryz.ntmps80
      go_upto_region 6 with fail
      refine world_is (P := fun W => Code.wp _ _ _ _ W) (fun W1 hW1 => ?_)
      have R1 : Hid (BRow W1 B0 (.slice (some ⟨w.heap.size, 0, none⟩) 1 1) [61]) := by unfold Hid; rw [← hW1]; exact brow_lit w [61] (Nat.le_of_eq hBw.out.symm) (by simp [maxLen])
      have F1 : Hid (Below B0 w W1) := by unfold Hid; rw [← hW1]; exact (Below.refl _ _).alloc (Nat.le_of_eq hBw.out.symm) _
      clear hW1
      go_wp2_with fail
      go_loopw [4, 5] (fun v4 v5 wr => ∃ (j : Nat) (acc : List UInt8), v5 = .int .i64 ((2 * j + 1 : Nat) : Int) ∧ Hid (j ≤ m) ∧ Hid (unhex r = (unhex (r.drop (2 * j))).map (acc ++ ·)) ∧ Hid (acc.length = j) ∧ Hid (BRow wr B0 v4 (61 :: acc)) ∧ Hid (Below B0 w wr)) (fun _ v5 _ => n + 1 - (intOf v5).toNat)
      case atStart => exact ⟨0, [], rfl, Nat.zero_le _, by unfold Hid; rw [Nat.mul_zero, List.drop_zero]; cases unhex r <;> rfl, rfl, R1.out, F1.out⟩
      case round =>
      clear R1 F1
      obtain ⟨j, acc, ev5, hj, hE, hal, hR, hF⟩ := hrel
      obtain ⟨k, hk⟩ : ∃ k, 2 * j + 1 = k := ⟨_, rfl⟩
      rw [hk] at ev5
      subst ev5
      have hkH := Lib.hid hk
      obtain ⟨w3, hw3⟩ : ∃ x, x = wr := ⟨_, rfl⟩
      subst hw3
      have hbb : Hid (B0 ≤ w3.heap.size) := Nat.le_trans (Nat.le_of_eq hBw.out.symm) hF.out.size
      by_cases hlt : j < m
      · have hkn : k + 1 < n := by have := hrlH.out; have := hmH.out; omega
        have d1 : decide (k < n) = true := decide_eq_true (by omega)
        have d2 : decide ((k : Int) < (n : Int)) = true := decide_eq_true (by omega)
        have hlr : 2 * j + 1 < r.length := by have := hmH.out; omega
        obtain ⟨a, ha⟩ : ∃ a, r[2 * j]? = some a := ⟨_, List.getElem?_eq_getElem (by omega)⟩
        obtain ⟨b, hb⟩ : ∃ b, r[2 * j + 1]? = some b := ⟨_, List.getElem?_eq_getElem hlr⟩
        obtain ⟨k2, hk2⟩ : ∃ k2, k + 1 = k2 := ⟨_, rfl⟩
        have ia := str_index (s := s) (k := k) (c := a) (by rw [← hk]; exact hri.out _ _ ha)
        have ib := str_index (s := s) (k := k2) (c := b) (by rw [← hk2, ← hk]; exact hri.out _ _ hb)
        have ek2 : (k : Int) + 1 = (k2 : Int) := by omega
        have hdr : Hid (r.drop (2 * j) = a :: b :: r.drop (2 * (j + 1))) := by
          unfold Hid
          obtain ⟨h1, h2⟩ := List.getElem?_eq_some_iff.1 ha
          obtain ⟨h3, h4⟩ := List.getElem?_eq_some_iff.1 hb
          rw [List.drop_eq_getElem_cons h1, h2, List.drop_eq_getElem_cons h3, h4]
          rfl
        have HDa := Lib.hid (fun W => rdigit_any a W)
        have HDb := Lib.hid (fun W => rdigit_any b W)
        have hca := Lib.hid (digI_cases a)
        have hcb := Lib.hid (digI_cases b)
        obtain ⟨da, hda⟩ : ∃ d, digI a = d := ⟨_, rfl⟩
        obtain ⟨db, hdb⟩ : ∃ d, digI b = d := ⟨_, rfl⟩
        rw [hda] at HDa hca
        rw [hdb] at HDb hcb
        have hn8' : n ≤ 100000000 := hn8.out
        have hltH := Lib.hid hlt
        have hnn : s.size = n := hn
        clear hk hk2 ha hb hlr hda hdb hlt
        go_wp2_with fail
        refine (HDa.out w3).mono ?_
        rintro e w4 ⟨rfl, rfl⟩
        go_wp2_with fail
        refine (HDb.out w4).mono ?_
        rintro e w5 ⟨rfl, rfl⟩
        clear ia ib HDa HDb
        rcases hca.out with ⟨rfl, hua⟩ | ⟨va, rfl, hua, hva⟩
        · have hRes : Hid (literalB (c :: r) = none) := by unfold Hid; rw [hlit.out, hE.out, hdr.out, unhex_miss (.inl hua)]; rfl
          have hBf : Hid (Below w.heap.size w w5) := by unfold Hid; rw [hBw.out]; exact hF.out
          clear hua
          go_wp2_with fail
          go_ret2
          exact lit_none hRes.out hBf.out
        · rcases hcb.out with ⟨rfl, hub⟩ | ⟨vb, rfl, hub, hvb⟩
          · have hRes : Hid (literalB (c :: r) = none) := by unfold Hid; rw [hlit.out, hE.out, hdr.out, unhex_miss (.inr hub)]; rfl
            have hBf : Hid (Below w.heap.size w w5) := by unfold Hid; rw [hBw.out]; exact hF.out
            clear hua hub
            go_wp2_with fail
            go_ret2
            exact lit_none hRes.out hBf.out
          · obtain ⟨z, hz⟩ : ∃ z, 16 * va + vb = z := ⟨_, rfl⟩
            have hz1 : (16 : Int) * (va : Int) + (vb : Int) = (z : Int) := by omega
            have hz2 : z < 256 := by omega
            obtain ⟨zb, hzb⟩ : ∃ b, UInt8.ofNat z = b := ⟨_, rfl⟩
            have hval : Hid (Value.int .u8 (z : Int) = byteV zb) := by unfold Hid byteV; rw [← hzb, UInt8.toNat_ofNat', Nat.mod_eq_of_lt hz2]
            have hnew : Hid (unhex r = (unhex (r.drop (2 * (j + 1)))).map ((acc ++ [zb]) ++ ·)) := by
              unfold Hid
              rw [hE.out, hdr.out, unhex_hit hua hub, hz, hzb, Option.map_map]
              congr 1
              funext l
              simp
            have hln : Hid ((61 :: acc).length < 99999999999) := by unfold Hid; rw [List.length_cons, hal.out]; have := hj.out; have := hmH.out; have := hrlH.out; omega
            clear hua hub hz hzb
            go_upto_region 8 with (at_builtin; refine wp_push rfl _ _ rfl B0 _ (61 :: acc) rfl hR.out 1 zb hval.out rfl hln.out hbb.out ?_; intro v9 w9 hP9)
            have R9 : Hid (BRow w9 B0 v9 (61 :: (acc ++ [zb]))) := hP9.row
            have F9 := Lib.hid (hP9.bel B0 w (Nat.le_refl _) hbb.out hF.out)
            have hk3 : (k : Int) + 2 = ((2 * (j + 1) + 1 : Nat) : Int) := by have := hkH.out; omega
            have hk3H := Lib.hid hk3
            clear hP9 hR hF hk3
            go_wp2_with fail
            go_roundw
            case rel => exact ⟨j + 1, acc ++ [zb], by have := hk3H.out; have := hn8.out; go_num, hltH.out, hnew.out, by unfold Hid; rw [List.length_append, hal.out]; rfl, R9.out, F9.out⟩
            case measure => have := hkH.out; have := hn8.out; simp [intOf]; omega
      · have d1 : decide (k < n) = false := decide_eq_false (by have := hrlH.out; have := hmH.out; omega)
        have d2 : decide ((k : Int) < (n : Int)) = false := decide_eq_false (by have := hrlH.out; have := hmH.out; omega)
        have hfin : Hid (literalB (c :: r) = some (61 :: acc)) := by
          unfold Hid
          rw [hlit.out, hE.out, List.drop_of_length_le (by have := hmH.out; omega)]
          show ((some (acc ++ [])).map (61 :: ·)) = _
          rw [List.append_nil]
          rfl
        have hcv := conv_row hR.out
        obtain ⟨u, hu⟩ : ∃ u : ByteArray, u = ⟨(61 :: acc).toArray⟩ := ⟨_, rfl⟩
        have huH := Lib.hid hu
        rw [← hu] at hcv
        have hBf : Hid (Below w.heap.size w w3) := by unfold Hid; rw [hBw.out]; exact hF.out
        have hnn : s.size = n := hn
        clear hk hlt hu
        go_wp2_with fail
        go_ret2
        exact lit_some hfin.out huH.out hBf.out
end Go.Proofs.YtldkfhimpkiigaaGreatDoor
