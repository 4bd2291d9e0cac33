/-
  Layer 46 (script): decoded, literal.
-/
import Derived.Test.YtldkfhimpkiigaaGreatDoorByteR
namespace Go.Proofs.YtldkfhimpkiigaaGreatDoor
open Go.RowKit ScrP
attribute [local go_sem] Oper.semAt_some

def hexT : ByteArray := ⟨#[48, 49, 50, 51, 52, 53, 54, 55, 56, 57, 97, 98, 99, 100, 101, 102]⟩
def unDI (c : UInt8) : Int := match unD c with | some n => (n : Int) | none => -1
theorem hex_tab (c : UInt8) : Lib.indexByte hexT.data.toList c = unDI c := by
  have h : ((List.range 256).all fun k => Lib.indexByte hexT.data.toList (UInt8.ofNat k) == unDI (UInt8.ofNat k)) = true := by kernel_rfl
  have h1 := List.all_eq_true.1 h c.toNat (List.mem_range.2 c.toNat_lt)
  rw [UInt8.ofNat_toNat] at h1
  exact beq_iff_eq.1 h1
theorem unD_lt {c : UInt8} {n : Nat} (h : unD c = some n) : n < 16 := by
  unfold unD at h
  split at h
  · injection h with h; omega
  · split at h
    · injection h with h; omega
    · cases h
theorem hexI_any (c : UInt8) (w : World) : Calls Tryz.prog 115 #[.string ⟨#[48, 49, 50, 51, 52, 53, 54, 55, 56, 57, 97, 98, 99, 100, 101, 102]⟩, .int .u8 (c.toNat : Int)] w fun e w' => e = .returned (.int .i64 (unDI c)) ∧ w = w' := by
  refine (Tryz.strings_IndexByte _ (c.toNat : Int) w).mono ?_
  rintro e w' ⟨rfl, rfl⟩
  refine ⟨?_, rfl⟩
  rw [← hex_tab c]
  show _ = Ending.returned (.int .i64 (Lib.indexByte _ c))
  rw [show ((c.toNat : Int)).toNat.toUInt8 = c by simp]
  rfl
theorem unhex_two (a b : UInt8) (r : List UInt8) : unhex (a :: b :: r) = match unD a, unD b, unhex r with
    | some x, some y, some l => some (UInt8.ofNat (16 * x + y) :: l)
    | _, _, _ => none := rfl
theorem or_tab {x y : Nat} (hx : x < 16) (hy : y < 16) : Value.int IntKind.u8 (bits BinOp.or IntKind.i64 ((x : Int) * 16) (y : Int) % 256) = byteV (UInt8.ofNat (16 * x + y)) := by
  have h : ((List.range 16).all fun a => (List.range 16).all fun b => decide (bits BinOp.or IntKind.i64 ((a : Int) * 16) (b : Int) % 256 = ((UInt8.ofNat (16 * a + b)).toNat : Int))) = true := by kernel_rfl
  have h1 := List.all_eq_true.1 (List.all_eq_true.1 h x (List.mem_range.2 hx)) y (List.mem_range.2 hy)
  unfold byteV
  rw [of_decide_eq_true h1]
def DecodedPost (s : ByteArray) (w : World) (e : Ending) (w' : World) : Prop :=
  Below w.heap.size w w' ∧ ∃ (t : ByteArray) (b : Bool), e = .returned (.tuple #[.string t, .bool b]) ∧ b = (unhex s.data.toList).isSome ∧ (b = true → unhex s.data.toList = some t.data.toList) ∧ t.size ≤ s.size
set_option maxRecDepth 100000000 in
set_option maxHeartbeats 4000000 in
theorem decoded_any (s : ByteArray) (w : World) (hs : s.size ≤ 100000000) : Calls Tryz.prog 96 #[.string s] w (DecodedPost s w) := by
  have hll : s.data.toList.length = s.size := Array.length_toList
  have hlH := Lib.hid hll
  have hsi := Lib.hid (fun (k : Nat) (c : UInt8) (h : s.data.toList[k]? = some c) wx => str_index h wx)
  obtain ⟨n, hn⟩ : ∃ n, s.size = n := ⟨_, rfl⟩
  have hnH := Lib.hid hn
  have q9 : ((s.size : Nat) : Int) = (n : Int) := by rw [hn]
  rw [hn] at hs
  clear hll hn
  go_enter Tryz.func96, Tryz.ntmps96
  go_wp2_with fail
  go_loopw [4, 5] (fun v4 v5 wr => ∃ (k : Nat) (out : List UInt8), v5 = .int .i64 (k : Int) ∧ k ≤ n ∧ out.length ≤ k ∧ k % 2 = 0 ∧ Hid (unhex s.data.toList = (unhex (s.data.toList.drop k)).map (out ++ ·)) ∧ Hid (BRow wr w.heap.size v4 out) ∧ Hid (Below w.heap.size w wr)) (fun _ v5 _ => n - (intOf v5).toNat)
  case atStart => exact ⟨0, [], rfl, Nat.zero_le _, Nat.le_refl _, rfl, by unfold Hid; rw [List.drop_zero]; cases unhex s.data.toList <;> rfl, brow_nil _ _, Below.refl _ _⟩
  case round =>
  obtain ⟨k, out, rfl, hk, ho, hk2, hU, hR, hL⟩ := hrel
  obtain ⟨w1, hw1⟩ : ∃ x, x = wr := ⟨_, rfl⟩
  subst hw1
  by_cases hlt : k + 1 < n
  case neg =>
    have d1 : decide ((k : Int) + 1 < (n : Int)) = false := decide_eq_false (by omega)
    have d2 : ¬ (k : Int) + 1 < (n : Int) := by omega
    have d3 : ¬ k + 1 < n := hlt
    have q0 : (0 : Int) ≤ (k : Int) := by omega
    have q1 : (k : Int) ≤ 100000000 := by omega
    have q2 : (n : Int) ≤ 100000000 := by omega
    have hc1 := conv_row hR.out
    have hos : (⟨out.toArray⟩ : ByteArray).data.toList = out := rfl
    have hoz : (⟨out.toArray⟩ : ByteArray).size = out.length := by show out.toArray.size = _; rw [List.size_toArray]
    obtain ⟨t, ht⟩ : ∃ t, (⟨out.toArray⟩ : ByteArray) = t := ⟨_, rfl⟩
    rw [ht] at hc1 hos hoz
    have htl := Lib.hid hos
    have htz : Hid (t.size ≤ s.size) := by unfold Hid; rw [hoz, hnH.out]; omega
    by_cases hkn : k = n
    · have e1 : (n : Int) % 2 = 0 := by omega
      have e2 : (n : Int).tmod 2 = 0 := by rw [Int.tmod_eq_emod_of_nonneg (by omega)]; omega
      have hF : Hid (unhex s.data.toList = some t.data.toList) := by
        unfold Hid
        rw [hU.out, List.drop_eq_nil_of_le (by rw [hlH.out, hnH.out]; omega), htl.out]
        show (some ([] : List UInt8)).map _ = _
        simp
      clear hkn ht hos hoz hk ho hk2 hlt d3
      go_wp2_with fail
      go_ret2
      exact ⟨hL.out, t, true, rfl, by rw [hF.out]; rfl, fun _ => hF.out, htz.out⟩
    · have hn1 : n = k + 1 := by omega
      have e1 : (n : Int) % 2 = 1 := by omega
      have e2 : (n : Int).tmod 2 = 1 := by rw [Int.tmod_eq_emod_of_nonneg (by omega)]; omega
      have hF : Hid (unhex s.data.toList = none) := by
        unfold Hid
        rw [hU.out]
        obtain ⟨c, hc⟩ : ∃ c, s.data.toList.drop k = [c] := List.length_eq_one_iff.1 (by rw [List.length_drop, hlH.out, hnH.out]; omega)
        rw [hc]
        rfl
      clear hkn ht hos hoz hk ho hk2 hlt d3 hn1
      go_wp2_with fail
      go_ret2
      exact ⟨hL.out, t, false, rfl, by rw [hF.out]; rfl, fun e => (by cases e), htz.out⟩
  case pos =>
    have d1 : decide ((k : Int) + 1 < (n : Int)) = true := decide_eq_true (by omega)
    have d2 : (k : Int) + 1 < (n : Int) := by omega
    obtain ⟨c1, hc1⟩ : ∃ c, s.data.toList[k]? = some c := ⟨_, List.getElem?_eq_getElem (by rw [hlH.out, hnH.out]; omega)⟩
    obtain ⟨c2, hc2⟩ : ∃ c, s.data.toList[k + 1]? = some c := ⟨_, List.getElem?_eq_getElem (by rw [hlH.out, hnH.out]; omega)⟩
    have i1 := hsi.out k c1 hc1
    have i2 : ∀ wx, (Instr.index 9 (.string s) (.int .i64 ((k : Int) + 1))).run Tryz.prog wx = .ok (.int .u8 (c2.toNat : Int)) wx := fun wx => by
      have h := hsi.out (k + 1) c2 hc2 wx
      rwa [show ((k + 1 : Nat) : Int) = (k : Int) + 1 from rfl] at h
    have q0 : (0 : Int) ≤ (k : Int) := by omega
    have q1 : (k : Int) ≤ 100000000 := by omega
    have q2 : (n : Int) ≤ 100000000 := by omega
    have hd : s.data.toList.drop k = c1 :: c2 :: s.data.toList.drop (k + 2) := by
      obtain ⟨h1, h2⟩ := List.getElem?_eq_some_iff.1 hc1
      obtain ⟨h3, h4⟩ := List.getElem?_eq_some_iff.1 hc2
      rw [List.drop_eq_getElem_cons h1, h2, List.drop_eq_getElem_cons h3, h4]
    rw [hd, unhex_two] at hU
    have H1 : ∀ q, Hid (Calls Tryz.prog 115 #[.string ⟨#[48, 49, 50, 51, 52, 53, 54, 55, 56, 57, 97, 98, 99, 100, 101, 102]⟩, .int .u8 (c1.toNat : Int)] (w1.drewN q) fun e w' => e = .returned (.int .i64 (unDI c1)) ∧ w1.drewN q = w') := fun q => hexI_any c1 _
    have H2 : ∀ q, Hid (Calls Tryz.prog 115 #[.string ⟨#[48, 49, 50, 51, 52, 53, 54, 55, 56, 57, 97, 98, 99, 100, 101, 102]⟩, .int .u8 (c2.toNat : Int)] (w1.drewN q) fun e w' => e = .returned (.int .i64 (unDI c2)) ∧ w1.drewN q = w') := fun q => hexI_any c2 _
    have hltH := Lib.hid hlt
    obtain ⟨z1, hz1⟩ : ∃ z, unDI c1 = z := ⟨_, rfl⟩
    obtain ⟨z2, hz2⟩ : ∃ z, unDI c2 = z := ⟨_, rfl⟩
    rw [hz1] at H1
    rw [hz2] at H2
    have hz1H := Lib.hid hz1
    have hz2H := Lib.hid hz2
    clear hc1 hc2 hd hlt hz1 hz2
    go_wp2_with fail
    go_quiet ((first | (go_at_call 115; with_reducible exact Calls.quiet_of_same (((H1 _).out).mono fun e w' h => ⟨h.1, h.2.symm⟩)) | (go_at_call 115; exact Calls.quiet_of_same (((H2 _).out).mono fun e w' h => ⟨h.1, h.2.symm⟩))))
    cases hu1 : unD c1
    case none =>
      have e1 : z1 = -1 := by rw [← hz1H.out]; unfold unDI; rw [hu1]
      subst e1
      have hF : Hid (unhex s.data.toList = none) := by unfold Hid; rw [hU.out, hu1]; rfl
      clear hu1
      go_wp2_with fail
      go_ret2
      exact ⟨hL.out.trans ⟨rfl, rfl, rfl, Nat.le_refl _, fun _ _ => rfl⟩, ⟨#[]⟩, false, rfl, by rw [hF.out]; rfl, fun e => (by cases e), Nat.zero_le _⟩
    case some x1 =>
    have e1 : z1 = (x1 : Int) := by rw [← hz1H.out]; unfold unDI; rw [hu1]
    have b1 := unD_lt hu1
    subst e1
    have d4 : decide ((x1 : Int) < 0) = false := decide_eq_false (by omega)
    have d4' : ¬ (x1 : Int) < 0 := by omega
    cases hu2 : unD c2
    case none =>
      have e2 : z2 = -1 := by rw [← hz2H.out]; unfold unDI; rw [hu2]
      subst e2
      have hF : Hid (unhex s.data.toList = none) := by unfold Hid; rw [hU.out, hu1, hu2]; rfl
      clear hu1 hu2 b1
      go_wp2_with fail
      go_ret2
      exact ⟨hL.out.trans ⟨rfl, rfl, rfl, Nat.le_refl _, fun _ _ => rfl⟩, ⟨#[]⟩, false, rfl, by rw [hF.out]; rfl, fun e => (by cases e), Nat.zero_le _⟩
    case some x2 =>
    have e2 : z2 = (x2 : Int) := by rw [← hz2H.out]; unfold unDI; rw [hu2]
    have b2 := unD_lt hu2
    subst e2
    have d5 : decide ((x2 : Int) < 0) = false := decide_eq_false (by omega)
    have d5' : ¬ (x2 : Int) < 0 := by omega
    rw [hu1, hu2] at hU
    clear hu1 hu2
    go_upto_region 8 with fail
    refine world_is (P := fun W => Code.wp _ _ _ _ W) (fun W2 hW2 => ?_)
    have hB2 : Below w1.heap.size w1 W2 := by rw [← hW2]; exact ⟨rfl, rfl, rfl, Nat.le_refl _, fun _ _ => rfl⟩
    have R2 := Lib.hid (hR.out.below hB2)
    have L2 := Lib.hid (hL.out.trans (hB2.mono hL.out.size))
    clear hW2 hB2 hR hL
    have hv := Lib.hid (or_tab b1 b2)
    obtain ⟨m, hm⟩ : ∃ m, UInt8.ofNat (16 * x1 + x2) = m := ⟨_, rfl⟩
    rw [hm] at hv
    have hUn : Hid (unhex s.data.toList = (unhex (s.data.toList.drop (k + 2))).map ((out ++ [m]) ++ ·)) := by
      unfold Hid
      rw [hU.out, ← hm]
      cases unhex (s.data.toList.drop (k + 2)) with
      | none => rfl
      | some l => simp
    have hlo : Hid (out.length < 99999999999) := by unfold Hid; omega
    have q5 : (0 : Int) ≤ (x1 : Int) := by omega
    have q6 : (x1 : Int) < 16 := by omega
    have q7 : (0 : Int) ≤ (x2 : Int) := by omega
    have q8 : (x2 : Int) < 16 := by omega
    clear hU hm b1 b2
    obtain ⟨A4, C4, hu4⟩ := R2.out.any
    subst hu4
    go_wp2_with (at_builtin; refine wp_push rfl _ _ rfl w.heap.size _ out rfl R2.out 1 m hv.out rfl hlo.out L2.out.size ?_; intro v3 w3 hP3)
    go_roundw
    case rel => exact ⟨k + 2, out ++ [m], by go_num, by have := hltH.out; omega, by rw [List.length_append]; simp; omega, by omega, hUn, hP3.row, hP3.bel _ _ (Nat.le_refl _) L2.out.size L2.out⟩
    case measure => have := hltH.out; simp [intOf]; omega
end Go.Proofs.YtldkfhimpkiigaaGreatDoor
