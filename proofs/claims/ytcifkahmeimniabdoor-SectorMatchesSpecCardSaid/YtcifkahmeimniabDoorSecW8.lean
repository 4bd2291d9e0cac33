/-
  The walks of layer 24 (sector): Join at every list; the specification's Count, put, get, Same.
-/
import Derived.Test.YtcifkahmeimniabDoorSecW7
namespace Go.Proofs.YtcifkahmeimniabDoor
open Go.RowKit Go.Shelf
attribute [local go_sem] Oper.semAt_some

theorem openL_facts {s : List UInt8} {p : PartL} (h : openL s = some p) : p.left ≤ 8000 ∧ p.number ≤ mostN ∧ 1 ≤ p.number := by
  unfold openL at h
  split at h
  · rename_i hc
    cases h
    exact ⟨by have := hc.2.2.2.1; dsimp only; omega, hc.2.2.1, hc.2.1⟩
  · cases h
theorem Join_any {w : World} {v : Value} {l : List ByteArray} (h : StrsAt w v l) :
    Calls Tryd.prog 18 #[v] w fun e w' => e = .returned (joinV (joinE l)) ∧ Below w.heap.size w w' := by
  obtain ⟨A, c, rfl, hc, hm, hat⟩ := h
  cases l with
  | nil => exact join_nil A c
  | cons s0 r =>
    obtain ⟨b, o, rfl, hb, hcell⟩ := hat (by simp)
    have hc0 : w.cell? ⟨b, o, none⟩ = some (.string s0) := hcell 0 s0 rfl
    have hlen : (s0 :: r).length ≤ maxLen := Nat.le_trans hc hm
    rcases openE_cases s0 with ⟨p, hsz, hop, hE⟩ | ⟨hno, ev, hev, hE⟩
    · obtain ⟨f1, f2, f3⟩ := openL_facts hop
      have hsz' : s0.data.toList.length = 64 := by rw [Array.length_toList]; exact hsz
      by_cases hp : p.part = 0
      · have hE' : openE s0 = (partVal p.number 0 p.left ⟨p.text.toArray⟩, 0) := by rw [hE, hp]; rfl
        by_cases hs : (s0 :: r).length < countN p.left
        · have hj : joinE (s0 :: r) = ⟨0, [], 0, 7⟩ := by
            unfold joinE joinL
            rw [List.map_cons]
            dsimp only
            rw [if_pos hsz', hop]
            dsimp only
            rw [if_pos hp, if_pos (by simpa using hs)]
          rw [hj]
          exact join_short b o _ c (by simp) s0 hc0 p.number p.left _ hE' f1 hs hlen
        · refine join_loop b o c (s0 :: r) s0 hc0 p.number p.left _ hE' f1 f2 (by omega) hc hm hb hcell _ ?_
          unfold joinE joinL
          rw [List.map_cons]
          dsimp only
          rw [if_pos hsz', hop]
          dsimp only
          rw [if_pos hp, if_neg (by simpa using hs)]
          rfl
      · have hj : joinE (s0 :: r) = ⟨0, [], 0, 11⟩ := by
          unfold joinE joinL
          rw [List.map_cons]
          dsimp only
          rw [if_pos hsz', hop]
          dsimp only
          rw [if_neg hp]
        rw [hj]
        exact join_first b o _ c (by simp) s0 hc0 p.number p.part p.left _ 0 hE (.inr (by omega)) hlen
    · have hj : joinE (s0 :: r) = ⟨0, [], 0, 11⟩ := by
        unfold joinE joinL
        rw [List.map_cons]
        dsimp only
        rcases hno with h | h
        · rw [if_neg (by rw [Array.length_toList]; exact h)]
        · rw [h]
          split <;> rfl
      rw [hj]
      exact join_first b o _ c (by simp) s0 hc0 0 0 0 _ ev hE (.inl hev) hlen

/-! ### The specification -/
theorem rcount_any (n : Int) (w : World) : Calls Tryd.prog 15 #[.int .i64 n] w fun e w' => e = .returned (.int .i64 (countZ n)) ∧ w = w' := by
  by_cases h0 : n < 0
  · go_enter Tryd.func15, Tryd.ntmps15
    go_wp2_with fail
    go_ret
    exact ⟨ret_int (by unfold countZ; rw [if_neg (by omega)]), rfl⟩
  · by_cases h1 : 8000 < n
    · go_enter Tryd.func15, Tryd.ntmps15
      go_wp2_with fail
      go_ret
      exact ⟨ret_int (by unfold countZ; rw [if_neg (by omega)]), rfl⟩
    · have h2 : 0 ≤ n := by omega
      have h3 : n ≤ 8000 := by omega
      go_enter Tryd.func15, Tryd.ntmps15
      go_wp2_with fail
      all_goals go_ret
      all_goals exact ⟨ret_int (by unfold countZ countN; rw [if_pos ⟨h2, h3⟩]; omega), rfl⟩
theorem rcount_nat (n : Nat) (h : n ≤ 8000) (w : World) : Calls Tryd.prog 15 #[.int .i64 n] w fun e w' => e = .returned (.int .i64 (countN n : Nat)) ∧ w = w' := by
  refine (rcount_any n w).mono ?_
  rintro e w' ⟨rfl, rfl⟩
  exact ⟨ret_int (by unfold countZ; rw [if_pos ⟨by omega, by omega⟩]; simp), rfl⟩
set_option maxHeartbeats 4000000 in
set_option maxRecDepth 100000 in
theorem rput_any (w : World) (num size : Nat) (hnum : num < 9223372036854775808) (h1 : 1 ≤ size) (hs : size ≤ 8) :
    Calls Tryd.prog 21 #[.int .i64 num, .int .i64 size] w fun e w' => e = .returned (.string ⟨(putL num size).toArray⟩) ∧ Below w.heap.size w w' := by
  obtain ⟨i0, hi, hz0, hz1, hz2⟩ := info_parts infoU8
  go_enter Tryd.func21, Tryd.ntmps21
  go_wp2_with fail
  go_loopw [0, 5, 6] (fun m b i wr => ∃ k : Nat, k ≤ size ∧ i = .int .i64 k ∧ m = .int .i64 ((num / 256 ^ k : Nat) : Int) ∧ wr.ownsRow w.heap.size 5 1 b k (bytesC (putL num k)) ∧ Below w.heap.size w wr) (fun _ _ i _ => size - (intOf i).toNat)
  case atStart => exact ⟨0, Nat.zero_le _, rfl, by simp, World.ownsRow_nil _ _ _ _, Below.refl _ _⟩
  case round =>
    obtain ⟨k, hk, rfl, rfl, hrow, hB⟩ := hrel
    have hBs := hB.size
    by_cases hkl : k < size
    · have hlt : num / 256 ^ k < 9223372036854775808 := Nat.lt_of_le_of_lt (Nat.div_le_self _ _) hnum
      have hnext : num / 256 ^ (k + 1) = num / 256 ^ k / 256 := by rw [Nat.div_div_eq_div_mul, Nat.pow_succ]
      have HX := Lib.hid hnext
      have HL := Lib.hid (putL_snoc k num)
      clear hnext
      generalize num / 256 ^ k = M at hlt HX HL ⊢
      have hb : ((M : Int) % 256) = ((UInt8.ofNat (M % 256)).toNat : Int) := by simp
      have HB := Lib.hid hb
      clear hb
      go_wp2_with (at_builtin; refine wpList_append_own _ rfl _ _ 42 rfl w.heap.size 5 i0 _ 1 1 Tryd.underlying42 hi hz0 hz1 hz2 rfl (by decide) _ k (bytesC (putL num k)) rfl (hrow.alloc _) ⟨wr.heap.size, 0, none⟩ 1 1 [.int .u8 ((M : Int) % 256)] rfl rfl ?c1 ?c2 ?c3 ?c4 ?c5 ?_)
      case c1 => exact cell_one_new _ _ _
      case c2 => simp [Value.oneCell']
      case c3 => unfold maxLen; omega
      case c4 => omega
      case c5 => simp; omega
      intro v' w3 hown3 hg3 _
      have hB3 : Below w.heap.size w w3 := (hB.alloc (by omega) _).grown hg3 (by simp; omega) (fun g e => (hrow.lt g e).1)
      have hown4 : Hid (w3.ownsRow w.heap.size 5 1 v' (k + 1) (bytesC (putL num (k + 1)))) := by
        unfold Hid
        rw [HL.out, bytesC_app]
        have e : bytesC [UInt8.ofNat (M % 256)] = [.int .u8 ((M : Int) % 256)] := by rw [HB.out]; rfl
        rw [e]
        exact hown3
      clear hg3 hown3 hrow
      go_wp2_with fail
      go_roundw
      case rel => exact ⟨k + 1, by omega, by go_num, by rw [HX.out]; rfl, hown4.out, hB3⟩
      case measure => simp [intOf]; omega
    · obtain rfl : k = size := by omega
      obtain ⟨g, c, rfl, hcv⟩ := conv_back _ hrow (by omega)
      go_wp2_with fail
      go_ret
      exact ⟨rfl, hB⟩

/-- The specification's number in some bytes. -/
def getZ (l : List UInt8) : Int := if getL l ≤ mostN then getL l else -1
theorem getL_split : ∀ (j : Nat) (l : List UInt8), j ≤ l.length → getL l = getL (l.take j) + 256 ^ j * getL (l.drop j)
  | 0, l, _ => by simp [getL]
  | j + 1, [], h => by simp at h
  | j + 1, b :: l, h => by
    have := getL_split j l (by simpa using h)
    rw [List.take_succ_cons, List.drop_succ_cons, getL, getL, this, Nat.mul_add, Nat.pow_succ, Nat.mul_comm (256 ^ j) 256, Nat.mul_assoc, Nat.add_assoc]
theorem drop_step {l : List UInt8} {j : Nat} {b : UInt8} (h : l[j]? = some b) : getL (l.drop j) = b.toNat + 256 * getL (l.drop (j + 1)) := by
  rw [List.drop_eq_getElem_cons (List.getElem?_eq_some_iff.1 h).1, getL, (List.getElem?_eq_some_iff.1 h).2]
set_option maxHeartbeats 4000000 in
set_option maxRecDepth 100000 in
theorem rget_any (w : World) (s : ByteArray) (hs : s.size ≤ 8) :
    Calls Tryd.prog 25 #[.string s] w fun e w' => e = .returned (.int .i64 (getZ s.data.toList)) ∧ w = w' := by
  have hlen : s.data.toList.length = s.size := Array.length_toList
  have hm : s.size ≤ maxLen := by unfold maxLen; omega
  unfold maxLen at hm
  go_enter Tryd.func25, Tryd.ntmps25
  go_wp2_with fail
  go_loop [3, 4] (fun n i => ∃ (j : Nat) (i0 : Int), j ≤ s.size ∧ i = .int .i64 i0 ∧ i0 = (j : Int) - 1 ∧ n = .int .i64 (getL (s.data.toList.drop j) : Nat) ∧ getL (s.data.toList.drop j) ≤ 4611686018427388159) (fun _ i => (intOf i + 1).toNat)
  case atStart => exact ⟨s.size, _, Nat.le_refl _, rfl, rfl, by rw [List.drop_eq_nil_of_le (by rw [hlen]; exact Nat.le_refl _)]; rfl, by rw [List.drop_eq_nil_of_le (by rw [hlen]; exact Nat.le_refl _)]; decide⟩
  case round =>
    obtain ⟨j, i0, hj, rfl, hi0, rfl, hbd⟩ := hrel
    by_cases h0 : 0 ≤ i0
    · obtain ⟨t, rfl⟩ := Int.eq_ofNat_of_zero_le h0
      have htj : j = t + 1 := by omega
      subst htj
      clear hi0 h0
      have ht : t < s.size := by omega
      have hstep := drop_step (l := s.data.toList) (j := t) (b := s[t]) (by rw [List.getElem?_eq_getElem (by rw [hlen]; exact ht)]; rfl)
      have hspl := getL_split (t + 1) s.data.toList (by rw [hlen]; exact hj)
      have hb := s[t].toNat_lt
      have HSt := Lib.hid hstep
      have HSp := Lib.hid hspl
      clear hstep hspl
      generalize getL (s.data.toList.drop (t + 1)) = n at hbd HSt HSp ⊢
      by_cases hn : 18014398509481984 < n
      · have hz : getZ s.data.toList = -1 := by
          unfold getZ
          rw [if_neg]
          have hp : 256 ≤ 256 ^ (t + 1) := by rw [Nat.pow_succ]; exact Nat.le_mul_of_pos_left _ (Nat.pow_pos (by decide))
          have := Nat.mul_le_mul hp (Nat.le_of_lt hn)
          have h2 := HSp.out
          have h3 : 256 * n ≤ 256 ^ (t + 1) * n := Nat.mul_le_mul_right _ hp
          unfold mostN
          omega
        have HZ := Lib.hid hz
        clear hz
        go_wp2_with fail
        go_ret
        exact ⟨by rw [HZ.out]; rfl, rfl⟩
      · go_wp2_with fail
        go_round
        case rel => exact ⟨t, (t : Int) - 1, by omega, rfl, rfl, by rw [HSt.out]; go_num, by rw [HSt.out]; omega⟩
        case measure => simp [intOf]
    · have hj0 : j = 0 := by omega
      subst hj0
      have HI := Lib.hid hi0
      clear hi0
      rw [List.drop_zero] at hbd ⊢
      have hz : getZ s.data.toList = if getL s.data.toList ≤ mostN then (getL s.data.toList : Int) else -1 := rfl
      have HZ := Lib.hid hz
      clear hz
      generalize getL s.data.toList = n at hbd HZ ⊢
      by_cases hn : 4611686018427387904 < n
      · go_wp2_with fail
        go_ret
        exact ⟨by rw [HZ.out, if_neg (by unfold mostN; omega)]; rfl, rfl⟩
      · go_wp2_with fail
        go_ret
        exact ⟨by rw [HZ.out, if_pos (by unfold mostN; omega)]; rfl, rfl⟩
end Go.Proofs.YtcifkahmeimniabDoor
