/-
  The walks of layer 24 (sector): Count, get, put.
-/
import Derived.Test.YtcifkahmeimniabDoorRows
import Derived.Test.YtcifkahmeimniabDoorSecPlain
import Derived.WalkKit
import Derived.WalkSpells
import Derived.WalkLawsBesides
import Derived.Lib.Hide
import Derived.Lib.ConvBytes
import Derived.Laws.BitsAllLaws
import Derived.Outline
namespace Go.Proofs.YtcifkahmeimniabDoor
open Go.RowKit
attribute [local go_sem] Oper.semAt_some

theorem ret_bool {a b : Bool} (h : a = b) : Ending.returned (.bool a) = .returned (.bool b) := by rw [h]
theorem ret_int {k : IntKind} {a b : Int} (h : a = b) : Ending.returned (.int k a) = .returned (.int k b) := by rw [h]
theorem beq_t {a b : Int} (h : a = b) : (a == b) = true := beq_iff_eq.2 h
theorem beq_f {a b : Int} (h : a ≠ b) : (a == b) = false := beq_eq_false_iff_ne.2 h
theorem bne_t {a b : Int} (h : a ≠ b) : (a != b) = true := bne_iff_ne.2 h
theorem bne_f {a b : Int} (h : a = b) : (a != b) = false := by rw [h]; simp

/-- How many parts, by a number of the machine. -/
def countZ (n : Int) : Int := if 0 ≤ n ∧ n ≤ 8000 then countN n.toNat else 0
theorem count_any (n : Int) (w : World) : Calls Tryd.prog 14 #[.int .i64 n] w fun e w' => e = .returned (.int .i64 (countZ n)) ∧ w = w' := by
  by_cases h0 : n < 0
  · go_enter Tryd.func14, Tryd.ntmps14
    go_wp2_with fail
    go_ret
    exact ⟨ret_int (by unfold countZ; rw [if_neg (by omega)]), rfl⟩
  · by_cases h1 : 8000 < n
    · go_enter Tryd.func14, Tryd.ntmps14
      go_wp2_with fail
      go_ret
      exact ⟨ret_int (by unfold countZ; rw [if_neg (by omega)]), rfl⟩
    · have h2 : 0 ≤ n := by omega
      have h3 : n ≤ 8000 := by omega
      go_enter Tryd.func14, Tryd.ntmps14
      go_wp2_with fail
      all_goals go_ret
      all_goals exact ⟨ret_int (by unfold countZ countN; rw [if_pos ⟨h2, h3⟩]; omega), rfl⟩

/-- Bytes as cells. -/
def bytesC (l : List UInt8) : List Value := l.map fun b => Value.int .u8 b.toNat
theorem bytesC_len (l : List UInt8) : (bytesC l).length = l.length := by simp [bytesC]
theorem bytesC_app (a b : List UInt8) : bytesC (a ++ b) = bytesC a ++ bytesC b := by simp [bytesC]
theorem infoU8 : (Tryd.prog.info? 5).map (fun i => (i.zero, i.size, i.bytes)) = some (some (.int .u8 0), 1, 1) := by kernel_rfl
theorem info_parts {P : Program} {e : TypeId} {z : Value} {s b : Nat} (h : (P.info? e).map (fun i => (i.zero, i.size, i.bytes)) = some (some z, s, b)) : ∃ i, P.info? e = some i ∧ i.zero = some z ∧ i.size = s ∧ i.bytes = b := by
  cases hi : P.info? e with
  | none => rw [hi] at h; simp at h
  | some i => rw [hi] at h; simp at h; exact ⟨i, rfl, h.1, h.2.1, h.2.2⟩

theorem putL_snoc : ∀ (k n : Nat), putL n (k + 1) = putL n k ++ [UInt8.ofNat (n / 256 ^ k % 256)]
  | 0, n => by simp [putL]
  | k + 1, n => by
    have := putL_snoc k (n / 256)
    rw [putL, this, putL, Nat.div_div_eq_div_mul, ← Nat.pow_succ']
    rfl
theorem byte_at (num k : Nat) : ((num : Int) / 2 ^ (8 * k) % 256) = ((UInt8.ofNat (num / 256 ^ k % 256)).toNat : Int) := by
  have h : (2 : Nat) ^ (8 * k) = 256 ^ k := by rw [Nat.pow_mul]
  rw [← h]
  simp
set_option maxHeartbeats 4000000 in
set_option maxRecDepth 100000 in
theorem put64_any (w : World) (base : Nat) (v : Value) (n : Nat) (xs : List Value) (hown : w.ownsRow base 5 1 v n xs) (num size : Nat) (hnum : num < 18446744073709551616) (hs : size ≤ 8) (hn : n ≤ 1000) (hb : base ≤ w.heap.size) :
    Calls Tryd.prog 29 #[v, .int .u64 num, .int .i64 size] w fun e w' => ∃ v', e = .returned v' ∧ w'.ownsRow base 5 1 v' (n + size) (xs ++ bytesC (putL num size)) ∧ Below base w w' := by
  obtain ⟨i0, hi, hz0, hz1, hz2⟩ := info_parts infoU8
  have hle : Hid (n + 8 ≤ maxLen) := by unfold Hid maxLen; omega
  go_enter Tryd.func29, Tryd.ntmps29
  go_wp2_with fail
  go_loopw [0, 9] (fun b i wr => ∃ k : Nat, k ≤ size ∧ i = .int .i64 k ∧ wr.ownsRow base 5 1 b (n + k) (xs ++ bytesC (putL num k)) ∧ Below base w wr) (fun _ i _ => size - (intOf i).toNat)
  case atStart => exact ⟨0, Nat.zero_le _, rfl, by simpa [putL, bytesC] using hown, Below.refl _ _⟩
  case round =>
    obtain ⟨k, hk, rfl, hrow, hB⟩ := hrel
    have hBs := hB.size
    clear hown
    by_cases hkl : k < size
    · have hbyte := Lib.hid (byte_at num k)
      go_wp2_with (at_builtin; refine wpList_append_own _ rfl _ _ 42 rfl base 5 i0 _ 1 1 Tryd.underlying42 hi hz0 hz1 hz2 rfl (by decide) _ (n + k) (xs ++ bytesC (putL num k)) rfl (hrow.alloc _) ⟨wr.heap.size, 0, none⟩ 1 1 [.int .u8 (↑num / 2 ^ (8 * k) % 256)] rfl rfl ?c1 ?c2 ?c3 ?c4 ?c5 ?_)
      case c1 => exact cell_one_new _ _ _
      case c2 => simp [Value.oneCell']
      case c3 => have := hle.out; omega
      case c4 => omega
      case c5 => simp; omega
      intro v' w3 hown3 hg3 _
      have hB3 : Below base w w3 := (hB.alloc (by omega) _).grown hg3 (by simp; omega) (fun g e => (hrow.lt g e).1)
      have hown4 : Hid (w3.ownsRow base 5 1 v' (n + (k + 1)) (xs ++ bytesC (putL num (k + 1)))) := by
        unfold Hid
        rw [putL_snoc, bytesC_app, ← List.append_assoc]
        have e : bytesC [UInt8.ofNat (num / 256 ^ k % 256)] = [.int .u8 (↑num / 2 ^ (8 * k) % 256)] := by rw [hbyte.out]; rfl
        rw [e]
        rw [List.append_assoc]
        exact hown3
      clear hg3 hown3 hrow
      go_wp2_with fail
      go_roundw
      case rel => exact ⟨k + 1, by omega, by go_num, hown4.out, hB3⟩
      case measure => simp [intOf]; omega
    · obtain rfl : k = size := by omega
      go_wp2_with fail
      go_ret
      exact ⟨_, rfl, hrow, hB⟩
set_option maxHeartbeats 4000000 in
set_option maxRecDepth 100000 in
theorem put16_any (w : World) (base : Nat) (v : Value) (n : Nat) (xs : List Value) (hown : w.ownsRow base 5 1 v n xs) (num size : Nat) (hnum : num < 65536) (hs : size ≤ 2) (hn : n ≤ 1000) (hb : base ≤ w.heap.size) :
    Calls Tryd.prog 30 #[v, .int .u16 num, .int .i64 size] w fun e w' => ∃ v', e = .returned v' ∧ w'.ownsRow base 5 1 v' (n + size) (xs ++ bytesC (putL num size)) ∧ Below base w w' := by
  obtain ⟨i0, hi, hz0, hz1, hz2⟩ := info_parts infoU8
  have hle : Hid (n + 8 ≤ maxLen) := by unfold Hid maxLen; omega
  go_enter Tryd.func30, Tryd.ntmps30
  go_wp2_with fail
  go_loopw [0, 9] (fun b i wr => ∃ k : Nat, k ≤ size ∧ i = .int .i64 k ∧ wr.ownsRow base 5 1 b (n + k) (xs ++ bytesC (putL num k)) ∧ Below base w wr) (fun _ i _ => size - (intOf i).toNat)
  case atStart => exact ⟨0, Nat.zero_le _, rfl, by simpa [putL, bytesC] using hown, Below.refl _ _⟩
  case round =>
    obtain ⟨k, hk, rfl, hrow, hB⟩ := hrel
    have hBs := hB.size
    clear hown
    by_cases hkl : k < size
    · have hbyte := Lib.hid (byte_at num k)
      go_wp2_with (at_builtin; refine wpList_append_own _ rfl _ _ 42 rfl base 5 i0 _ 1 1 Tryd.underlying42 hi hz0 hz1 hz2 rfl (by decide) _ (n + k) (xs ++ bytesC (putL num k)) rfl (hrow.alloc _) ⟨wr.heap.size, 0, none⟩ 1 1 [.int .u8 (↑num / 2 ^ (8 * k) % 256)] rfl rfl ?c1 ?c2 ?c3 ?c4 ?c5 ?_)
      case c1 => exact cell_one_new _ _ _
      case c2 => simp [Value.oneCell']
      case c3 => have := hle.out; omega
      case c4 => omega
      case c5 => simp; omega
      intro v' w3 hown3 hg3 _
      have hB3 : Below base w w3 := (hB.alloc (by omega) _).grown hg3 (by simp; omega) (fun g e => (hrow.lt g e).1)
      have hown4 : Hid (w3.ownsRow base 5 1 v' (n + (k + 1)) (xs ++ bytesC (putL num (k + 1)))) := by
        unfold Hid
        rw [putL_snoc, bytesC_app, ← List.append_assoc]
        have e : bytesC [UInt8.ofNat (num / 256 ^ k % 256)] = [.int .u8 (↑num / 2 ^ (8 * k) % 256)] := by rw [hbyte.out]; rfl
        rw [e]
        rw [List.append_assoc]
        exact hown3
      clear hg3 hown3 hrow
      go_wp2_with fail
      go_roundw
      case rel => exact ⟨k + 1, by omega, by go_num, hown4.out, hB3⟩
      case measure => simp [intOf]; omega
    · obtain rfl : k = size := by omega
      go_wp2_with fail
      go_ret
      exact ⟨_, rfl, hrow, hB⟩
theorem getL_snoc : ∀ (l : List UInt8) (b : UInt8), getL (l ++ [b]) = getL l + 256 ^ l.length * b.toNat
  | [], b => by simp [getL]
  | a :: l, b => by
    rw [List.cons_append, getL, getL, getL_snoc l b, List.length_cons, Nat.pow_succ, Nat.mul_add]
    rw [Nat.mul_comm (256 ^ l.length) 256, ← Nat.mul_assoc, Nat.add_assoc]
theorem or_shl (g b k : Nat) (hg : g < 2 ^ (8 * k)) : (g ||| b * 2 ^ (8 * k)) = g + 2 ^ (8 * k) * b := by
  rw [Nat.or_comm, Nat.mul_comm b, Nat.add_comm]
  exact (Nat.two_pow_add_eq_or_of_lt hg b).symm
theorem u64_small (n : Nat) (h : n < 18446744073709551616) : IntKind.u64.wrap (n : Int) = n := by
  simp [IntKind.wrap, IntKind.bits, IntKind.signed]
  omega
theorem or_step (G b k : Nat) (hG : G < 256 ^ k) (hb : b < 256) (hk : k < 8) : bits .or .u64 (G : Int) (IntKind.u64.wrap (IntKind.u64.wrap (b : Int) * 2 ^ (8 * k))) = ((G + 256 ^ k * b : Nat) : Int) := by
  have h2 : (256 : Nat) ^ k = 2 ^ (8 * k) := by rw [Nat.pow_mul]
  rw [h2] at hG ⊢
  have hX : (2 : Nat) ^ (8 * k) ≤ 2 ^ 56 := Nat.pow_le_pow_right (by decide) (by omega)
  have hm : b * 2 ^ (8 * k) ≤ 255 * 2 ^ (8 * k) := Nat.mul_le_mul_right _ (by omega)
  rw [u64_small b (by omega), show (b : Int) * 2 ^ (8 * k) = ((b * 2 ^ (8 * k) : Nat) : Int) by simp, u64_small _ (by omega), u64_or_nat _ _ (by omega) (by omega), or_shl _ _ _ hG]
set_option maxHeartbeats 4000000 in
set_option maxRecDepth 100000 in
theorem get_any (w : World) (s : ByteArray) (hs : s.size ≤ 8) :
    Calls Tryd.prog 22 #[.string s] w fun e w' => e = .returned (.int .u64 (getL s.data.toList : Nat)) ∧ w = w' := by
  have hm : s.size ≤ maxLen := by unfold maxLen; omega
  unfold maxLen at hm
  go_enter Tryd.func22, Tryd.ntmps22
  go_wp2_with fail
  go_loop [2, 6] (fun g i => ∃ k : Nat, k ≤ s.size ∧ i = .int .i64 k ∧ g = .int .u64 (getL (s.data.toList.take k) : Nat)) (fun _ i => s.size - (intOf i).toNat)
  case atStart => exact ⟨0, Nat.zero_le _, rfl, rfl⟩
  case round =>
    obtain ⟨k, hk, rfl, rfl⟩ := hrel
    by_cases hkl : k < s.size
    · have hlt := get_lt (s.data.toList.take k)
      have hl : (s.data.toList.take k).length = k := by rw [List.length_take, Array.length_toList]; have : s.data.size = s.size := rfl; omega
      rw [hl] at hlt
      have hts : s.data.toList.take (k + 1) = s.data.toList.take k ++ [s[k]] := by
        rw [List.take_succ_eq_append_getElem (by rw [Array.length_toList]; exact hkl)]; rfl
      have HS : Hid (getL (s.data.toList.take (k + 1)) = getL (s.data.toList.take k) + 256 ^ k * s[k].toNat) := by
        unfold Hid; rw [hts, getL_snoc, hl]
      clear hts hl
      generalize getL (s.data.toList.take k) = G at hlt HS ⊢
      have ho := Lib.hid (or_step G s[k].toNat k hlt (UInt8.toNat_lt _) (by omega))
      clear hlt
      go_wp2_with fail
      go_round
      case rel => exact ⟨k + 1, by omega, by go_num, by rw [ho.out, HS.out]⟩
      case measure => simp [intOf]; omega
    · obtain rfl : k = s.size := by omega
      go_wp2_with fail
      go_ret
      refine ⟨?_, rfl⟩
      show Ending.returned (.int .u64 (getL (s.data.toList.take s.size) : Nat)) = _
      rw [List.take_of_length_le (by rw [Array.length_toList]; exact Nat.le_refl _)]
end Go.Proofs.YtcifkahmeimniabDoor
