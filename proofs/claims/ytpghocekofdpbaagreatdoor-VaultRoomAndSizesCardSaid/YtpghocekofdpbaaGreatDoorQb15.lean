import Derived.Test.YtpghocekofdpbaaGreatDoorRows
import Derived.Test.YtpghocekofdpbaaGreatDoorQb13
import Derived.WalkKit
import Derived.WalkSpells
import Derived.WalkLawsBesides
import Derived.Lib.Hide
import Derived.Lib.ConvBytes
import Derived.Laws.BitsAllLaws
import Derived.Outline
import Derived.Test.YtpghocekofdpbaaGreatDoorQb01
import Derived.Test.YtpghocekofdpbaaGreatDoorQb02
import Derived.Shelf.Abstract
import Derived.Shelf.RegionOpen
import Derived.OwnWalkIn
import Derived.TacticsInMore
import Derived.LoopNIn
import Derived.LoopIn
import Derived.Deep.RegionHeld3
namespace Go.Proofs.YtpghocekofdpbaaGreatDoor.Sec
open Go.RowKit
attribute [local go_sem] Oper.semAt_some
theorem ret_int {k : IntKind} {a b : Int} (h : a = b) : Ending.returned (.int k a) = .returned (.int k b) := by rw [h]
theorem beq_t {a b : Int} (h : a = b) : (a == b) = true := beq_iff_eq.2 h
theorem beq_f {a b : Int} (h : a ≠ b) : (a == b) = false := beq_eq_false_iff_ne.2 h
theorem bne_t {a b : Int} (h : a ≠ b) : (a != b) = true := bne_iff_ne.2 h
theorem bne_f {a b : Int} (h : a = b) : (a != b) = false := by rw [h]; simp
def countZ (n : Int) : Int := if 0 <= n /\ n <= 8000 then countN n.toNat else 0
theorem count_any (n : Int) (w : World) : Calls Tryz.prog 39 #[.int .i64 n] w fun e w' => e = .returned (.int .i64 (countZ n)) /\ w = w' := by
 by_cases h0 : n < 0
 ·go_enter Tryz.func39, Tryz.ntmps39
  go_wp2_with fail
  go_ret
  exact ⟨ret_int (by unfold countZ; rw [if_neg (by omega)]), rfl⟩
 ·by_cases h1 : 8000 < n
  ·go_enter Tryz.func39, Tryz.ntmps39
   go_wp2_with fail
   go_ret
   exact ⟨ret_int (by unfold countZ; rw [if_neg (by omega)]), rfl⟩
  ·have h2 : 0 <= n := by omega
   have h3 : n <= 8000 := by omega
   go_enter Tryz.func39, Tryz.ntmps39
   go_wp2_with fail
   all_goals go_ret
   all_goals exact ⟨ret_int (by unfold countZ countN; rw [if_pos ⟨h2, h3⟩]; omega), rfl⟩
def bytesC (l : List UInt8) : List Value := l.map fun b => Value.int .u8 b.toNat
theorem bytesC_len (l : List UInt8) : (bytesC l).length = l.length := by simp [bytesC]
theorem bytesC_app (a b : List UInt8) : bytesC (a ++ b) = bytesC a ++ bytesC b := by simp [bytesC]
theorem infoU8 : (Tryz.prog.info? 5).map (fun i => (i.zero, i.size, i.bytes)) = some (some (.int .u8 0), 1, 1) := by kernel_rfl
theorem info_parts {P : Program} {e : TypeId} {z : Value} {s b : Nat} (h : (P.info? e).map (fun i => (i.zero, i.size, i.bytes)) = some (some z, s, b)) : ∃ i, P.info? e = some i /\ i.zero = some z /\ i.size = s /\ i.bytes = b := by
 cases hi : P.info? e with
 | none => rw [hi] at h; simp at h
 | some i => rw [hi] at h; simp at h; exact ⟨i, rfl, h.1, h.2.1, h.2.2⟩
theorem putL_snoc : ∀ (k n : Nat), putL n (k + 1) = putL n k ++ [UInt8.ofNat (n / 256 ^ k % 256)]
 | 0, n => by simp [putL]
 | k + 1, n => by
  have := putL_snoc k (n / 256)
  rw [putL, this, putL, Nat.div_div_eq_div_mul, <- Nat.pow_succ']
  rfl
theorem byte_at (num k : Nat) : ((num : Int) / 2 ^ (8 * k) % 256) = ((UInt8.ofNat (num / 256 ^ k % 256)).toNat : Int) := by
 have h : (2 : Nat) ^ (8 * k) = 256 ^ k := by rw [Nat.pow_mul]
 rw [<- h]
 simp
set_option maxHeartbeats 4000000 in
set_option maxRecDepth 100000 in
theorem put64_any (w : World) (base : Nat) (v : Value) (n : Nat) (xs : List Value) (hown : w.ownsRow base 5 1 v n xs) (num size : Nat) (_hnum : num < 18446744073709551616) (hs : size <= 8) (hn : n <= 1000) (hb : base <= w.heap.size) :
  Calls Tryz.prog 176 #[v, .int .u64 num, .int .i64 size] w fun e w' => ∃ v', e = .returned v' /\ w'.ownsRow base 5 1 v' (n + size) (xs ++ bytesC (putL num size)) /\ Below base w w' := by
 obtain ⟨i0, hi, hz0, hz1, hz2⟩ := info_parts infoU8
 have hle : Hid (n + 8 <= maxLen) := by unfold Hid maxLen; omega
 go_enter Tryz.func176, Tryz.ntmps176
 go_wp2_with fail
 go_loopw [0, 9] (fun b i wr => ∃ k : Nat, k <= size /\ i = .int .i64 k /\ wr.ownsRow base 5 1 b (n + k) (xs ++ bytesC (putL num k)) /\ Below base w wr) (fun _ i _ => size - (intOf i).toNat)
 case atStart => exact ⟨0, Nat.zero_le _, rfl, by simpa [putL, bytesC] using hown, Below.refl _ _⟩
 case round =>
  obtain ⟨k, hk, rfl, hrow, hB⟩ := hrel
  have hBs := hB.size
  clear hown
  by_cases hkl : k < size
  ·have hbyte := Lib.hid (byte_at num k)
   go_wp2_with (at_builtin; refine wpList_append_own _ rfl _ _ 66 rfl base 5 i0 _ 1 1 Tryz.underlying66 hi hz0 hz1 hz2 rfl (by decide) _ (n + k) (xs ++ bytesC (putL num k)) rfl (hrow.alloc _) ⟨wr.heap.size, 0, none⟩ 1 1 [.int .u8 (↑num / 2 ^ (8 * k) % 256)] rfl rfl ?c1 ?c2 ?c3 ?c4 ?c5 ?_)
   case c1 => exact cell_one_new _ _ _
   case c2 => simp [Value.oneCell']
   case c3 => have := hle.out; omega
   case c4 => omega
   case c5 => simp; omega
   intro v' w3 hown3 hg3 _
   have hB3 : Below base w w3 := (hB.alloc (by omega) _).grown hg3 (by simp; omega) (fun g e => (hrow.lt g e).1)
   have hown4 : Hid (w3.ownsRow base 5 1 v' (n + (k + 1)) (xs ++ bytesC (putL num (k + 1)))) := by
    unfold Hid
    rw [putL_snoc, bytesC_app, <- List.append_assoc]
    have e : bytesC [UInt8.ofNat (num / 256 ^ k % 256)] = [.int .u8 (↑num / 2 ^ (8 * k) % 256)] := by rw [hbyte.out]; rfl
    rw [e]
    rw [List.append_assoc]
    exact hown3
   clear hg3 hown3 hrow
   go_wp2_with fail
   go_roundw
   case rel => exact ⟨k + 1, by omega, by go_num, hown4.out, hB3⟩
   case measure => simp [intOf]; omega
  ·obtain rfl : k = size := by omega
   go_wp2_with fail
   go_ret
   exact ⟨_, rfl, hrow, hB⟩
set_option maxHeartbeats 4000000 in
set_option maxRecDepth 100000 in
theorem put16_any (w : World) (base : Nat) (v : Value) (n : Nat) (xs : List Value) (hown : w.ownsRow base 5 1 v n xs) (num size : Nat) (_hnum : num < 65536) (hs : size <= 2) (hn : n <= 1000) (hb : base <= w.heap.size) :
  Calls Tryz.prog 177 #[v, .int .u16 num, .int .i64 size] w fun e w' => ∃ v', e = .returned v' /\ w'.ownsRow base 5 1 v' (n + size) (xs ++ bytesC (putL num size)) /\ Below base w w' := by
 obtain ⟨i0, hi, hz0, hz1, hz2⟩ := info_parts infoU8
 have hle : Hid (n + 8 <= maxLen) := by unfold Hid maxLen; omega
 go_enter Tryz.func177, Tryz.ntmps177
 go_wp2_with fail
 go_loopw [0, 9] (fun b i wr => ∃ k : Nat, k <= size /\ i = .int .i64 k /\ wr.ownsRow base 5 1 b (n + k) (xs ++ bytesC (putL num k)) /\ Below base w wr) (fun _ i _ => size - (intOf i).toNat)
 case atStart => exact ⟨0, Nat.zero_le _, rfl, by simpa [putL, bytesC] using hown, Below.refl _ _⟩
 case round =>
  obtain ⟨k, hk, rfl, hrow, hB⟩ := hrel
  have hBs := hB.size
  clear hown
  by_cases hkl : k < size
  ·have hbyte := Lib.hid (byte_at num k)
   go_wp2_with (at_builtin; refine wpList_append_own _ rfl _ _ 66 rfl base 5 i0 _ 1 1 Tryz.underlying66 hi hz0 hz1 hz2 rfl (by decide) _ (n + k) (xs ++ bytesC (putL num k)) rfl (hrow.alloc _) ⟨wr.heap.size, 0, none⟩ 1 1 [.int .u8 (↑num / 2 ^ (8 * k) % 256)] rfl rfl ?c1 ?c2 ?c3 ?c4 ?c5 ?_)
   case c1 => exact cell_one_new _ _ _
   case c2 => simp [Value.oneCell']
   case c3 => have := hle.out; omega
   case c4 => omega
   case c5 => simp; omega
   intro v' w3 hown3 hg3 _
   have hB3 : Below base w w3 := (hB.alloc (by omega) _).grown hg3 (by simp; omega) (fun g e => (hrow.lt g e).1)
   have hown4 : Hid (w3.ownsRow base 5 1 v' (n + (k + 1)) (xs ++ bytesC (putL num (k + 1)))) := by
    unfold Hid
    rw [putL_snoc, bytesC_app, <- List.append_assoc]
    have e : bytesC [UInt8.ofNat (num / 256 ^ k % 256)] = [.int .u8 (↑num / 2 ^ (8 * k) % 256)] := by rw [hbyte.out]; rfl
    rw [e]
    rw [List.append_assoc]
    exact hown3
   clear hg3 hown3 hrow
   go_wp2_with fail
   go_roundw
   case rel => exact ⟨k + 1, by omega, by go_num, hown4.out, hB3⟩
   case measure => simp [intOf]; omega
  ·obtain rfl : k = size := by omega
   go_wp2_with fail
   go_ret
   exact ⟨_, rfl, hrow, hB⟩
theorem getL_snoc : ∀ (l : List UInt8) (b : UInt8), getL (l ++ [b]) = getL l + 256 ^ l.length * b.toNat
 | [], b => by simp [getL]
 | a :: l, b => by
  rw [List.cons_append, getL, getL, getL_snoc l b, List.length_cons, Nat.pow_succ, Nat.mul_add]
  rw [Nat.mul_comm (256 ^ l.length) 256, <- Nat.mul_assoc, Nat.add_assoc]
theorem or_shl (g b k : Nat) (hg : g < 2 ^ (8 * k)) : (g ||| b * 2 ^ (8 * k)) = g + 2 ^ (8 * k) * b := by
 rw [Nat.or_comm, Nat.mul_comm b, Nat.add_comm]
 exact (Nat.two_pow_add_eq_or_of_lt hg b).symm
theorem u64_small (n : Nat) (h : n < 18446744073709551616) : IntKind.u64.wrap (n : Int) = n := by
 simp [IntKind.wrap, IntKind.bits, IntKind.signed]
 omega
theorem or_step (G b k : Nat) (hG : G < 256 ^ k) (hb : b < 256) (hk : k < 8) : bits .or .u64 (G : Int) (IntKind.u64.wrap (IntKind.u64.wrap (b : Int) * 2 ^ (8 * k))) = ((G + 256 ^ k * b : Nat) : Int) := by
 have h2 : (256 : Nat) ^ k = 2 ^ (8 * k) := by rw [Nat.pow_mul]
 rw [h2] at hG ⊢
 have hX : (2 : Nat) ^ (8 * k) <= 2 ^ 56 := Nat.pow_le_pow_right (by decide) (by omega)
 have hm : b * 2 ^ (8 * k) <= 255 * 2 ^ (8 * k) := Nat.mul_le_mul_right _ (by omega)
 rw [u64_small b (by omega), show (b : Int) * 2 ^ (8 * k) = ((b * 2 ^ (8 * k) : Nat) : Int) by simp, u64_small _ (by omega), u64_or_nat _ _ (by omega) (by omega), or_shl _ _ _ hG]
set_option maxHeartbeats 4000000 in
set_option maxRecDepth 100000 in
theorem get_any (w : World) (s : ByteArray) (hs : s.size <= 8) :
  Calls Tryz.prog 185 #[.string s] w fun e w' => e = .returned (.int .u64 (getL s.data.toList : Nat)) /\ w = w' := by
 have hm : s.size <= maxLen := by unfold maxLen; omega
 unfold maxLen at hm
 go_enter Tryz.func185, Tryz.ntmps185
 go_wp2_with fail
 go_loop [2, 6] (fun g i => ∃ k : Nat, k <= s.size /\ i = .int .i64 k /\ g = .int .u64 (getL (s.data.toList.take k) : Nat)) (fun _ i => s.size - (intOf i).toNat)
 case atStart => exact ⟨0, Nat.zero_le _, rfl, rfl⟩
 case round =>
  obtain ⟨k, hk, rfl, rfl⟩ := hrel
  by_cases hkl : k < s.size
  ·have hlt := get_lt (s.data.toList.take k)
   have hl : (s.data.toList.take k).length = k := by rw [List.length_take, Array.length_toList]; have : s.data.size = s.size := rfl; omega
   rw [hl] at hlt
   have hts : s.data.toList.take (k + 1) = s.data.toList.take k ++ [s[k]] := by
    rw [List.take_succ_eq_append_getElem (by rw [Array.length_toList]; exact hkl)]; rfl
   have HS : Hid (getL (s.data.toList.take (k + 1)) = getL (s.data.toList.take k) + 256 ^ k * s[k].toNat) := by
    unfold Hid; rw [hts, getL_snoc, hl]
   clear hts hl
   generalize getL (s.data.toList.take k) = G at hlt HS ⊢
   have ho := Lib.hid (or_step G s[k].toNat k hlt (UInt8.toNat_lt _) (by omega))
   clear hlt
   go_wp2_with fail
   go_round
   case rel => exact ⟨k + 1, by omega, by go_num, by rw [ho.out, HS.out]⟩
   case measure => simp [intOf]; omega
  ·obtain rfl : k = s.size := by omega
   go_wp2_with fail
   go_ret
   refine ⟨?_, rfl⟩
   show Ending.returned (.int .u64 (getL (s.data.toList.take s.size) : Nat)) = _
   rw [List.take_of_length_le (by rw [Array.length_toList]; exact Nat.le_refl _)]
end Go.Proofs.YtpghocekofdpbaaGreatDoor.Sec
namespace Go.Proofs.YtpghocekofdpbaaGreatDoor.Sec
open Go.RowKit Go.Shelf
attribute [local go_sem] Oper.semAt_some
theorem count_nat (n : Nat) (h : n <= 8000) (w : World) : Calls Tryz.prog 39 #[.int .i64 n] w fun e w' => e = .returned (.int .i64 (countN n : Nat)) /\ w = w' := by
 refine (count_any n w).mono ?_
 rintro e w' ⟨rfl, rfl⟩
 exact ⟨ret_int (by unfold countZ; rw [if_pos ⟨by omega, by omega⟩]; simp), rfl⟩
def secText (number : Nat) (rec : ByteArray) (i : Nat) : ByteArray := ⟨(packAt number rec.data.toList i).toArray⟩
theorem make64 (w : World) : (Instr.makeSlice 66 (.int .i64 0) (.int .i64 64)).run Tryz.prog w = .ok (.slice (some ⟨w.heap.size, 0, none⟩) 0 64) (w.alloc (.cells (Array.replicate 64 (.int .u8 0)) 5)) := by kernel_rfl
theorem ownsRow_slice {w : World} {base : Nat} {e : TypeId} {size : Nat} {v : Value} {n : Nat} {xs : List Value} (h : w.ownsRow base e size v n xs) : ∃ A c, v = .slice A n c := by
 rcases h.2 with ⟨rfl, rfl⟩ | ⟨g, cap, _, rfl, _⟩
 ·exact ⟨none, 0, rfl⟩
 ·exact ⟨_, _, rfl⟩
theorem conv_back {w : World} {base n : Nat} {v : Value} (l : List UInt8) (h : w.ownsRow base 5 1 v n (bytesC l)) (hn : 0 < n) :
  ∃ g c, v = .slice (some ⟨g, 0, none⟩) n c /\ (convert 66 9 v).run Tryz.prog w = .ok (.string ⟨l.toArray⟩) w := by
 have hl : l.length = n := by have := h.1; rw [bytesC_len] at this; omega
 rcases h.2 with ⟨rfl, h0⟩ | ⟨g, cap, cur, rfl, _, hg, hnc, hcm, hcs, ht⟩
 ·omega
 ·refine ⟨g, cap, rfl, ?_⟩
  have hc := run_convert_bytes_back (P := Tryz.prog) w 66 9 5 ⟨g, 0, none⟩ cap l Tryz.underlying66 Tryz.underlying5 Tryz.underlying9 (fun j hj => by
   have hj' := h.cells (g := g) rfl j (.int .u8 l[j].toNat) (by unfold bytesC; rw [List.getElem?_map, List.getElem?_eq_getElem hj]; rfl)
   exact hj')
  rw [hl] at hc
  exact hc
theorem zeros_any (w : World) (base : Nat) (v : Value) (m : Nat) (xs : List Value) (h : w.ownsRow base 5 1 v m xs) (h1 : 12 <= m) (h2 : m <= 56) (hb : base <= w.heap.size) :
  ∃ v' w', (Builtin.append_ #[66, 3] 66 #[v, .int .i64 (56 - (m : Int))]).run Tryz.prog w = .ok v' w' /\ (w'.ownsRow base 5 1 v' 56 (xs ++ List.replicate (56 - m) (.int .u8 0)) /\ w.grownBy w' v.ownBlock) := by
 obtain ⟨i0, hi, hz0, hz1, hz2⟩ := info_parts infoU8
 obtain ⟨v', w', hr, ho, hg⟩ := run_append_own_zeros (P := Tryz.prog) w base 66 3 66 5 i0 .i64 .i64 Tryz.underlying66 Tryz.underlying3 hi hz0 hz1 hz2 v m xs h (by omega) (56 - m) (by omega) hb
 rw [show m + (56 - m) = 56 by omega] at ho
 rw [show ((56 - m : Nat) : Int) = 56 - (m : Int) by omega] at hr
 exact ⟨v', w', hr, ho, hg⟩
theorem bytesC_zero (k : Nat) : List.replicate k (Value.int .u8 0) = bytesC (List.replicate k 0) := by simp [bytesC]
theorem pack_cells (number : Nat) (rec : List UInt8) (k m : Nat) (R T : ByteArray) (hR : R.data.toList = rec.drop (44 * k)) (hT : T.data.toList = R.data.toList.take 44) (hm : 0 + 8 + 2 + 2 + T.size = m) :
  [] ++ bytesC (putL number 8) ++ bytesC (putL k 2) ++ bytesC (putL R.size 2) ++ Lib.strCells T ++ List.replicate (56 - m) (.int .u8 0) ++ bytesC (putL number 8) = bytesC (packAt number rec k) := by
 have e1 : Lib.strCells T = bytesC T.data.toList := rfl
 have e2 : R.size = (rec.drop (44 * k)).length := by rw [<- hR, Array.length_toList]; rfl
 have e3 : T.size = ((rec.drop (44 * k)).take 44).length := by rw [<- hR, <- hT, Array.length_toList]; rfl
 rw [e1, bytesC_zero, hT, hR, e2, <- hm, e3, show 56 - (0 + 8 + 2 + 2 + ((rec.drop (44 * k)).take 44).length) = 44 - ((rec.drop (44 * k)).take 44).length by omega]
 unfold packAt
 simp only [bytesC_app, List.nil_append, List.append_assoc]
def SeesRec (Br Bn number : Nat) (rec : ByteArray) (W : World) : Prop := W.cell? ⟨Br, 0, none⟩ = some (.string rec) /\ W.cell? ⟨Bn, 0, none⟩ = some (.int .i64 number)
set_option maxRecDepth 100000 in
set_option maxHeartbeats 4000000 in
theorem sectors_seq (n : Nat) (hn : 1 <= n) (Br Bn number : Nat) (rec : ByteArray) (h1 : 1 <= number) (h2 : number <= mostN) (hr : rec.size <= 8000) :
  SeqMakes Fence.wide n Tryz.prog 175 #[.pointer (some ⟨Br, 0, none⟩), .pointer (some ⟨Bn, 0, none⟩)] (fun i : Nat => #[.string (secText number rec i)])
   (fun _ => SeesRec Br Bn number rec) (fun pre i => i < countN rec.size /\ pre = List.range i) (fun xs => xs = List.range (countN rec.size)) := by
 intro l J W hG hJ hY h0
 have HG := Lib.hid hG
 have HJ := Lib.hid hJ
 have HY := Lib.hid hY
 clear hG hJ hY
 obtain ⟨hcr, hcn⟩ := HG.out [] W h0
 have hm : rec.size <= maxLen := by unfold maxLen; omega
 unfold maxLen at hm
 refine callsIn_of_wp Tryz.func175 rfl trivial ?_ rfl
 simp only [Tryz.ntmps175, List.size_toArray, List.length_cons, List.length_nil, Nat.reduceAdd, Nat.reduceSub, Array.replicate_succ, Array.replicate_zero, List.push_toArray, List.append_toArray, List.nil_append, List.cons_append]
 have HC := fun w => Lib.hid (callsIn_wide (n := n - 1) |>.2 (count_nat rec.size hr w))
 gi_wp2_with (refine ⟨trivial, ?_⟩; gi_at_call 39; refine (HC _).out.mono ?_; rintro e w1 ⟨rfl, rfl⟩)
 obtain ⟨N, hN⟩ : ∃ N, countN rec.size = N := ⟨_, rfl⟩
 have hN1 : N <= 182 := by rw [<- hN]; unfold countN; omega
 have HN := Lib.hid hN
 rw [hN]
 clear hN
 gi_loopw [10] (fun i wr => ∃ k : Nat, k <= N /\ i = .int .i64 k /\ J (List.range k) wr) (fun i _ => N - (intOf i).toNat)
 case atStart => exact ⟨0, Nat.zero_le _, rfl, h0⟩
 case round =>
  obtain ⟨k, hk, rfl, hJk⟩ := hrel
  clear hcr hcn
  obtain ⟨hcr, hcn⟩ := HG.out _ wr hJk
  by_cases hlt : k < N
  ·have hkr : 44 * k <= rec.size := by
    have := HN.out
    unfold countN at this
    omega
   have hw64 : IntKind.u64.wrap (number : Int) = number := u64_small _ (by unfold mostN at h2; omega)
   have hwd : IntKind.u64.wrap (number : Int) = number := hw64
   gi_wp2_with fail
   have hP := fun v1 (h : (wr.drew.alloc (.cells (Array.replicate 64 (.int .u8 0)) 5)).ownsRow wr.heap.size 5 1 v1 0 []) => Lib.hid (put64_any (wr.drew.alloc (.cells (Array.replicate 64 (.int .u8 0)) 5)) wr.heap.size v1 0 [] h number 8 (by unfold mostN at h2; omega) (by decide) (by decide) (by simp))
   have hown0 : (wr.drew.alloc (.cells (Array.replicate 64 (.int .u8 0)) 5)).ownsRow wr.heap.size 5 1 (.slice (some ⟨wr.heap.size, 0, none⟩) 0 64) 0 [] := World.ownsRow_made wr.drew _ 64 (Nat.le_refl _) (by unfold maxLen; decide) (by simp)
   have hP0 := hP _ hown0
   clear hP hown0
   have hmk := make64
   refine wpIn_wide.2 ?_
   go_region_held3 (fun w' => w'.cell? ⟨Bn, 0, none⟩ = some (.int .i64 number)) (go_keep)
    (first
    | (go_at_call 176; refine hP0.out.mono ?_; rintro e w1 ⟨v1, rfl, hr1, hB1⟩; have hz1 := hB1.cell (p := ⟨Bn, 0, none⟩) (World.block_lt_of_cell? _ _ hcn)))
   have hB1' : Below wr.heap.size wr w1 := ((Below.refl _ wr).drew.alloc (Nat.le_refl _) _).trans hB1
   clear hz1 hP0 hmk hB1
   have hRl : (rec.extract (k * 44) rec.size).data.toList = rec.data.toList.drop (44 * k) := by
    rw [ByteArray.data_extract, Array.toList_extract, List.extract_eq_take_drop, List.take_of_length_le (by simp), Nat.mul_comm]
   generalize hRR : rec.extract (k * 44) rec.size = R at hRl
   have hRs : R.size = rec.size - 44 * k := by
    have := congrArg List.length hRl
    simpa using this
   have HRl := Lib.hid hRl
   have HRs := Lib.hid hRs
   have hRm : R.size <= 8000 := by omega
   have hwk : IntKind.u16.wrap (k : Int) = k := by simp [IntKind.wrap, IntKind.bits, IntKind.signed]; omega
   have hwr : IntKind.u16.wrap (R.size : Int) = R.size := by simp [IntKind.wrap, IntKind.bits, IntKind.signed]; omega
   have hk16 : k < 65536 := by omega
   have hcr1 := (hB1'.cell (p := ⟨Bn, 0, none⟩) (World.block_lt_of_cell? _ _ hcn)).trans hcn
   have hBs1 := hB1'.size
   clear hRl hRs hRR hw64
   obtain ⟨i0, hi, hz0, hz1, hz2⟩ := info_parts infoU8
   have hnum : number < 18446744073709551616 := by unfold mostN at h2; omega
   have hkN : k < countN rec.size := by rw [HN.out]; exact hlt
   by_cases hR44 : R.size < 44
   ·have hmin : (R.size : Int) < 44 := by omega
    have hTl : (R).data.toList = R.data.toList.take 44 := by rw [List.take_of_length_le (by rw [Array.length_toList]; exact Nat.le_of_lt hR44)]
    have hT44 : R.size <= 44 := by omega
    have HTl := Lib.hid hTl
    clear hTl
    gi_wp2_with (first
     | (refine ⟨trivial, ?_⟩; gi_at_call 176; refine (callsIn_wide.2 (put64_any _ wr.heap.size _ _ _ hr5 number 8 hnum (by decide) (by decide) hBs5)).mono ?_; rintro e w6 ⟨v6, rfl, hr6, hB6⟩; rw [pack_cells number rec.data.toList k m R (R) HRl.out HTl.out HM.out] at hr6; obtain ⟨g6, c6, rfl, hcv⟩ := conv_back _ hr6 (by decide); have hJ6 := HJ.out _ _ _ hJk (hB1'.trans (hB2.trans (hB3.trans (hB4.trans (hB5.trans hB6))))); obtain ⟨fn, tmps, assign, body, hy, hR⟩ := HY.out (List.range k) k w6 hJ6 ⟨hkN, rfl⟩; dsimp only [secText] at hy; have HR := Lib.hid hR; clear hR hr6)
     | (gi_at_builtin; refine wpListIn_append_some _ rfl _ _ 66 3 rfl _ _ rfl rfl _ (zeros_any _ _ _ _ _ hr4 h12 h56 hBs4) ?_; intro v5 w5 hh5; obtain ⟨hr5, hg5⟩ := hh5; have hB5 := (Below.refl wr.heap.size w4).grown hg5 hBs4 (fun g e => (hr4.lt g e).1); have hBs5 : wr.heap.size <= w5.heap.size := (by have := hB5.size; omega); have hcn5 := ((hB2.trans (hB3.trans (hB4.trans hB5))).cell (p := ⟨Bn, 0, none⟩) (World.block_lt_of_cell? _ _ hcn)).trans hcr1; clear hg5)
     | (refine ⟨trivial, ?_⟩; gi_at_call 177; refine (callsIn_wide.2 (put16_any _ wr.heap.size _ _ _ hr2 R.size 2 (by omega) (by decide) (by omega) (by have := hB2.size; omega))).mono ?_; rintro e w3 ⟨v3, rfl, hr3, hB3⟩; have hBs3 : wr.heap.size <= w3.heap.size := (by have := hB2.size; have := hB3.size; omega))
     | (refine ⟨trivial, ?_⟩; gi_at_call 177; refine (callsIn_wide.2 (put16_any _ wr.heap.size _ _ _ hr1 k 2 hk16 (by decide) (by omega) hBs1)).mono ?_; rintro e w2 ⟨v2, rfl, hr2, hB2⟩)
     | (gi_at_builtin; refine wpListIn_append_some _ rfl _ _ 66 9 rfl _ (.string (R)) rfl rfl _ (Lib.run_append_own_string (P := Tryz.prog) w3 wr.heap.size 66 9 _ 5 i0 Tryz.underlying66 Tryz.underlying9 hi hz0 hz1 hz2 v3 _ _ hr3 (R) (by unfold maxLen; omega) (by omega) hBs3) ?_; intro v4 w4 hh4; obtain ⟨hr4, hg4, _⟩ := hh4; have hB4 := (Below.refl wr.heap.size w3).grown hg4 hBs3 (fun g e => (hr3.lt g e).1); clear hg4; obtain ⟨m, hm12⟩ : ∃ m, 0 + 8 + 2 + 2 + (R).size = m := ⟨_, rfl⟩; rw [hm12] at hr4; have h12 : 12 <= m := (by omega); have h56 : m <= 56 := (by omega); have HM := Lib.hid hm12; clear hm12; have hBs4 : wr.heap.size <= w4.heap.size := (by have := hB4.size; omega); obtain ⟨A4, c4, rfl⟩ := ownsRow_slice hr4))
    refine HR.out.mono ?_
    rintro e W' ⟨rfl, hJ'⟩
    gi_wp2
    go_roundw
    case rel => exact ⟨k + 1, by omega, by go_num, by rw [List.range_succ]; exact hJ'⟩
    case measure => simp [intOf]; omega
   ·have hmin : ¬ (R.size : Int) < 44 := by omega
    have hTl : (R.extract 0 44).data.toList = R.data.toList.take 44 := by rw [ByteArray.data_extract, Array.toList_extract, List.extract_eq_take_drop]; rfl
    have hT44 : (R.extract 0 44).size <= 44 := by rw [ByteArray.size_extract]; omega
    have HTl := Lib.hid hTl
    clear hTl
    gi_wp2_with (first
     | (refine ⟨trivial, ?_⟩; gi_at_call 176; refine (callsIn_wide.2 (put64_any _ wr.heap.size _ _ _ hr5 number 8 hnum (by decide) (by decide) hBs5)).mono ?_; rintro e w6 ⟨v6, rfl, hr6, hB6⟩; rw [pack_cells number rec.data.toList k m R (R.extract 0 44) HRl.out HTl.out HM.out] at hr6; obtain ⟨g6, c6, rfl, hcv⟩ := conv_back _ hr6 (by decide); have hJ6 := HJ.out _ _ _ hJk (hB1'.trans (hB2.trans (hB3.trans (hB4.trans (hB5.trans hB6))))); obtain ⟨fn, tmps, assign, body, hy, hR⟩ := HY.out (List.range k) k w6 hJ6 ⟨hkN, rfl⟩; dsimp only [secText] at hy; have HR := Lib.hid hR; clear hR hr6)
     | (gi_at_builtin; refine wpListIn_append_some _ rfl _ _ 66 3 rfl _ _ rfl rfl _ (zeros_any _ _ _ _ _ hr4 h12 h56 hBs4) ?_; intro v5 w5 hh5; obtain ⟨hr5, hg5⟩ := hh5; have hB5 := (Below.refl wr.heap.size w4).grown hg5 hBs4 (fun g e => (hr4.lt g e).1); have hBs5 : wr.heap.size <= w5.heap.size := (by have := hB5.size; omega); have hcn5 := ((hB2.trans (hB3.trans (hB4.trans hB5))).cell (p := ⟨Bn, 0, none⟩) (World.block_lt_of_cell? _ _ hcn)).trans hcr1; clear hg5)
     | (refine ⟨trivial, ?_⟩; gi_at_call 177; refine (callsIn_wide.2 (put16_any _ wr.heap.size _ _ _ hr2 R.size 2 (by omega) (by decide) (by omega) (by have := hB2.size; omega))).mono ?_; rintro e w3 ⟨v3, rfl, hr3, hB3⟩; have hBs3 : wr.heap.size <= w3.heap.size := (by have := hB2.size; have := hB3.size; omega))
     | (refine ⟨trivial, ?_⟩; gi_at_call 177; refine (callsIn_wide.2 (put16_any _ wr.heap.size _ _ _ hr1 k 2 hk16 (by decide) (by omega) hBs1)).mono ?_; rintro e w2 ⟨v2, rfl, hr2, hB2⟩)
     | (gi_at_builtin; refine wpListIn_append_some _ rfl _ _ 66 9 rfl _ (.string (R.extract 0 44)) rfl rfl _ (Lib.run_append_own_string (P := Tryz.prog) w3 wr.heap.size 66 9 _ 5 i0 Tryz.underlying66 Tryz.underlying9 hi hz0 hz1 hz2 v3 _ _ hr3 (R.extract 0 44) (by unfold maxLen; omega) (by omega) hBs3) ?_; intro v4 w4 hh4; obtain ⟨hr4, hg4, _⟩ := hh4; have hB4 := (Below.refl wr.heap.size w3).grown hg4 hBs3 (fun g e => (hr3.lt g e).1); clear hg4; obtain ⟨m, hm12⟩ : ∃ m, 0 + 8 + 2 + 2 + (R.extract 0 44).size = m := ⟨_, rfl⟩; rw [hm12] at hr4; have h12 : 12 <= m := (by omega); have h56 : m <= 56 := (by omega); have HM := Lib.hid hm12; clear hm12; have hBs4 : wr.heap.size <= w4.heap.size := (by have := hB4.size; omega); obtain ⟨A4, c4, rfl⟩ := ownsRow_slice hr4))
    refine HR.out.mono ?_
    rintro e W' ⟨rfl, hJ'⟩
    gi_wp2
    go_roundw
    case rel => exact ⟨k + 1, by omega, by go_num, by rw [List.range_succ]; exact hJ'⟩
    case measure => simp [intOf]; omega
  ·obtain rfl : k = N := by omega
   gi_wp2
   go_end0
   exact ⟨⟨_, rfl⟩, _, by rw [HN.out], hJk⟩
end Go.Proofs.YtpghocekofdpbaaGreatDoor.Sec
