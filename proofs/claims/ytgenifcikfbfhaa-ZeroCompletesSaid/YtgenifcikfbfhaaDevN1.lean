/-
  Layer 23 (device): slices.Repeat, the memory's New.
-/
import Derived.Test.YtgenifcikfbfhaaMemW9
import Derived.Test.YtgenifcikfbfhaaCopyN
import Derived.Test.YtgenifcikfbfhaaShelf
import Derived.OwnWalk
import Derived.Laws.IdiomStrings
namespace Go.Proofs.Ytgenifcikfbfhaa
open Go.RowKit Go.Shelf
attribute [local go_sem] Oper.semAt_some

/-- 64 zero bytes. -/
def zeros : ByteArray := ⟨(List.replicate 64 (0 : UInt8)).toArray⟩
theorem zeros_size : zeros.size = 64 := by decide
/-- A new sector. -/
def Sec.blank : Sec := ⟨zeros, zeros, ⟨#[]⟩, false, false⟩

theorem ownsRow_slice {w : World} {base : Nat} {e : TypeId} {size : Nat} {v : Value} {n : Nat} {xs : List Value} (h : w.ownsRow base e size v n xs) : ∃ A c, v = .slice A n c := by
  rcases h.2 with ⟨rfl, rfl⟩ | ⟨g, cap, _, rfl, _⟩
  · exact ⟨none, 0, rfl⟩
  · exact ⟨_, _, rfl⟩

theorem mul_one (w : World) (n : Nat) (h : n ≤ 4096) : Calls Try.prog 76 #[.int .u64 1, .int .u64 n] w fun e w' => e = .returned (.tuple #[.int .u64 0, .int .u64 n]) ∧ w = w' := by
  refine (Try.bits_Mul 1 n (by omega) (by omega) w).mono ?_
  rintro e w' ⟨rfl, rfl⟩
  refine ⟨?_, rfl⟩
  rw [Nat.one_mul, Nat.div_eq_of_lt (by omega), Nat.mod_eq_of_lt (by omega)]
  rfl

theorem infoSecSize : (Try.prog.info? 84).map (·.size) = some 5 := by kernel_rfl

/-- Some sectors of a row are written. -/
def Row (w : World) (g n k : Nat) (s : Sec) : Prop := ∃ cur, Blk w g 84 cur ∧ cur.size = n * 5 ∧ cur.toList.take (k * 5) = memCells (List.replicate k s)

theorem copy_step {wr : World} {g n k m dCap sLen sCap : Nat} {s : Sec} {ad : Addr} (h : Row wr g n k s) (hm : Nat.min sLen (n - k) = m) (hkm : k + m ≤ n)
    (hsrc : ∀ j u, (memCells (List.replicate m s))[j]? = some u → wr.cell? (ad.add j) = some u) :
    ∃ w2, (Builtin.copy_ #[80, 80] 3 #[.slice (some ⟨g, k * 5, none⟩) (n - k) dCap, .slice (some ad) sLen sCap]).run Try.prog wr = .ok (.int .i64 m) w2 ∧ Row w2 g n (k + m) s ∧ ∀ B w0, Below B w0 wr → B ≤ g → Below B w0 w2 := by
  obtain ⟨cur, hb, hsz, ht⟩ := h
  have hl : (memCells (List.replicate m s)).length = m * 5 := by rw [memCells_len, List.length_replicate]
  have hr := run_copy_rowN (P := Try.prog) wr 80 80 3 84 5 g (k * 5) (n - k) dCap ad sLen sCap cur 84 (memCells (List.replicate m s)) Try.underlying80 infoSecSize hb (by rw [hl, hm]) hsrc (by rw [hl, hsz]; omega) (memCells_one _)
  rw [hm] at hr
  refine ⟨_, hr, ⟨_, setRow_heap wr g _ _ _ _ hb, ?_, ?_⟩, fun B w0 hB hg => below_setRow hB hg _⟩
  · have : cur.toList.length = n * 5 := by simpa using hsz
    simp [hl]; omega
  · rw [show (cur.toList.take (k * 5) ++ memCells (List.replicate m s) ++ cur.toList.drop (k * 5 + (memCells (List.replicate m s)).length)).toArray.toList = cur.toList.take (k * 5) ++ memCells (List.replicate m s) ++ cur.toList.drop (k * 5 + (memCells (List.replicate m s)).length) from rfl, ht, ← memCells_app, List.replicate_append_replicate]
    rw [List.take_append_of_le_length (by rw [memCells_len, List.length_replicate]; omega), List.take_of_length_le (by rw [memCells_len, List.length_replicate]; omega)]

set_option maxRecDepth 100000 in
set_option maxHeartbeats 4000000 in
theorem slRepeat_any (w : World) (gb cap n : Nat) (s : Sec) (h1 : 1 ≤ n) (h2 : n ≤ 4096) (_hc : 1 ≤ cap) (_hcm : cap ≤ 4096) (hb : gb < w.heap.size) (hs : ∀ j u, (secCells s)[j]? = some u → w.cell? ⟨gb, j, none⟩ = some u) :
    Calls Try.prog 73 #[.slice (some ⟨gb, 0, none⟩) 1 cap, .int .i64 n] w fun e w' => ∃ g, e = .returned (.slice (some ⟨g, 0, none⟩) n n) ∧ w'.ownsRow w.heap.size 84 5 (.slice (some ⟨g, 0, none⟩) n n) n (memCells (List.replicate n s)) ∧ Below w.heap.size w w' := by
  obtain ⟨i0, hi, hz0, hz1, hz2⟩ := info_parts infoSec
  have Hs := Lib.hid hs
  have Hmul := Lib.hid (mul_one w n h2)
  have e1 : IntKind.u64.wrap (n : Int) = n := by unfold IntKind.wrap; simp [IntKind.signed, IntKind.bits]; omega
  clear hs
  obtain ⟨w1, hmk, hr1, hg1⟩ := run_make_full (P := Try.prog) w w.heap.size 80 84 i0 _ 5 Try.underlying80 hi hz0 hz1 .i64 .i64 n (by rw [hz2]; omega) (by unfold maxLen; omega) (Nat.le_refl _)
  obtain ⟨cur, hbk, hcs⟩ : ∃ cur, Blk w1 w.heap.size 84 cur ∧ cur.size = n * 5 := by
    rcases hr1.2 with ⟨_, h0⟩ | ⟨g, cap', cur, e, _, hb, _, _, hsz, _⟩
    · omega
    · cases e; exact ⟨cur, hb, hsz⟩
  have hB1 : Below w.heap.size w w1 := below_grown hg1
  clear hr1 hg1
  have hs1 : ∀ j u, (memCells (List.replicate 1 s))[j]? = some u → w1.cell? ((⟨gb, 0, none⟩ : Addr).add j) = some u := by
    intro j u hu
    have e : (⟨gb, 0, none⟩ : Addr).add j = ⟨gb, j, none⟩ := by simp [Addr.add]; intro e; exact e.symm
    rw [e]
    exact (hB1.cell (p := ⟨gb, j, none⟩) hb).trans (Hs.out j u (by simpa [memCells] using hu))
  obtain ⟨w2, hcp, hrow, hB2⟩ := copy_step (wr := w1) (g := w.heap.size) (n := n) (k := 0) (m := 1) (dCap := n) (sLen := 1) (sCap := cap) (ad := ⟨gb, 0, none⟩) ⟨cur, hbk, hcs, by simp [memCells]⟩ (Nat.min_eq_left (by omega)) (by omega) hs1
  have hB2' := hB2 _ _ hB1 (Nat.le_refl _)
  rw [Nat.zero_mul, Nat.sub_zero] at hcp
  rw [Nat.zero_add] at hrow
  clear hs1 hbk hcs hB2
  go_enter Try.func73, Try.ntmps73
  go_wp2_with (go_at_call 76; refine Hmul.out.mono ?_; rintro e w' ⟨rfl, rfl⟩)
  go_loopw [8] (fun a wr => ∃ k : Nat, 1 ≤ k ∧ k ≤ n ∧ a = .int .i64 k ∧ Row wr w.heap.size n k s ∧ Below w.heap.size w wr) (fun a _ => n - (intOf a).toNat)
  case atStart => exact ⟨1, Nat.le_refl _, h1, rfl, hrow, hB2'⟩
  case round =>
    obtain ⟨k, hk1, hk, rfl, hR, hB⟩ := hrel
    clear hmk hcp hrow hB2' hB1 Hmul
    by_cases hkl : k < n
    · have hsl1 : ∀ wx, (Instr.slice 80 (.slice (some ⟨w.heap.size, 0, none⟩) n n) (some (.int .i64 k)) none none).run Try.prog wx = .ok (.slice (some ⟨w.heap.size, k * 5, none⟩) (n - k) (n - k)) wx := by
        intro wx
        have e2 : ¬ n = k := by omega
        simp [go_sem, e2]
        omega
      have hsl2 : ∀ wx, (Instr.slice 80 (.slice (some ⟨w.heap.size, 0, none⟩) n n) none (some (.int .i64 k)) none).run Try.prog wx = .ok (.slice (some ⟨w.heap.size, 0, none⟩) k n) wx := by
        intro wx
        have e2 : ¬ n = k := by omega
        simp [go_sem]
        omega
      obtain ⟨m, hm⟩ : ∃ m, Nat.min k (n - k) = m := ⟨_, rfl⟩
      have hm1 : 1 ≤ m := by have : Nat.min k (n - k) = min k (n - k) := rfl; omega
      have hm2 : k + m ≤ n := by have : Nat.min k (n - k) = min k (n - k) := rfl; omega
      have hm3 : m ≤ k := by have : Nat.min k (n - k) = min k (n - k) := rfl; omega
      have hR2 : Row wr.drew w.heap.size n k s := hR
      obtain ⟨w3, hcp, hrow, hB3⟩ := copy_step (wr := wr.drew) (dCap := n - k) (sLen := k) (sCap := n) (ad := ⟨w.heap.size, 0, none⟩) hR2 hm hm2 (fun j u hu => by
        obtain ⟨cur, hb, hsz, ht⟩ := hR2
        have hj := (List.getElem?_eq_some_iff.1 hu).1
        rw [memCells_len, List.length_replicate] at hj
        have e : (⟨w.heap.size, 0, none⟩ : Addr).add j = ⟨w.heap.size, j, none⟩ := by simp [Addr.add]; intro e; exact e.symm
        rw [e, hb.cell, ← hu, ← Array.getElem?_toList, ← List.getElem?_take_of_lt (show j < k * 5 by omega), ht]
        obtain ⟨d, rfl⟩ : ∃ d, k = m + d := ⟨k - m, by omega⟩
        rw [← List.replicate_append_replicate, memCells_app, List.getElem?_append_left (by rw [memCells_len, List.length_replicate]; exact hj)])
      have hB4 := hB3 _ _ hB.drew (Nat.le_refl _)
      clear hR hR2 hB3 hB hm
      go_wp2_with fail
      go_region
      go_wp2
      go_roundw
      case rel => exact ⟨k + m, by omega, hm2, by go_num, hrow, hB4⟩
      case measure => simp [intOf]; omega
    · obtain rfl : k = n := by omega
      go_wp2_with fail
      go_ret
      obtain ⟨cur, hb, hsz, ht⟩ := hR
      exact ⟨_, rfl, ⟨by rw [memCells_len, List.length_replicate], .inr ⟨w.heap.size, k, cur, rfl, Nat.le_refl _, hb, Nat.le_refl _, by unfold maxLen; omega, hsz, ht⟩⟩, hB⟩

theorem New_bad (w : World) (n : Int) (h : n < 1 ∨ 4096 < n) :
    Calls Try.prog 51 #[.int .i64 n] w fun e w' => e = .returned (.tuple #[.pointer none, .int .i64 1]) ∧ w = w' := by
  by_cases h1 : n < 1
  · clear h
    go_enter Try.func51, Try.ntmps51
    go_wp2_with fail
    go_ret2
    exact ⟨rfl, rfl⟩
  · have h2 : 4096 < n := by omega
    clear h
    go_enter Try.func51, Try.ntmps51
    go_wp2_with fail
    go_ret2
    exact ⟨rfl, rfl⟩

theorem rep64 (w : World) : Calls Try.prog 72 #[.string ⟨#[0]⟩, .int .i64 64] w fun e w' => e = .returned (.string zeros) ∧ Below w.heap.size w w' := by
  refine (Try.strings_Repeat ⟨#[0]⟩ 64 w (by omega) (by show 1 * 64 ≤ 140737488355328; omega)).mono ?_
  rintro e w' ⟨rfl, hB⟩
  refine ⟨?_, hB⟩
  have h : (⟨(Lib.repeatL (⟨#[0]⟩ : ByteArray).data.toList 64).toArray⟩ : ByteArray) = zeros := by kernel_rfl
  rw [h]

set_option maxRecDepth 100000 in
set_option maxHeartbeats 4000000 in
theorem New_ok (w : World) (n : Nat) (h1 : 1 ≤ n) (h2 : n ≤ 4096) :
    Calls Try.prog 51 #[.int .i64 n] w fun e w' => ∃ b g, e = .returned (.tuple #[.pointer (some ⟨b, 0, none⟩), .int .i64 0]) ∧ w.heap.size ≤ b ∧ w.heap.size ≤ g ∧ PMem w' b g (List.replicate n Sec.blank) ∧ Below w.heap.size w w' := by
  go_enter Try.func51, Try.ntmps51
  go_wp2_with (go_at_call 72; refine (rep64 _).mono ?_; rintro e w1 ⟨rfl, hB1⟩)
  have hB1s := hB1.size
  have hbk := Blk.new w1 84 #[.string zeros, .string zeros, .string ⟨#[]⟩, .bool false, .bool false]
  have hB2 : Below w.heap.size w (w1.alloc (.cells #[.string zeros, .string zeros, .string ⟨#[]⟩, .bool false, .bool false] 84)) := hB1.alloc hB1s _
  have hsz : (w1.alloc (.cells #[.string zeros, .string zeros, .string ⟨#[]⟩, .bool false, .bool false] 84)).heap.size = w1.heap.size + 1 := by simp
  generalize w1.alloc (.cells #[.string zeros, .string zeros, .string ⟨#[]⟩, .bool false, .bool false] 84) = w2 at hbk hB2 hsz ⊢
  have HR := Lib.hid (slRepeat_any w2 w1.heap.size 1 n Sec.blank h1 h2 (Nat.le_refl _) (by omega) (by omega) (fun j u hu => by rw [hbk.cell, ← Array.getElem?_toList]; exact hu))
  go_wp2_with (go_at_call 73; refine HR.out.mono ?_; rintro e w3 ⟨g, rfl, hrow, hB3⟩)
  go_ret2
  have hs3 := hB3.size
  have hB4 := (hB2.trans (hB3.mono (by omega))).alloc (by omega) (.cells #[.slice (some ⟨g, 0, none⟩) n n] 82)
  obtain ⟨g2, hg2, hM2⟩ := isMem_of_row (tM := 82) (M := List.replicate n Sec.blank) (by simp; omega) (by simpa using hrow.alloc (.cells #[.slice (some ⟨g, 0, none⟩) n n] 82)) (Blk.new w3 82 #[.slice (some ⟨g, 0, none⟩) n n]) (by decide)
  exact ⟨_, g2, rfl, by omega, by omega, hM2, hB4⟩
end Go.Proofs.Ytgenifcikfbfhaa
