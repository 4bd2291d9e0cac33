/-
  Layer 22 (memory): the reference's New.
-/
import Derived.Test.YtcifkahmeimniaaGreatMemR4
import Derived.Laws.IdiomStrings
namespace Go.Proofs.YtcifkahmeimniaaGreat
open Go.RowKit Go.Shelf
attribute [local go_sem] Oper.semAt_some

/-- 64 zero bytes. -/
def zeros : ByteArray := ⟨(List.replicate 64 (0 : UInt8)).toArray⟩
theorem zeros_size : zeros.size = 64 := by decide
/-- Their cells. -/
def zcells : Array Value := Array.replicate 64 (.int .u8 0)
theorem make64 (w : World) : (Instr.makeSlice 78 (.int .i64 64) (.int .i64 64)).run Tryz.prog w = .ok (.slice (some ⟨w.heap.size, 0, none⟩) 64 64) (w.alloc (.cells zcells 5)) := by kernel_rfl
theorem conv64 (w : World) : (convert 78 9 (.slice (some ⟨w.heap.size, 0, none⟩) 64 64)).run Tryz.prog (w.alloc (.cells zcells 5)) = .ok (.string zeros) (w.alloc (.cells zcells 5)) := by
  have h := run_convert_bytes_back (P := Tryz.prog) (w.alloc (.cells zcells 5)) 78 9 5 ⟨w.heap.size, 0, none⟩ 64 (List.replicate 64 (0 : UInt8)) Tryz.underlying78 Tryz.underlying5 Tryz.underlying9 (fun j hj => by
    have hb := (Blk.new w 5 zcells).cell j
    have e : (⟨w.heap.size, 0, none⟩ : Addr).add j = ⟨w.heap.size, j, none⟩ := by
      simp [Addr.add]; intro e; exact e.symm
    rw [e, hb]
    have hj' : j < 64 := by simpa using hj
    rw [List.getElem_replicate]
    have hz : zcells[j]? = some (.int .u8 0) := by
      unfold zcells
      rw [Array.getElem?_replicate, if_pos hj']
    rw [hz]
    rfl)
  exact h
/-- A new sector. -/
def Sec.blank : Sec := ⟨zeros, zeros, ⟨#[]⟩, false, false⟩

theorem ownsRow_slice {w : World} {base : Nat} {e : TypeId} {size : Nat} {v : Value} {n : Nat} {xs : List Value} (h : w.ownsRow base e size v n xs) : ∃ A c, v = .slice A n c := by
  rcases h.2 with ⟨rfl, rfl⟩ | ⟨g, cap, _, rfl, _⟩
  · exact ⟨none, 0, rfl⟩
  · exact ⟨_, _, rfl⟩

theorem rNew_bad (w : World) (n : Int) (h : n < 1 ∨ 4096 < n) :
    Calls Tryz.prog 29 #[.int .i64 n] w fun e w' => e = .returned (.tuple #[.pointer none, .int .i64 1]) ∧ w = w' := by
  by_cases h1 : n < 1
  · clear h
    go_enter Tryz.func29, Tryz.ntmps29
    go_wp2_with fail
    go_ret2
    exact ⟨rfl, rfl⟩
  · have h2 : 4096 < n := by omega
    clear h
    go_enter Tryz.func29, Tryz.ntmps29
    go_wp2_with fail
    go_ret2
    exact ⟨rfl, rfl⟩

set_option maxRecDepth 100000 in
set_option maxHeartbeats 4000000 in
theorem rNew_ok (w : World) (n : Nat) (h1 : 1 ≤ n) (h2 : n ≤ 4096) :
    Calls Tryz.prog 29 #[.int .i64 n] w fun e w' => ∃ b g, e = .returned (.tuple #[.pointer (some ⟨b, 0, none⟩), .int .i64 0]) ∧ w.heap.size ≤ b ∧ w.heap.size ≤ g ∧ RMem w' b g (List.replicate n Sec.blank) ∧ Below w.heap.size w w' := by
  obtain ⟨i0, hi, hz0, hz1, hz2⟩ := info_parts infoRSec
  have m64 := make64 w
  have c64 := conv64 w
  go_enter Tryz.func29, Tryz.ntmps29
  go_wp2_with fail
  have hw0 : Below w.heap.size w ((w.alloc (.cells zcells 5)).alloc (.cells #[.slice none 0 0] 90)) := ((Below.refl _ w).alloc (Nat.le_refl _) _).alloc (by simp) _
  have hbm0 : Blk ((w.alloc (.cells zcells 5)).alloc (.cells #[.slice none 0 0] 90)) (w.heap.size + 1) 90 #[.slice none 0 0] := by
    have := Blk.new (w.alloc (.cells zcells 5)) 90 #[.slice none 0 0]
    rw [World.size_alloc] at this
    exact this
  go_loopw [6] (fun a wr => ∃ (k : Nat) (v : Value), k ≤ n ∧ a = .int .i64 k ∧ Blk wr (w.heap.size + 1) 90 #[v] ∧ wr.ownsRow w.heap.size 92 5 v k (memCells (List.replicate k Sec.blank)) ∧ Below w.heap.size w wr) (fun a _ => n - (intOf a).toNat)
  case atStart => exact ⟨0, _, Nat.zero_le _, rfl, hbm0, World.ownsRow_nil _ _ _ _, hw0⟩
  case round =>
    obtain ⟨k, v, hk, rfl, hbm, hown, hB⟩ := hrel
    have hBs := hB.size
    obtain ⟨A, c, rfl⟩ := ownsRow_slice hown
    have hcm : wr.cell? ⟨w.heap.size + 1, 0, none⟩ = some (.slice A k c) := hbm.cell 0
    clear hw0 hbm0 m64 c64
    by_cases hkl : k < n
    · have hle : Hid ((k + 1 : Nat) ≤ maxLen) := by unfold Hid maxLen; omega
      have Hown := Lib.hid hown
      go_wp2_with (at_builtin; refine wpList_append_own _ rfl _ _ 88 rfl w.heap.size 92 i0 _ 5 56 Tryz.underlying88 hi hz0 hz1 hz2 rfl (by decide) _ k (memCells (List.replicate k Sec.blank)) rfl (hown.alloc _) ⟨wr.heap.size, 0, none⟩ 1 1 (secCells Sec.blank) rfl rfl ?c1 (secCells_one _) ?c3 ?c4 ?c5 ?_)
      case c1 => exact news_cells (Blk.new wr 92 #[.string zeros, .string zeros, .string ⟨#[]⟩, .bool false, .bool false])
      case c3 => exact hle.out
      case c4 => omega
      case c5 => simp; omega
      intro v' w3 hown3 hg3 hn3
      have hB3 : Below w.heap.size w w3 := (hB.alloc (by omega) _).grown hg3 (by simp; omega) (fun g e => (hown.lt g e).1)
      have hbm3 : Blk w3 (w.heap.size + 1) 90 #[.slice A k c] := (hbm.alloc _).grown hg3 (own_blk_ne hown hbm (by decide)).symm
      have hown4 : w3.ownsRow w.heap.size 92 5 v' (k + 1) (memCells (List.replicate (k + 1) Sec.blank)) := by
        have e : memCells (List.replicate (k + 1) Sec.blank) = memCells (List.replicate k Sec.blank) ++ secCells Sec.blank := by
          rw [List.replicate_succ', memCells_app]; simp [memCells]
        rw [e]; exact hown3
      obtain ⟨A', c', rfl⟩ := ownsRow_slice hown4
      have hcm3 : w3.cell? ⟨w.heap.size + 1, 0, none⟩ = some (.slice A k c) := hbm3.cell 0
      have hfm3 := hbm3.frozen 0
      have hbm4 := hbm3.set_ 0 (.slice A' (k + 1) c')
      have hown5 := hown4.kept (grownBy_setCell' w3 (w.heap.size + 1) (.slice A' (k + 1) c')) (.inr (own_blk_ne hown4 hbm3 (by decide)))
      have hB4 := hB3.setCell (p := ⟨w.heap.size + 1, 0, none⟩) (by simp) (.slice A' (k + 1) c')
      clear hg3 hn3 hown3 hown4 hown hbm hcm Hown hbm3 hB3
      go_wp2_with fail
      go_roundw
      case rel => exact ⟨k + 1, _, by omega, by go_num, hbm4, hown5, hB4⟩
      case measure => simp [intOf]; omega
    · obtain rfl : k = n := by omega
      go_wp2_with fail
      go_ret2
      obtain ⟨g2, hg2, hM2⟩ := isMem_of_row (tM := 90) (M := List.replicate k Sec.blank) (by simp; omega) (by simpa using hown) hbm (by decide)
      exact ⟨_, g2, rfl, by omega, hg2, hM2, hB⟩
end Go.Proofs.YtcifkahmeimniaaGreat
