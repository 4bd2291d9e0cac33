/-
  Layer 22 (memory): MemoryReadsLast, the walk.
-/
import Derived.Test.YtgieiehpnjhkoaaMemQ4
import Derived.Deep.RegionHeld3
import Derived.Maps.OwnOps
namespace Go.Proofs.Ytgieiehpnjhkoaa
open Go.RowKit Go.Shelf
attribute [local go_sem] Oper.semAt_some

/-- What the closure looks at. -/
structure Rd (W w : World) (bn bp bm p b g mb N n : Nat) (s : St) (f : Int → Option ByteArray) : Prop where
  uno : Uno W w p b g s
  bnk : Blk w bn 3 #[.int .i64 n]
  bpk : Blk w bp 28 #[.pointer (some ⟨p, 0, none⟩)]
  bmk : Blk w bm 46 #[.map (some mb)]
  txm : TxtMap w mb N f
section
variable {W w w' : World} {bn bp bm p b g mb N n m : Nat} {s : St} {f : Int → Option ByteArray}
theorem Rd.on (h : Rd W w bn bp bm p b g mb N n s f) (hB : Below w.heap.size w w') : Rd W w' bn bp bm p b g mb N n s f :=
  ⟨h.uno.on hB, h.bnk.below hB h.bnk.lt, h.bpk.below hB h.bpk.lt, h.bmk.below hB h.bmk.lt, h.txm.below hB⟩
set_option maxRecDepth 100000 in
set_option maxHeartbeats 4000000 in
theorem holds_true (h : Rd W w bn bp bm p b g mb N n s f) (hs : Sound n m s) (hw : Wants s.M f) (hn : n ≤ 64) :
    Calls Try.prog 17 #[.pointer (some ⟨bn, 0, none⟩), .pointer (some ⟨bp, 0, none⟩), .pointer (some ⟨bm, 0, none⟩)] w fun e w' => e = .returned (.bool true) ∧ Hid (Below w.heap.size w w') := by
  have c0 := h.bnk.cell 0
  have h0 : Hid (Rd W w bn bp bm p b g mb N n s f) := h
  have Hs := Lib.hid hs
  have Hw := Lib.hid hw
  have Hn := Lib.hid hn
  clear h hs hw hn
  go_enter Try.func17, Try.ntmps17
  go_wp2_with fail
  go_loopw [10] (fun a wr => ∃ k : Nat, k ≤ n ∧ a = .int .i64 k ∧ Hid (Rd W wr bn bp bm p b g mb N n s f) ∧ Hid (Below w.heap.size w wr)) (fun a _ => n - (intOf a).toNat)
  case atStart => exact ⟨0, Nat.zero_le _, rfl, h0, Below.refl _ _⟩
  case round =>
    obtain ⟨k, hk, rfl, hr, hB⟩ := hrel
    by_cases hkl : k < n
    · have hn64 := Hn.out
      obtain ⟨hrt, hre⟩ := wants_read Hw.out (k := k) (by rw [Hs.out.len]; exact hkl)
      have Hrt := Lib.hid hrt
      have Hre := Lib.hid hre
      have z1 := hr.out.bpk.cell 0
      have z2 := hr.out.uno.cell
      have z3 := hr.out.bmk.cell 0
      have hlk := hr.out.txm.look (wf_small (k := k) (by omega))
      clear hrt hre h0 c0
      cases hf : f k with
      | some t =>
        have Hrt2 : Hid (readT s.M k = t) := by
          have e := Hrt.out
          unfold wantAt at e
          rw [hf] at e
          exact e
        rw [hf] at hlk
        have hlk' : (Instr.lookup 46 (.map (some mb)) (.int .i64 k) true).run Try.prog wr = .ok (.tuple #[.string t, .bool true]) wr := hlk
        clear hf hlk Hrt
        go_wp2_with (first | (go_at_call 18; refine (uno_read hr.out.uno Hrt2.out Hre.out).mono ?_; rintro e wx ⟨rfl, rfl⟩))
        go_roundw
        case rel => exact ⟨k + 1, by omega, by go_num, hr, hB⟩
        case measure => simp [intOf]; omega
      | none =>
        have Hrt2 : Hid (readT s.M k = zeros) := by
          have e := Hrt.out
          unfold wantAt at e
          rw [hf] at e
          exact e
        rw [hf] at hlk
        have hlk' : (Instr.lookup 46 (.map (some mb)) (.int .i64 k) true).run Try.prog wr = .ok (.tuple #[.string ⟨#[]⟩, .bool false]) wr := hlk
        clear hf hlk Hrt
        go_wp2_with (first | (go_at_call 18; refine (uno_read hr.out.uno Hrt2.out Hre.out).mono ?_; rintro e wx ⟨rfl, rfl⟩) | (go_at_call 19; refine (rep64 _).mono ?_; rintro e wy ⟨rfl, hB2⟩; have hr2 := Lib.hid (hr.out.on hB2); have hB3 := Lib.hid (hB.out.trans (hB2.mono hB.out.size)); clear hB2))
        go_roundw
        case rel => exact ⟨k + 1, by omega, by go_num, hr2, hB3⟩
        case measure => simp [intOf]; omega
    · obtain rfl : n = k := by omega
      go_wp2_with fail
      go_ret
      exact ⟨rfl, hB⟩
end
end Go.Proofs.Ytgieiehpnjhkoaa
