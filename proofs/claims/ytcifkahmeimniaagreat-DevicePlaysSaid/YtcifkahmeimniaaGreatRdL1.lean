/-
  Layer 23 (device): alike; the program's device and the specification's side by side.
-/
import Derived.Test.YtcifkahmeimniaaGreatG8
namespace Go.Proofs.YtcifkahmeimniaaGreat
open Go.RowKit Go.Shelf
attribute [local go_sem] Oper.semAt_some

section
variable {W w w' : World} {a r c u : DAt} {D E C : Dev}
/-- The specification's device behind an operation on the program's. -/
theorem DLeft.rdev (hF : DLeft w w' a) (h : DevIs w a D) (k : RDevIs w r E) (n3 : r.sb ≠ a.sb) (n4 : r.fb ≠ a.fb) : RDevIs w' r E := by
  obtain ⟨L, k⟩ := k
  obtain ⟨cap, cur, m1, m2, m3⟩ := k.mem.body
  refine ⟨L, (hF.blk h k.blk (fun e => by cases e) (fun e => by cases e) (fun e => by cases e) (fun e => by cases e)).trans k.blk, ⟨k.mem.ne, k.mem.pos, cap, cur, (hF.blk h m1 (fun e => by cases e) (fun e => by cases e) (fun e => by cases e) (fun e => by cases e)).trans m1, (hF.blk h m2 (fun e => by cases e) (fun e => by cases e) (fun e => by cases e) (fun e => by cases e)).trans m2, m3⟩, ?_, ?_, k.lf⟩
  · refine ownsRow_same k.srow (fun j cs e hj => ?_)
    have : j = r.sb := by cases e; rfl
    exact hF.blk h hj (fun e => by cases e) (fun e => by cases e) (fun _ => by rw [this]; exact n3) (fun e => by cases e)
  · refine ownsRow_same k.frow (fun j cs e hj => ?_)
    have : j = r.fb := by cases e; rfl
    exact hF.blk h hj (fun e => by cases e) (fun e => by cases e) (fun e => by cases e) (fun _ => by rw [this]; exact n4)
/-- The program's device behind an operation on the specification's. -/
theorem DLeft.dev_r (hF : DLeft w w' r) (h : RDevIs w r D) (k : DevIs w a E) (n3 : a.sb ≠ r.sb) (n4 : a.fb ≠ r.fb) : DevIs w' a E := by
  obtain ⟨cap, cur, m1, m2, m3⟩ := k.mem.body
  refine ⟨(hF.rblk h k.blk (fun e => by cases e) (fun e => by cases e) (fun e => by cases e) (fun e => by cases e)).trans k.blk, ⟨k.mem.ne, k.mem.pos, cap, cur, (hF.rblk h m1 (fun e => by cases e) (fun e => by cases e) (fun e => by cases e) (fun e => by cases e)).trans m1, (hF.rblk h m2 (fun e => by cases e) (fun e => by cases e) (fun e => by cases e) (fun e => by cases e)).trans m2, m3⟩, ?_, ?_⟩
  · refine ownsRow_same k.srow (fun j cs e hj => ?_)
    have : j = a.sb := by cases e; rfl
    exact hF.rblk h hj (fun e => by cases e) (fun e => by cases e) (fun _ => by rw [this]; exact n3) (fun e => by cases e)
  · refine ownsRow_same k.frow (fun j cs e hj => ?_)
    have : j = a.fb := by cases e; rfl
    exact hF.rblk h hj (fun e => by cases e) (fun e => by cases e) (fun e => by cases e) (fun _ => by rw [this]; exact n4)
/-- Another of the specification's devices. -/
theorem DLeft.rdev_r (hF : DLeft w w' r) (h : RDevIs w r D) (k : RDevIs w u E) (n : r.Apart u) : RDevIs w' u E := by
  obtain ⟨L, k⟩ := k
  obtain ⟨cap, cur, m1, m2, m3⟩ := k.mem.body
  refine ⟨L, (hF.rblk h k.blk (fun _ => n.d) (fun e => by cases e) (fun e => by cases e) (fun e => by cases e)).trans k.blk, ⟨k.mem.ne, k.mem.pos, cap, cur, (hF.rblk h m1 (fun e => by cases e) (fun e => by cases e) (fun e => by cases e) (fun e => by cases e)).trans m1, (hF.rblk h m2 (fun e => by cases e) (fun _ => n.g) (fun e => by cases e) (fun e => by cases e)).trans m2, m3⟩, ?_, ?_, k.lf⟩
  · refine ownsRow_same k.srow (fun j cs e hj => ?_)
    have : j = u.sb := by cases e; rfl
    exact hF.rblk h hj (fun e => by cases e) (fun e => by cases e) (fun _ => by rw [this]; exact n.sb) (fun e => by cases e)
  · refine ownsRow_same k.frow (fun j cs e hj => ?_)
    have : j = u.fb := by cases e; rfl
    exact hF.rblk h hj (fun e => by cases e) (fun e => by cases e) (fun e => by cases e) (fun _ => by rw [this]; exact n.fb)

set_option maxRecDepth 100000 in
set_option maxHeartbeats 4000000 in
theorem alike_true (h : DevIs w a D) (k : RDevIs w r D) (hN : D.M.length ≤ 4096) (hs : D.slots.length ≤ 16) (hf : D.fuses.length ≤ 16) :
    Calls Tryz.prog 12 #[.pointer (some ⟨a.d, 0, none⟩), .pointer (some ⟨r.d, 0, none⟩)] w fun e w' => e = .returned (.bool true) ∧ Below w.heap.size w w' := by
  have HU := Lib.hid (Up_any h)
  have HU' := Lib.hid (rdUp_any k)
  have HC := Lib.hid (Counter_any h)
  have HC' := Lib.hid (rdCounter_any k)
  have HN := Lib.hid (Now_any h)
  have HN' := Lib.hid (rdNow_any k)
  have HS := Lib.hid (Sectors_any h)
  have HS' := Lib.hid (rdSectors_any k)
  have HB : Hid (∀ i : Int, Calls Tryz.prog 18 #[.pointer (some ⟨a.d, 0, none⟩), .int .i64 i] w fun e w' => e = .returned (.bool (burnedD D i)) ∧ w = w') := fun i => dBurned_any h i
  have HB' : Hid (∀ i : Int, Calls Tryz.prog 60 #[.pointer (some ⟨r.d, 0, none⟩), .int .i64 i] w fun e w' => e = .returned (.bool (burnedD D i)) ∧ w = w') := fun i => rdBurned_any k i
  have HL : Hid (∀ i : Int, ∃ t e0, (Calls Tryz.prog 21 #[.pointer (some ⟨a.d, 0, none⟩), .int .i64 i] w fun e w' => e = .returned (.tuple #[.string t, .int .i64 e0]) ∧ w = w') ∧ Calls Tryz.prog 44 #[.pointer (some ⟨r.d, 0, none⟩), .int .i64 i] w fun e w' => e = .returned (.tuple #[.string t, .int .i64 e0]) ∧ w = w') := fun i => ⟨_, _, dLoad_any h i, rdLoad_any k i⟩
  have HR : Hid (∀ i : Int, ∃ t e0, (Calls Tryz.prog 35 #[.pointer (some ⟨a.d, 0, none⟩), .int .i64 i] w fun e w' => e = .returned (.tuple #[.string t, .int .i64 e0]) ∧ w = w') ∧ Calls Tryz.prog 41 #[.pointer (some ⟨r.d, 0, none⟩), .int .i64 i] w fun e w' => e = .returned (.tuple #[.string t, .int .i64 e0]) ∧ w = w') := fun i => ⟨_, _, dRead_any h i, rdRead_any k i⟩
  have Hd := Lib.hid h
  have Hk := Lib.hid k
  have Hb := Lib.hid (And.intro hN (And.intro hs hf))
  obtain ⟨L, k⟩ := k
  obtain ⟨c0, c1, c2, c3, c4, c5, c6, c7⟩ := k.cells
  obtain ⟨nF, hnF⟩ : ∃ n, D.fuses.length = n := ⟨_, rfl⟩
  obtain ⟨nS, hnS⟩ : ∃ n, D.slots.length = n := ⟨_, rfl⟩
  obtain ⟨nM, hnM⟩ : ∃ n, D.M.length = n := ⟨_, rfl⟩
  have HnM := Lib.hid hnM
  rw [hnF] at c2 Hb
  rw [hnS] at c1 Hb
  rw [hnM] at HS HS' Hb
  generalize D.counter = dc at HC HC' c3
  generalize D.clock = dk at HN HN' c4
  generalize D.down = dd at HU HU' c5
  clear h k hN hs hf hnF hnS hnM c0 c3 c4 c5 c6 c7
  go_enter Tryz.func12, Tryz.ntmps12
  go_wp2_with (first | (go_at_call 17; refine HU.out.mono ?_; rintro e w1 ⟨rfl, rfl⟩) | (go_at_call 56; refine HU'.out.mono ?_; rintro e w1 ⟨rfl, rfl⟩) | (go_at_call 26; refine HS.out.mono ?_; rintro e w1 ⟨rfl, rfl⟩) | (go_at_call 57; refine HS'.out.mono ?_; rintro e w1 ⟨rfl, rfl⟩) | (go_at_call 25; refine HC.out.mono ?_; rintro e w1 ⟨rfl, rfl⟩) | (go_at_call 58; refine HC'.out.mono ?_; rintro e w1 ⟨rfl, rfl⟩) | (go_at_call 24; refine HN.out.mono ?_; rintro e w1 ⟨rfl, rfl⟩) | (go_at_call 59; refine HN'.out.mono ?_; rintro e w1 ⟨rfl, rfl⟩))
  go_loop [5] (fun i => ∃ j : Int, -1 ≤ j ∧ j ≤ nF + 1 ∧ i = .int .i64 j) (fun i => (nF + 1 - intOf i).toNat)
  case atStart => exact ⟨-1, by omega, by omega, rfl⟩
  case round =>
    obtain ⟨j, hj0, hj1, rfl⟩ := hrel
    by_cases hjn : j ≤ (nF : Int)
    · have hd1 : decide (j ≤ (nF : Int)) = true := decide_eq_true hjn
      have hw : wrap64 (j + 1) = j + 1 := by have := Hb.out; unfold wrap64; omega
      have Hj := Lib.hid (And.intro hj0 hjn)
      have HBj := Lib.hid (HB.out j)
      have HBj' := Lib.hid (HB'.out j)
      generalize burnedD D j = bb at HBj HBj'
      clear hj0 hj1 hjn
      go_wp2_with (first | (go_at_call 18; refine HBj.out.mono ?_; rintro e w1 ⟨rfl, rfl⟩) | (go_at_call 60; refine HBj'.out.mono ?_; rintro e w1 ⟨rfl, rfl⟩))
      go_round
      case rel => exact ⟨j + 1, by have := Hj.out; omega, by have := Hj.out; omega, by rw [hw]⟩
      case measure => have := Hj.out; simp [intOf]; omega
    · have hd1 : decide (j ≤ (nF : Int)) = false := decide_eq_false hjn
      clear hjn hj0 hj1
      go_wp2_with fail
      go_loop [6] (fun i => ∃ j : Int, -1 ≤ j ∧ j ≤ nS + 1 ∧ i = .int .i64 j) (fun i => (nS + 1 - intOf i).toNat)
      case atStart => exact ⟨-1, by omega, by omega, rfl⟩
      case round =>
        obtain ⟨j, hj0, hj1, rfl⟩ := hrel
        by_cases hjn : j ≤ (nS : Int)
        · have hd1 : decide (j ≤ (nS : Int)) = true := decide_eq_true hjn
          have hw : wrap64 (j + 1) = j + 1 := by have := Hb.out; unfold wrap64; omega
          have Hj := Lib.hid (And.intro hj0 hjn)
          obtain ⟨t, e0, hl1, hl2⟩ := HL.out j
          have HLj := Lib.hid hl1
          have HLj' := Lib.hid hl2
          clear hj0 hj1 hjn hl1 hl2
          go_wp2_with (first | (go_at_call 21; refine HLj.out.mono ?_; rintro e w1 ⟨rfl, rfl⟩) | (go_at_call 44; refine HLj'.out.mono ?_; rintro e w1 ⟨rfl, rfl⟩))
          go_round
          case rel => exact ⟨j + 1, by have := Hj.out; omega, by have := Hj.out; omega, by rw [hw]⟩
          case measure => have := Hj.out; simp [intOf]; omega
        · have hd1 : decide (j ≤ (nS : Int)) = false := decide_eq_false hjn
          clear hjn hj0 hj1
          go_wp2_with (first | (go_at_call 57; refine HS'.out.mono ?_; rintro e w1 ⟨rfl, rfl⟩))
          go_loop [11] (fun i => ∃ j : Int, -1 ≤ j ∧ j ≤ nM + 1 ∧ i = .int .i64 j) (fun i => (nM + 1 - intOf i).toNat)
          case atStart => exact ⟨-1, by omega, by omega, rfl⟩
          case round =>
            obtain ⟨j, hj0, hj1, rfl⟩ := hrel
            by_cases hjn : j ≤ (nM : Int)
            · have hd1 : decide (j ≤ (nM : Int)) = true := decide_eq_true hjn
              have hw : wrap64 (j + 1) = j + 1 := by have := Hb.out; unfold wrap64; omega
              have Hj := Lib.hid (And.intro hj0 hjn)
              obtain ⟨t, e0, hl1, hl2⟩ := HR.out j
              have HLj := Lib.hid hl1
              have HLj' := Lib.hid hl2
              clear hj0 hj1 hjn hl1 hl2
              go_wp2_with (first | (go_at_call 57; refine HS'.out.mono ?_; rintro e w1 ⟨rfl, rfl⟩) | (go_at_call 35; refine HLj.out.mono ?_; rintro e w1 ⟨rfl, rfl⟩) | (go_at_call 41; refine HLj'.out.mono ?_; rintro e w1 ⟨rfl, rfl⟩))
              go_round
              case rel => exact ⟨j + 1, by have := Hj.out; omega, by have := Hj.out; omega, by rw [hw]⟩
              case measure => have := Hj.out; simp [intOf]; omega
            · have hd1 : decide (j ≤ (nM : Int)) = false := decide_eq_false hjn
              clear hjn hj0 hj1
              go_wp2_with (first | (go_at_call 57; refine HS'.out.mono ?_; rintro e w1 ⟨rfl, rfl⟩))
              obtain ⟨Im, hIm⟩ : ∃ Im, D.M.map Sec.now = Im := ⟨_, rfl⟩
              have hIl : Im.length ≤ 4096 := by rw [← hIm, List.length_map]; have := Hb.out; have := HnM.out; omega
              have HIm := Lib.hid hIm
              have HIl := Lib.hid hIl
              clear hIm hIl
              refine (dImage_any Hd.out (by have := Hb.out; have := HnM.out; omega)).mono ?_
              rintro e w2 ⟨v1, rfl, hT1⟩
              rw [HIm.out] at hT1
              have hI1 := Img.fresh hT1 Hd.out
              obtain ⟨A1, k1, b1, rfl, hs1⟩ := Texts.strAt hI1.texts
              have hk2 := Lib.hid (Hk.out.below hT1.2.2)
              have hs1' := Lib.hid hs1
              have hb1 := Lib.hid hT1.2.2
              clear hT1 hI1 hs1
              go_wp2_with fail
              refine (rdImage_any hk2.out (by have := Hb.out; have := HnM.out; omega)).mono ?_
              rintro e w3 ⟨v2, rfl, hT2⟩
              rw [HIm.out] at hT2
              have hI2 := Img.rfresh hT2 hk2.out
              obtain ⟨A2, k2, b2, rfl, hs2⟩ := Texts.strAt hI2.texts
              have HSm := Lib.hid (sameTexts_any w3 A1 k1 b1 0 Im (hs1'.out.below hT2.2.2) A2 k2 b2 0 Im hs2 (by have := HIl.out; omega) (by have := HIl.out; omega))
              have hb2 := Lib.hid (hb1.out.trans (hT2.2.2.mono hb1.out.size))
              clear hT2 hI2 hs2
              go_wp2_with fail
              refine HSm.out.mono ?_
              rintro e w4 ⟨rfl, hB⟩
              have hb3 := Lib.hid (hb2.out.trans (hB.mono hb2.out.size))
              clear hB
              go_wp2_with fail
              go_ret
              exact ⟨by simp, hb3.out⟩
end
end Go.Proofs.YtcifkahmeimniaaGreat
