/-
  The walks of layer 24 (sector): the specification's Join at every list; the sanity of every statement.
-/
import Derived.Test.YtcifkahmeimniabDoorSecW12
import Derived.Test.YtcifkahmeimniabDoorSecZ
namespace Go.Proofs.YtcifkahmeimniabDoor
open Go.RowKit Go.Shelf
attribute [local go_sem] Oper.semAt_some

theorem below_drewN {B : Nat} {a w : World} (h : Below B a w) (q : Nat) : Below B a (w.drewN q) := ⟨h.os, h.tape, h.output, h.size, h.block⟩
theorem rJoin_any {w : World} {v : Value} {l : List ByteArray} (h : StrsAt w v l) :
    Calls Tryd.prog 19 #[v] w fun e w' => e = .returned (joinA (joinE l)) ∧ Below w.heap.size w w' := by
  obtain ⟨A, c, rfl, hc, hm, hat⟩ := h
  cases l with
  | nil => exact rjoin_nil A c
  | cons s0 r =>
    obtain ⟨b, o, rfl, hb, hcell⟩ := hat (by simp)
    have hc0 : w.cell? ⟨b, o, none⟩ = some (.string s0) := hcell 0 s0 rfl
    have hlen : (s0 :: r).length ≤ maxLen := Nat.le_trans hc hm
    rcases openE_cases s0 with ⟨p, hsz, hop, hE⟩ | ⟨hno, ev, hev, hE⟩
    · obtain ⟨f1, f2, f3⟩ := openL_facts hop
      have hsz' : s0.data.toList.length = 64 := by rw [Array.length_toList]; exact hsz
      by_cases hp : p.part = 0
      · have hE' : openE s0 = (partVal p.number 0 p.left ⟨p.text.toArray⟩, 0) := by rw [hE, hp]; rfl
        by_cases hs : (s0 :: r).length < countN p.left
        · have hj : joinE (s0 :: r) = ⟨0, [], 0, 7⟩ := by
            unfold joinE joinL
            rw [List.map_cons]
            dsimp only
            rw [if_pos hsz', hop]
            dsimp only
            rw [if_pos hp, if_pos (by simpa using hs)]
          rw [hj]
          exact rjoin_short b o _ c (by simp) s0 hb hc0 p.number p.left _ hE' f1 hs hlen
        · refine rjoin_loop b o c (s0 :: r) s0 hc0 p.number p.left _ hE' f1 f2 (by omega) hc hm hb hcell _ ?_
          unfold joinE joinL
          rw [List.map_cons]
          dsimp only
          rw [if_pos hsz', hop]
          dsimp only
          rw [if_pos hp, if_neg (by simpa using hs)]
          rfl
      · have hj : joinE (s0 :: r) = ⟨0, [], 0, 11⟩ := by
          unfold joinE joinL
          rw [List.map_cons]
          dsimp only
          rw [if_pos hsz', hop]
          dsimp only
          rw [if_neg hp]
        rw [hj]
        exact rjoin_first b o _ c (by simp) s0 hb hc0 p.number p.part p.left _ 0 hE (.inr (by omega)) hlen
    · have hj : joinE (s0 :: r) = ⟨0, [], 0, 11⟩ := by
        unfold joinE joinL
        rw [List.map_cons]
        dsimp only
        rcases hno with h | h
        · rw [if_neg (by rw [Array.length_toList]; exact h)]
        · rw [h]
          split <;> rfl
      rw [hj]
      exact rjoin_first b o _ c (by simp) s0 hb hc0 0 0 0 _ ev hE (.inl hev) hlen

/-! ### What every statement plays first -/
/-- The one sector of the record "ab". -/
def abSec : ByteArray := secText 5 ⟨#[97, 98]⟩ 0
theorem secText_list (number : Nat) (rec : ByteArray) (i : Nat) : (secText number rec i).data.toList = packAt number rec.data.toList i := by simp [secText]
theorem secText_size (number : Nat) (rec : ByteArray) (i : Nat) : (secText number rec i).size = 64 := by
  unfold secText; rw [mk_size, packAt_len]
theorem openE_pack (number : Nat) (rec : ByteArray) (i : Nat) (h1 : 1 ≤ number) (h2 : number ≤ mostN) (hr : rec.size ≤ 8000) (hi : i < countN rec.size) :
    openE (secText number rec i) = (partVal number i ((rec.size - 44 * i : Nat) : Int) ⟨((rec.data.toList.drop (44 * i)).take 44).toArray⟩, 0) := by
  have hl : rec.data.toList.length = rec.size := Array.length_toList
  unfold openE
  rw [if_pos (secText_size _ _ _), secText_list, open_pack number rec.data.toList i h1 h2 (by rw [hl]; exact hr) (by rw [hl]; exact hi), hl]
theorem joinE_ab : joinE [abSec] = ⟨5, [97, 98], 1, 0⟩ := by
  have := join_pack 5 [97, 98] [] (by decide) (by unfold mostN; decide) (by decide)
  rw [List.append_nil] at this
  have e : [abSec].map (fun s => s.data.toList) = packL 5 [97, 98] := by
    unfold abSec
    rw [List.map_cons, List.map_nil, secText_list]
    rfl
  unfold joinE
  rw [e, this]
  rfl
theorem openE_ab : openE abSec = (partVal 5 0 2 ⟨#[97, 98]⟩, 0) := openE_pack 5 ⟨#[97, 98]⟩ 0 (by decide) (by unfold mostN; decide) (by decide) (by decide)
theorem openE_zero : openE ⟨(List.replicate 64 (0 : UInt8)).toArray⟩ = (partVal 0 0 0 ⟨#[]⟩, 7) := by
  unfold openE
  rw [if_pos (by rw [mk_size]; rfl)]
  have : openL (⟨(List.replicate 64 (0 : UInt8)).toArray⟩ : ByteArray).data.toList = none := open_zero
  rw [this]
theorem packE_ab : packE 5 ⟨#[97, 98]⟩ = ([abSec], 0) := by
  unfold packE
  rw [if_neg (by decide), if_neg (by decide)]
  rfl
theorem join_at {w : World} {v : Value} {l : List ByteArray} {n u : Nat} {t : List UInt8} {e : Int} (h : StrsAt w v l) (hj : joinE l = ⟨n, t, u, e⟩) : Calls Tryd.prog 18 #[v] w fun e2 w' => e2 = .returned (.tuple #[.int .i64 n, .string ⟨t.toArray⟩, .int .i64 u, .int .i64 e]) ∧ Below w.heap.size w w' := by
  have := Join_any h
  rw [hj] at this
  exact this
theorem join_none (w : World) : Calls Tryd.prog 18 #[.slice none 0 0] w fun e2 w' => e2 = .returned (.tuple #[.int .i64 0, .string ⟨#[]⟩, .int .i64 0, .int .i64 11]) ∧ Below w.heap.size w w' := join_nil none 0
theorem pack_ab (w : World) : Calls Tryd.prog 10 #[.int .i64 5, .string ⟨#[97, 98]⟩] w fun e w' => ∃ g c, e = .returned (.tuple #[.slice (some ⟨g, 0, none⟩) 1 c, .int .i64 0]) ∧ StrsAt w' (.slice (some ⟨g, 0, none⟩) 1 c) [abSec] ∧ w'.cell? ⟨g, 0, none⟩ = some (.string abSec) ∧ g < w'.heap.size ∧ Below w.heap.size w w' := by
  refine (pack_any w 5 ⟨#[97, 98]⟩).mono ?_
  rintro e w' ⟨v, rfl, h1, h2, h3⟩
  rw [packE_ab] at h1 h2 ⊢
  rcases h1.2 with ⟨_, h0⟩ | ⟨g, cap, cur, rfl, _, hg, _⟩
  · cases h0
  · have hs := strsAt_of_row h1
    obtain ⟨b, o, e1, e2⟩ := hs.at.2.2 0 abSec rfl
    cases e1
    exact ⟨g, cap, rfl, hs, e2, Blk.lt hg, h3⟩
theorem ab_head : (abSec.extract 0 14).toList = [5, 0, 0, 0, 0, 0, 0, 0, 0, 0, 2, 0, 97, 98] := by
  rw [toList_data, ext_list]
  unfold abSec
  rw [secText_list]
  decide
theorem ab_tail : (abSec.extract 55 57).toList = [0, 5] := by
  rw [toList_data, ext_list]
  unfold abSec
  rw [secText_list]
  decide
set_option maxRecDepth 100000 in
set_option maxHeartbeats 4000000 in
theorem sanity_true (w : World) : Calls Tryd.prog 9 #[] w fun e w' => e = .returned (.bool true) ∧ Below w.heap.size w w' := by
  have hmk : ∀ w, (Instr.makeSlice 42 (.int .i64 64) (.int .i64 64)).run Tryd.prog w = .ok (.slice (some ⟨World.heap w |>.size, 0, none⟩) 64 64) (w.alloc (.cells (Array.replicate 64 (Value.int .u8 0)) 5)) := fun w => make_zero 64 (by decide) w
  have hcva := fun w => zat_conv (zat_new 64 w)
  have hcnt : countZ 45 = 2 := by decide
  have HJ := Lib.hid joinE_ab
  have HO1 := fun w => Lib.hid (open_at openE_ab w)
  have HO2 := fun w => Lib.hid (open_at openE_zero w)
  have hh := ab_head
  have ht := ab_tail
  have hsz : abSec.size = 64 := secText_size _ _ _
  obtain ⟨S, hS⟩ : ∃ S, abSec = S := ⟨_, rfl⟩
  obtain ⟨Z, hZ⟩ : ∃ Z : ByteArray, ⟨(List.replicate 64 (0 : UInt8)).toArray⟩ = Z := ⟨_, rfl⟩
  rw [hZ] at HO2
  have hcvb : ∀ w, (convert 42 9 (.slice (some ⟨World.heap w |>.size, 0, none⟩) 64 64)).run Tryd.prog (w.alloc (.cells (Array.replicate 64 (Value.int .u8 0)) 5)) = .ok (.string Z) (w.alloc (.cells (Array.replicate 64 (Value.int .u8 0)) 5)) := fun w => by rw [← hZ]; exact hcva w
  clear hcva hZ
  have HP := fun w => Lib.hid (pack_ab w)
  rw [hS] at hh ht HO1 HJ hsz
  rw [hS] at HP
  clear hS
  go_enter Tryd.func9, Tryd.ntmps9
  go_wp2_with (first
    | (go_at_call 10; refine (HP _).out.mono ?_; rintro e w1 ⟨g, c, rfl, hS1, hc1, hg1, hB1⟩)
    | (go_at_call_of 18 (Value.slice none 0 0); refine (join_none _).mono ?_; rintro e w5 ⟨rfl, hB5⟩; have k15 := bel_trans (below_grow k14 _) hB5; have hc5 := (k15.cell (p := ⟨g, 0, none⟩) hg1).trans hc1; have b75 := (b74.alloc (.cells #[.int .i64 0, .int .i64 0, .int .i64 0, .string ⟨#[]⟩] 28)).below hB5 (b74.alloc _).lt; have y0 := b75.cell 0; have y1 := b75.cell 1; have y2 := b75.cell 2; have y3 := b75.cell 3)
    | (go_at_call 18; refine (join_at hS1 HJ.out).mono ?_; rintro e w2 ⟨rfl, hB2⟩; have hc2 := (hB2.cell (p := ⟨g, 0, none⟩) hg1).trans hc1)
    | (go_at_call_of 12 S; refine (HO1 _).out.mono ?_; rintro e w3 ⟨rfl, hB3⟩; have k13 := bel_trans hB2 hB3; have b7 := Blk.new w3 28 #[.int .i64 5, .int .i64 0, .int .i64 2, .string ⟨#[97, 98]⟩]; have hcv3 := hcvb (w3.alloc (.cells #[.int .i64 5, .int .i64 0, .int .i64 2, .string ⟨#[97, 98]⟩] 28)); rw [World.size_alloc] at hcv3)
    | (go_at_call_of 12 Z; refine (HO2 _).out.mono ?_; rintro e w4 ⟨rfl, hB4⟩; have k14 := bel_trans (below_grow (below_grow k13 _) _) hB4; have b74 := (b7.alloc (.cells (Array.replicate 64 (Value.int .u8 0)) 5)).below hB4 (b7.alloc _).lt)
    | (go_at_call 14; refine (count_any _ _).mono ?_; rintro e w6 ⟨rfl, rfl⟩))
  go_ret
  exact ⟨rfl, hB1.trans (k15.mono hB1.size)⟩
end Go.Proofs.YtcifkahmeimniabDoor
