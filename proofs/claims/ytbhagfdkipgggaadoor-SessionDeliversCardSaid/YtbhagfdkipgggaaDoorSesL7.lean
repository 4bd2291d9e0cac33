/-
  Layer 29 (session): the law of the delivery.
-/
import Derived.Test.YtbhagfdkipgggaaDoorMB
import Derived.Test.YtbhagfdkipgggaaDoorMS
import Derived.Test.YtbhagfdkipgggaaDoorR29H4
import Derived.Test.YtbhagfdkipgggaaDoorSanW4
import Derived.Test.YtbhagfdkipgggaaDoorMY
import Derived.Deep.Cut
namespace Go.Proofs.YtbhagfdkipgggaaDoor
open Go.RowKit Go.Shelf
attribute [local go_sem] Oper.semAt_some
/-- Bytes that come in, if there are any. -/
def BytesS (w : World) (A : Option Addr) (l : List UInt8) : Prop := l = [] ∨ ∃ g o, A = some ⟨g, o, none⟩ ∧ BytesAt w g o l
theorem BytesS.at_ {w : World} {A : Option Addr} {l : List UInt8} (h : BytesS w A l) (i : Nat) (x : UInt8) (hx : l[i]? = some x) : ∃ g o, A = some ⟨g, o, none⟩ ∧ g < w.heap.size ∧ w.cell? ⟨g, o + i, none⟩ = some (.int .u8 (x.toNat : Int)) := by
  rcases h with rfl | ⟨g, o, rfl, h1, h2⟩
  · simp at hx
  · exact ⟨g, o, rfl, h1, h2 i x hx⟩
theorem blk_set7_other {w : World} {g g' : Nat} {t : TypeId} {cs : Array Value} (h : Blk w g t cs) (hne : g ≠ g') (x0 x1 x2 x3 x4 x5 x6 : Value) : Blk (((((((w.setCell ⟨g', 0, none⟩ x0).setCell ⟨g', 1, none⟩ x1).setCell ⟨g', 2, none⟩ x2).setCell ⟨g', 3, none⟩ x3).setCell ⟨g', 4, none⟩ x4).setCell ⟨g', 5, none⟩ x5).setCell ⟨g', 6, none⟩ x6) g t cs :=
  (((((((h.other (a := ⟨g', 0, none⟩) hne _).other (a := ⟨g', 1, none⟩) hne _).other (a := ⟨g', 2, none⟩) hne _).other (a := ⟨g', 3, none⟩) hne _).other (a := ⟨g', 4, none⟩) hne _).other (a := ⟨g', 5, none⟩) hne _).other (a := ⟨g', 6, none⟩) hne _)
theorem below_set7 {B : Nat} {a w : World} {g : Nat} (h : Below B a w) (hg : B ≤ g) (x0 x1 x2 x3 x4 x5 x6 : Value) : Below B a (((((((w.setCell ⟨g, 0, none⟩ x0).setCell ⟨g, 1, none⟩ x1).setCell ⟨g, 2, none⟩ x2).setCell ⟨g, 3, none⟩ x3).setCell ⟨g, 4, none⟩ x4).setCell ⟨g, 5, none⟩ x5).setCell ⟨g, 6, none⟩ x6) :=
  (((((((h.setCell (p := ⟨g, 0, none⟩) hg _).setCell (p := ⟨g, 1, none⟩) hg _).setCell (p := ⟨g, 2, none⟩) hg _).setCell (p := ⟨g, 3, none⟩) hg _).setCell (p := ⟨g, 4, none⟩) hg _).setCell (p := ⟨g, 5, none⟩) hg _).setCell (p := ⟨g, 6, none⟩) hg _)
theorem num_in (k : Nat) (h : k < 12) : -9223372036854775808 ≤ (k : Int) + 1 ∧ (k : Int) + 1 < 9223372036854775808 := by omega
theorem num_in2 (k : Nat) (h : k < 12) : -9223372036854775808 ≤ (k : Int) + 1 + 100 ∧ (k : Int) + 1 + 100 < 9223372036854775808 := by omega
theorem int_lt12 (k : Nat) (h : k < 12) : (k : Int) < 12 := by omega
theorem int_lt40 (k : Nat) (h : k < 40) : (k : Int) < 40 := by omega
theorem in_range (r m : Nat) (h : r < m) : 1 ≤ 1 + (r : Int) ∧ 1 + (r : Int) ≤ (m : Int) := by omega
theorem rem_plain (b m : Nat) (hm : 0 < m) (hb : b < 256) : wrap64 (1 + (wrap64 (b : Int)).tmod (m : Int)) = 1 + ((b % m : Nat) : Int) := by
  have h1 : wrap64 (b : Int) = (b : Int) := by rw [wrap64]; omega
  have h2 : b % m < 256 := Nat.lt_of_le_of_lt (Nat.mod_le _ _) hb
  have h3 : (b : Int).tmod (m : Int) = ((b % m : Nat) : Int) := by rw [Int.tmod_eq_emod_of_nonneg (by omega)]; rfl
  rw [h1, h3, wrap64]
  omega
theorem u8_succ (b : UInt8) (k : Nat) (hk : k < 256) : (((b.toNat : Int) + (k : Int)) % 256) = (((b + UInt8.ofNat k).toNat : Nat) : Int) := by
  rw [UInt8.toNat_add, UInt8.toNat_ofNat', Nat.mod_eq_of_lt (a := k) (by omega)]
  omega
set_option maxRecDepth 100000 in
set_option maxHeartbeats 100000000 in
theorem law_delivers (w : World) (b : UInt8) (A Ao : Option Addr) (c co n m : Nat) (l : List ByteArray) (ol : List UInt8) (back : Bool) (hK : KAt w 1) (hK2 : KAt w 0) (hA : TextsAt w A l) (hO : BytesS w Ao ol) (hn : l.length = n) (hm : ol.length = m) :
    Calls Tryd.prog 7 #[.int .u8 (b.toNat : Int), .slice A n c, .slice Ao m co, .bool back] w fun e w' => e = .returned (.bool true) ∧ Below w.heap.size w w' := by
  have HSA : Hid (∀ wx, Below w.heap.size w wx → Calls Tryd.prog 10 #[] wx fun e w' => e = .returned (.bool true) ∧ Below wx.heap.size wx w') := fun wx hB => sanity_any wx (hK.below hB)
  have HA := Lib.hid hA
  have HO := Lib.hid hO
  have HK := Lib.hid hK
  have HK2 := Lib.hid hK2
  obtain ⟨KT, hKT⟩ : ∃ T, txt (textL 32 b) = T := ⟨_, rfl⟩
  obtain ⟨AT, hAT⟩ : ∃ T, txt (textL 16 (b + UInt8.ofNat 1)) = T := ⟨_, rfl⟩
  obtain ⟨BT, hBT⟩ : ∃ T, txt (textL 16 (b + UInt8.ofNat 2)) = T := ⟨_, rfl⟩
  obtain ⟨z1, hz1⟩ : ∃ z : Int, (((b + UInt8.ofNat 1).toNat : Nat) : Int) = z := ⟨_, rfl⟩
  obtain ⟨z2, hz2⟩ : ∃ z : Int, (((b + UInt8.ofNat 2).toNat : Nat) : Int) = z := ⟨_, rfl⟩
  have hu1 : ((b.toNat : Int) + 1) % 256 = z1 := by rw [← hz1]; exact u8_succ b 1 (by decide)
  have hu2 : ((b.toNat : Int) + 2) % 256 = z2 := by rw [← hz2]; exact u8_succ b 2 (by decide)
  have HT1 : Hid (∀ wx, Calls Tryd.prog 37 #[.int .i64 32, .int .u8 (b.toNat : Int)] wx fun e w' => e = .returned (.string KT) ∧ Below wx.heap.size wx w') := fun wx => text_any' 32 b KT hKT (by decide) _ rfl wx
  have HT2 : Hid (∀ wx, Calls Tryd.prog 37 #[.int .i64 16, .int .u8 z1] wx fun e w' => e = .returned (.string AT) ∧ Below wx.heap.size wx w') := fun wx => text_any' 16 _ AT hAT (by decide) _ hz1 wx
  have HT3 : Hid (∀ wx, Calls Tryd.prog 37 #[.int .i64 16, .int .u8 z2] wx fun e w' => e = .returned (.string BT) ∧ Below wx.heap.size wx w') := fun wx => text_any' 16 _ BT hBT (by decide) _ hz2 wx
  obtain ⟨r, hr⟩ : ∃ r, b.toNat % 3 = r := ⟨_, rfl⟩
  obtain ⟨q, hq⟩ : ∃ q, b.toNat % 64 = q := ⟨_, rfl⟩
  have hr3 : r < 3 := hr ▸ Nat.mod_lt _ (by decide)
  have hq64 : q < 64 := hq ▸ Nat.mod_lt _ (by decide)
  have hbb := b.toNat_lt
  have hmr : Hid (wrap64 (1 + (wrap64 (b.toNat : Int)).tmod 3) = 1 + (r : Int)) := by unfold Hid; rw [← hr]; exact rem_plain b.toNat 3 (by decide) hbb
  have hmq : Hid (wrap64 (1 + (wrap64 (b.toNat : Int)).tmod 64) = 1 + (q : Int)) := by unfold Hid; rw [← hq]; exact rem_plain b.toNat 64 (by decide) hbb
  obtain ⟨H, Wl, K, hKs, g1, g2, g3, g4, g5⟩ := meet_plain KT AT BT (1 + (r : Int)) (1 + (q : Int)) (by rw [← hKT, txt_size, textL_len]) (in_range r 3 hr3) (in_range q 64 hq64) (by rw [← hAT, txt_size, textL_len]) (by rw [← hBT, txt_size, textL_len])
  have HME : Hid (∀ wx, Below w.heap.size w wx → Calls Tryd.prog 36 #[.string KT, .int .i64 (wrap64 (1 + (wrap64 (b.toNat : Int)).tmod 3)), .int .i64 (wrap64 (1 + (wrap64 (b.toNat : Int)).tmod 64)), .string AT, .string BT] wx fun e w' => e = .returned (.agg #[.int .i64 (1 + (q : Int)), .int .i64 (1 + (r : Int)), .int .i64 1, .string K, .int .i64 0, .int .i64 0, .int .u64 0, .int .i64 (1 + (q : Int)), .int .i64 (1 + (r : Int)), .int .i64 2, .string K, .int .i64 0, .int .i64 0, .int .u64 0, .bool true]) ∧ Below wx.heap.size wx w') := fun wx hB => by
    rw [hmr.out, hmq.out]
    exact meet_any wx KT AT BT (1 + (r : Int)) (1 + (q : Int)) H _ _ Wl (hK.below hB) g1 g2 g3 g4 g5
  have hone15 : Hid ((#[.int .i64 (1 + (q : Int)), .int .i64 (1 + (r : Int)), .int .i64 1, .string K, .int .i64 0, .int .i64 0, .int .u64 0, .int .i64 (1 + (q : Int)), .int .i64 (1 + (r : Int)), .int .i64 2, .string K, .int .i64 0, .int .i64 0, .int .u64 0, .bool true] : Array Value).all (·.oneCell') = true) := by
    refine all_oneCell_toArray (fun v hv => ?_)
    simp only [List.mem_cons, List.not_mem_nil, or_false] at hv
    rcases hv with rfl | rfl | rfl | rfl | rfl | rfl | rfl | rfl | rfl | rfl | rfl | rfl | rfl | rfl | rfl <;> rfl
  have hKsH := Lib.hid hKs
  have hmH := Lib.hid hm
  have hr3H := Lib.hid hr3
  have hq64H := Lib.hid hq64
  clear hbb hr3 hq64 hKT hAT hBT hz1 hz2 hr hq g1 g2 g3 g4 g5 hK hK2 hA hO hKs hm
  go_enter Tryd.func7, Tryd.ntmps7
  by_cases h12 : n ≤ 12
  · have d1 : decide ((12 : Int) < (n : Int)) = false := decide_eq_false (by omega)
    by_cases h40 : m ≤ 40
    · have d2 : decide ((40 : Int) < (m : Int)) = false := decide_eq_false (by omega)
      have h12H := Lib.hid h12
      have h40H := Lib.hid h40
      clear h12 h40
      have hlen : Hid (l.length = n) := hn
      go_wp2_with (first | (go_at_call 10; refine (HSA.out _ (Below.refl _ _)).mono ?_; rintro e w1 ⟨rfl, hB⟩; have HB1 := Lib.hid hB; clear hB) | fail)
      go_loopw [10] (fun v wr => ∃ t : Nat, v = .int .i64 t ∧ Hid (t ≤ n) ∧ Hid (Below w.heap.size w wr) ∧ Hid (∀ j x, j < t → l[j]? = some x → x.size ≤ 200)) (fun v _ => n - (intOf v).toNat)
      case atStart => exact ⟨0, rfl, Nat.zero_le _, HB1, fun j x hj => absurd hj (Nat.not_lt_zero _)⟩
      case round =>
        clear HB1
        obtain ⟨t, rfl, ht, hB, hall⟩ := hrel
        by_cases hlt : t < n
        · have d1 : decide (t < n) = true := decide_eq_true hlt
          have d2 : decide ((t : Int) < (n : Int)) = true := decide_eq_true (by omega)
          obtain ⟨x, hx⟩ : ∃ x, l[t]? = some x := ⟨_, List.getElem?_eq_getElem (by rw [hlen.out]; exact hlt)⟩
          obtain ⟨g, o, hAe, hgl, hcell⟩ := HA.out.at_ t x hx
          have cx : wr.cell? ⟨g, o + t, none⟩ = some (.string x) := (hB.out.cell (p := ⟨g, o + t, none⟩) hgl).trans hcell
          have hix : ∀ wx, (Instr.indexAt 64 (.slice A n c) (.int .i64 t)).run Tryd.prog wx = .ok (.pointer (some ⟨g, o + t, none⟩)) wx := fun wx => by
            rw [hAe]
            exact strs_index wx g o n c t hlt
          by_cases h200 : x.size ≤ 200
          · have d3 : decide ((200 : Int) < (x.size : Int)) = false := decide_eq_false (by omega)
            have hall2 : Hid (∀ j y, j < t + 1 → l[j]? = some y → y.size ≤ 200) := fun j y hj hy => by
              by_cases e : j = t
              · subst e
                rw [hx] at hy
                cases hy
                exact h200
              · exact hall.out j y (by omega) hy
            have hltH := Lib.hid hlt
            have tb : (t : Int) < 12 := by have := h12H.out; omega
            clear hx hcell hAe hall h200
            go_wp2_with fail
            refine ⟨⟨t + 1, by go_num, hltH.out, hB.out, hall2.out⟩, ?_⟩
            have := hltH.out
            simp [intOf]
            omega
          · have d3 : decide ((200 : Int) < (x.size : Int)) = true := decide_eq_true (by omega)
            clear hx hcell hAe hall h200
            go_wp2_with fail
            go_ret
            exact ⟨rfl, hB.out⟩
        · have d1 : decide (t < n) = false := decide_eq_false hlt
          have d2 : decide ((t : Int) < (n : Int)) = false := decide_eq_false (by omega)
          have et : t = n := Nat.le_antisymm ht (Nat.le_of_not_lt hlt)
          have hall2 : Hid (∀ (j : Nat) (x : ByteArray), l[j]? = some x → x.size ≤ 200) := fun j x hx => hall.out j x (by have := (List.getElem?_eq_some_iff.1 hx).1; rw [hlen.out] at this; omega) hx
          clear et hall
          obtain ⟨wo, rfl⟩ : ∃ wo, wo = wr := ⟨_, rfl⟩
          go_upto_region 10 with (first
            | (go_at_call 36; refine (HME.out _ HB5.out).mono ?_; rintro e w6 ⟨rfl, hB⟩; have HB6 := Lib.hid (HB5.out.trans (hB.mono HB5.out.size)); clear hB)
            | (go_at_call 37; have hmk := HB4; clear hmk; refine (HT3.out _).mono ?_; rintro e w5 ⟨rfl, hB⟩; have HB5 := Lib.hid (HB4.out.trans (hB.mono HB4.out.size)); clear hB)
            | (go_at_call 37; have hmk := HB3; clear hmk; refine (HT2.out _).mono ?_; rintro e w4 ⟨rfl, hB⟩; have HB4 := Lib.hid (HB3.out.trans (hB.mono HB3.out.size)); clear hB)
            | (go_at_call 37; refine (HT1.out _).mono ?_; rintro e w3 ⟨rfl, hB9⟩; have HB3 := Lib.hid (hB.out.trans (hB9.mono hB.out.size)); clear hB9)
            | (refine wpList_store_mid rfl 67 _ _ rfl w6.heap.size 0 #[.int .i64 (1 + (q : Int)), .int .i64 (1 + (r : Int)), .int .i64 1, .string K, .int .i64 0, .int .i64 0, .int .u64 0, .int .i64 (1 + (q : Int)), .int .i64 (1 + (r : Int)), .int .i64 2, .string K, .int .i64 0, .int .i64 0, .int .u64 0, .bool true] rfl rfl (there_of_blk (o := 0) (Blk.new w6 67 zEnds) (Nat.le_refl _)) infoEnds hone15.out ?_)
            | fail)
          try simp only [sA]
          refine world_is (P := fun W => Code.wp _ _ _ _ W) (fun W1 hW1 => ?_)
          have HE1 : Hid (Blk W1 w6.heap.size 67 #[.int .i64 (1 + (q : Int)), .int .i64 (1 + (r : Int)), .int .i64 1, .string K, .int .i64 0, .int .i64 0, .int .u64 0, .int .i64 (1 + (q : Int)), .int .i64 (1 + (r : Int)), .int .i64 2, .string K, .int .i64 0, .int .i64 0, .int .u64 0, .bool true]) := by unfold Hid; rw [← hW1]; exact blk_setWhole (Blk.new w6 67 zEnds) (#[.int .i64 (1 + (q : Int)), .int .i64 (1 + (r : Int)), .int .i64 1, .string K, .int .i64 0, .int .i64 0, .int .u64 0, .int .i64 (1 + (q : Int)), .int .i64 (1 + (r : Int)), .int .i64 2, .string K, .int .i64 0, .int .i64 0, .int .u64 0, .bool true] : Array Value).toList rfl
          have HB7 : Hid (Below w.heap.size w W1) := by unfold Hid; rw [← hW1]; exact below_setCells (g := w6.heap.size) HB6.out.size _ 0 _ (HB6.out.alloc HB6.out.size _)
          clear hW1 hu1 hu2 hmr hmq HT1 HT2 HT3 HME HB3 HB4 HB5 HB6 hB HSA hone15
          obtain ⟨gE, egE⟩ : ∃ g, w6.heap.size = g := ⟨_, rfl⟩
          rw [egE] at HE1 ⊢
          clear egE
          have e0 := HE1.out.cell 0
          have e1 := HE1.out.cell 1
          have e2 := HE1.out.cell 2
          have e3 := HE1.out.cell 3
          have e4 := HE1.out.cell 4
          have e5 := HE1.out.cell 5
          have e6 := HE1.out.cell 6
          have e7 := HE1.out.cell 7
          have e8 := HE1.out.cell 8
          have e9 := HE1.out.cell 9
          have e10 := HE1.out.cell 10
          have e11 := HE1.out.cell 11
          have e12 := HE1.out.cell 12
          have e13 := HE1.out.cell 13
          have e14 := HE1.out.cell 14
          have k1 : (K.toList == K.toList) = true := beq_self_eq_true _
          have k2 : (K.data.toList == K.data.toList) = true := beq_self_eq_true _
          go_upto_region 13 with fail
          refine world_is (P := fun W => Code.wp _ _ _ _ W) (fun Wm hWm => ?_)
          have HFm : Hid (Blk Wm W1.heap.size 32 #[.int .i64 (1 + (q : Int)), .int .i64 (1 + (r : Int)), .int .i64 1, .string K, .int .i64 0, .int .i64 0, .int .u64 0]) := by unfold Hid; rw [← hWm]; exact Blk.new _ _ _
          have HEm : Hid (Blk Wm gE 67 #[.int .i64 (1 + (q : Int)), .int .i64 (1 + (r : Int)), .int .i64 1, .string K, .int .i64 0, .int .i64 0, .int .u64 0, .int .i64 (1 + (q : Int)), .int .i64 (1 + (r : Int)), .int .i64 2, .string K, .int .i64 0, .int .i64 0, .int .u64 0, .bool true]) := by unfold Hid; rw [← hWm]; exact HE1.out.alloc _
          have HBm : Hid (Below w.heap.size w Wm) := by unfold Hid; rw [← hWm]; exact HB7.out.alloc HB7.out.size _
          have hEl : Hid (gE < W1.heap.size) := HE1.out.lt
          have hgw : Hid (w.heap.size ≤ W1.heap.size) := HB7.out.size
          obtain ⟨gF, egF⟩ : ∃ g, W1.heap.size = g := ⟨_, rfl⟩
          rw [egF] at HFm hgw hEl ⊢
          clear hWm egF HE1 HB7 e0 e1 e2 e3 e4 e5 e6 e7 e8 e9 e10 e11 e12 e13 e14 k1 k2
          have e7 := HEm.out.cell 7
          have e8 := HEm.out.cell 8
          have e9 := HEm.out.cell 9
          have e10 := HEm.out.cell 10
          have e11 := HEm.out.cell 11
          have e12 := HEm.out.cell 12
          have e13 := HEm.out.cell 13
          go_upto_region 14 with fail
          refine world_is (P := fun W => Code.wp _ _ _ _ W) (fun W2 hW2 => ?_)
          have HF2 : Hid (Blk W2 gF 32 #[.int .i64 (1 + (q : Int)), .int .i64 (1 + (r : Int)), .int .i64 1, .string K, .int .i64 0, .int .i64 0, .int .u64 0]) := by unfold Hid; rw [← hW2]; exact HFm.out.alloc _
          have HT2 : Hid (Blk W2 Wm.heap.size 32 #[.int .i64 (1 + (q : Int)), .int .i64 (1 + (r : Int)), .int .i64 2, .string K, .int .i64 0, .int .i64 0, .int .u64 0]) := by unfold Hid; rw [← hW2]; exact Blk.new _ _ _
          have HE2 : Hid (Blk W2 gE 67 #[.int .i64 (1 + (q : Int)), .int .i64 (1 + (r : Int)), .int .i64 1, .string K, .int .i64 0, .int .i64 0, .int .u64 0, .int .i64 (1 + (q : Int)), .int .i64 (1 + (r : Int)), .int .i64 2, .string K, .int .i64 0, .int .i64 0, .int .u64 0, .bool true]) := by unfold Hid; rw [← hW2]; exact HEm.out.alloc _
          have HB8 : Hid (Below w.heap.size w W2) := by unfold Hid; rw [← hW2]; exact HBm.out.alloc HBm.out.size _
          have hFT : Hid (gF < Wm.heap.size) := HFm.out.lt
          have hEl2 : Hid (gE < Wm.heap.size) := HEm.out.lt
          obtain ⟨gT, egT⟩ : ∃ g, Wm.heap.size = g := ⟨_, rfl⟩
          rw [egT] at HT2 hFT hEl2 ⊢
          have hEne : Hid (gE ≠ gF ∧ gE ≠ gT) := ⟨Nat.ne_of_lt hEl.out, Nat.ne_of_lt hEl2.out⟩
          clear hW2 egT HFm HEm HBm e7 e8 e9 e10 e11 e12 e13
          go_upto_if 108 with fail
          obtain ⟨sd, hsd⟩ : ∃ sd : Int, sd = (if back then 1 else 2) := ⟨_, rfl⟩
          go_cut [] from 34 (fun wx => Hid (Blk wx gF 32 #[.int .i64 (1 + (q : Int)), .int .i64 (1 + (r : Int)), .int .i64 (3 - sd), .string K, .int .i64 0, .int .i64 0, .int .u64 0]) ∧ Hid (Blk wx gT 32 #[.int .i64 (1 + (q : Int)), .int .i64 (1 + (r : Int)), .int .i64 sd, .string K, .int .i64 0, .int .i64 0, .int .u64 0]) ∧ Hid (Below w.heap.size w wx))
          case first =>
            have e0 := HE2.out.cell 0; have e1 := HE2.out.cell 1; have e2 := HE2.out.cell 2; have e3 := HE2.out.cell 3; have e4 := HE2.out.cell 4; have e5 := HE2.out.cell 5; have e6 := HE2.out.cell 6; have e7 := HE2.out.cell 7; have e8 := HE2.out.cell 8; have e9 := HE2.out.cell 9; have e10 := HE2.out.cell 10; have e11 := HE2.out.cell 11; have e12 := HE2.out.cell 12; have e13 := HE2.out.cell 13; have e14 := HE2.out.cell 14
            cases back with
            | true =>
              have hs1 : sd = 1 := hsd
              subst hs1
              clear hsd
              have f0 := HF2.out.frozen 0; have t0 := HT2.out.frozen 0; have ff0 := HF2.out.cell 0; have tt0 := HT2.out.cell 0; have f1 := HF2.out.frozen 1; have t1 := HT2.out.frozen 1; have ff1 := HF2.out.cell 1; have tt1 := HT2.out.cell 1; have f2 := HF2.out.frozen 2; have t2 := HT2.out.frozen 2; have ff2 := HF2.out.cell 2; have tt2 := HT2.out.cell 2; have f3 := HF2.out.frozen 3; have t3 := HT2.out.frozen 3; have ff3 := HF2.out.cell 3; have tt3 := HT2.out.cell 3; have f4 := HF2.out.frozen 4; have t4 := HT2.out.frozen 4; have ff4 := HF2.out.cell 4; have tt4 := HT2.out.cell 4; have f5 := HF2.out.frozen 5; have t5 := HT2.out.frozen 5; have ff5 := HF2.out.cell 5; have tt5 := HT2.out.cell 5; have f6 := HF2.out.frozen 6; have t6 := HT2.out.frozen 6; have ff6 := HF2.out.cell 6; have tt6 := HT2.out.cell 6
              have hne : gF ≠ gT := Nat.ne_of_lt hFT.out
              have hne2 : gT ≠ gF := fun h => hne h.symm
              have hneF : gE ≠ gF := hEne.out.1
              have hneT : gE ≠ gT := hEne.out.2
              go_wp2_with fail
              go_meet
              refine ⟨?_, ?_, ?_⟩
              · exact blk_set7_other (blk7_put HF2.out _ _ _ _ _ _ _) hne _ _ _ _ _ _ _
              · exact blk7_put (blk_set7_other HT2.out hne2 _ _ _ _ _ _ _) _ _ _ _ _ _ _
              · exact below_set7 (below_set7 HB8.out hgw.out _ _ _ _ _ _ _) (Nat.le_trans hgw.out (Nat.le_of_lt hFT.out)) _ _ _ _ _ _ _
            | false =>
              have hs1 : sd = 2 := hsd
              subst hs1
              clear hsd
              go_wp2_with fail
              go_meet
              exact ⟨HF2.out, HT2.out, HB8.out⟩
          case rest =>
            obtain ⟨HF3, HT3, HB3⟩ := hcut
            clear HF2 HT2 HE2 HB8 hEne hEl hEl2
            have hsd2 : sd = 1 ∨ sd = 2 := by rw [hsd]; cases back <;> simp
            clear hsd
            have hok := s0_ok q r sd K hq64H.out hr3H.out hsd2 hKsH.out
            obtain ⟨i0, hi0⟩ : ∃ z : Int, 1 + (q : Int) = z := ⟨_, rfl⟩
            obtain ⟨i1, hi1⟩ : ∃ z : Int, 1 + (r : Int) = z := ⟨_, rfl⟩
            obtain ⟨od, hod⟩ : ∃ z : Int, 3 - sd = z := ⟨_, rfl⟩
            rw [hi0, hi1] at HF3 HT3 hok
            rw [hod] at HF3
            obtain ⟨s0, hs0⟩ : ∃ s : Ses, s = ⟨i0, i1, sd, K, 0, 0, 0⟩ := ⟨_, rfl⟩
            rw [← hs0] at hok
            have hv0 := Lib.hid hok.1
            have hf0 := Lib.hid hok.2
            have h00 : Hid (s0.top = 0) := by unfold Hid; rw [hs0]
            have hside : Hid (s0.side = 1 ∨ s0.side = 2) := by unfold Hid; rw [hs0]; exact hsd2
            have hid0 : Hid (s0.id = i0) := by unfold Hid; rw [hs0]
            have HFS : Hid (∀ k : Nat, sesV (fromS s0 k) = .agg #[.int .i64 i0, .int .i64 i1, .int .i64 od, .string K, .int .i64 (k : Int), .int .i64 0, .int .u64 0]) := fun k => by
              rw [hs0, ← hod]
              rfl
            have HMC : Hid (∀ (k : Nat) (x : ByteArray), msgC (msgOf s0 k x) = [.int .i64 i0, .int .i64 ((k : Int) + 1), .string (msgOf s0 k x).text]) := fun k x => by
              rw [hs0]
              rfl
            have HSD : Hid (∀ (t : Nat) (x : ByteArray), t < 12 → x.size ≤ 200 → ∀ wx, Below w.heap.size w wx → Calls Tryd.prog 17 #[.agg #[.int .i64 i0, .int .i64 i1, .int .i64 od, .string K, .int .i64 (t : Int), .int .i64 0, .int .u64 0], .string x] wx fun e w' => e = .returned (.tuple #[.agg #[.int .i64 i0, .int .i64 i1, .int .i64 od, .string K, .int .i64 ((t + 1 : Nat) : Int), .int .i64 0, .int .u64 0], .agg #[.int .i64 i0, .int .i64 ((t : Int) + 1), .string (msgOf s0 t x).text], .int .i64 0]) ∧ Below wx.heap.size wx w') := fun t x ht hx wx hB => by
              have h := send_any wx (fromS s0 t) x (from_fits hf0.out hside.out t (by omega)) (by omega) (HK.out.below hB)
              rw [send_step s0 t x hv0.out (by omega), HFS.out t, HFS.out (t + 1)] at h
              unfold msgV at h
              rw [HMC.out t x] at h
              exact h
            have hTO : Hid ((sesC s0).toArray = #[.int .i64 i0, .int .i64 i1, .int .i64 sd, .string K, .int .i64 0, .int .i64 0, .int .u64 0]) := by unfold Hid; rw [hs0]; rfl
            clear hok hi0 hi1 hod hsd2
            go_wp2_with fail
            go_loopw [14, 15] (fun p v wr => ∃ t : Nat, v = .int .i64 t ∧ Hid (t ≤ n) ∧ Hid (wr.ownsRow (gT + 1) 42 3 p t (rowsM s0 l t)) ∧ Hid (Blk wr gF 32 #[.int .i64 i0, .int .i64 i1, .int .i64 od, .string K, .int .i64 (t : Int), .int .i64 0, .int .u64 0]) ∧ Hid (Blk wr gT 32 #[.int .i64 i0, .int .i64 i1, .int .i64 sd, .string K, .int .i64 0, .int .i64 0, .int .u64 0]) ∧ Hid (Below w.heap.size w wr)) (fun _ v _ => n - (intOf v).toNat)
            case atStart => exact ⟨0, rfl, Nat.zero_le _, World.ownsRow_nil _ _ _ 3, HF3, HT3, HB3⟩
            case round =>
              clear HF3 HT3 HB3
              obtain ⟨t, rfl, ht, hR, hF, hT, hB⟩ := hrel
              by_cases hlt : t < n
              · have d1 : decide (t < n) = true := decide_eq_true hlt
                have d2 : decide ((t : Int) < (n : Int)) = true := decide_eq_true (by omega)
                have tb : (t : Int) < 12 := by have := h12H.out; omega
                obtain ⟨x, hx⟩ : ∃ x, l[t]? = some x := ⟨_, List.getElem?_eq_getElem (by rw [hlen.out]; exact hlt)⟩
                obtain ⟨g, o, hAe, hgl, hcell⟩ := HA.out.at_ t x hx
                have hxs := Lib.hid (hall2.out t x hx)
                have HS : Hid (∀ wx, Below wr.heap.size wr wx →  wx.cell? ⟨g, o + t, none⟩ = some (.string x) ∧ wx.cell? ⟨gF, 0, none⟩ = some (.int .i64 i0) ∧ wx.cell? ⟨gF, 1, none⟩ = some (.int .i64 i1) ∧ wx.cell? ⟨gF, 2, none⟩ = some (.int .i64 od) ∧ wx.cell? ⟨gF, 3, none⟩ = some (.string K) ∧ wx.cell? ⟨gF, 4, none⟩ = some (.int .i64 (t : Int)) ∧ wx.cell? ⟨gF, 5, none⟩ = some (.int .i64 0) ∧ wx.cell? ⟨gF, 6, none⟩ = some (.int .u64 0)) := fun wx hB9 => ⟨((hB.out.trans (hB9.mono hB.out.size)).cell (p := ⟨g, o + t, none⟩) hgl).trans hcell, (hF.out.below hB9 hF.out.lt).cell 0, (hF.out.below hB9 hF.out.lt).cell 1, (hF.out.below hB9 hF.out.lt).cell 2, (hF.out.below hB9 hF.out.lt).cell 3, (hF.out.below hB9 hF.out.lt).cell 4, (hF.out.below hB9 hF.out.lt).cell 5, (hF.out.below hB9 hF.out.lt).cell 6⟩
                have hix : ∀ wx, (Instr.indexAt 64 (.slice A n c) (.int .i64 t)).run Tryd.prog wx = .ok (.pointer (some ⟨g, o + t, none⟩)) wx := fun wx => by
                  rw [hAe]
                  exact strs_index wx g o n c t hlt
                have HSD2 := Lib.hid (HSD.out t x (by omega) hxs.out)
                have hge : l.getD t noT = x := by rw [List.getD_eq_getElem?_getD, hx]; rfl
                have hsn : Hid (rowsM s0 l (t + 1) = rowsM s0 l t ++ msgC (msgOf s0 t x)) := by unfold Hid; rw [rowsM_succ, hge]
                have hmc := Lib.hid (HMC.out t x)
                obtain ⟨X, hX⟩ : ∃ X, (msgOf s0 t x).text = X := ⟨_, rfl⟩
                rw [hX] at HSD2 hmc
                have hone1 : Hid ((#[.int .i64 i0, .int .i64 i1, .int .i64 od, .string K, .int .i64 ((t + 1 : Nat) : Int), .int .i64 0, .int .u64 0] : Array Value).all (·.oneCell') = true) := all_oneCell_toArray (sesC_one ⟨i0, i1, od, K, ((t + 1 : Nat) : Int), 0, 0⟩)
                have hone2 : Hid ((#[.int .i64 i0, .int .i64 ((t : Int) + 1), .string X] : Array Value).all (·.oneCell') = true) := by
                  refine all_oneCell_toArray (fun v hv => ?_)
                  simp only [List.mem_cons, List.not_mem_nil, or_false] at hv
                  rcases hv with rfl | rfl | rfl <;> rfl
                have hltH := Lib.hid hlt
                clear hx hcell hAe hge hX
                go_upto_region 21 with fail
                go_cut [16, 17, 18] from 113 to 142 (fun p1 p2 v3 wx => ∃ g1 g2, p1 = .pointer (some ⟨g1, 0, none⟩) ∧ p2 = .pointer (some ⟨g2, 0, none⟩) ∧ v3 = .int .i64 0 ∧ Hid (wr.heap.size ≤ g1) ∧ Hid (wr.heap.size ≤ g2) ∧ Hid (Blk wx g1 32 #[.int .i64 i0, .int .i64 i1, .int .i64 od, .string K, .int .i64 ((t + 1 : Nat) : Int), .int .i64 0, .int .u64 0]) ∧ Hid (Blk wx g2 42 #[.int .i64 i0, .int .i64 ((t : Int) + 1), .string X]) ∧ Hid (Below wr.heap.size wr wx))
                case first => as_aux_lemma =>
                  refine wp_region_held_drew (S := (fun wx => wx.cell? ⟨g, o + t, none⟩ = some (.string x) ∧ wx.cell? ⟨gF, 0, none⟩ = some (.int .i64 i0) ∧ wx.cell? ⟨gF, 1, none⟩ = some (.int .i64 i1) ∧ wx.cell? ⟨gF, 2, none⟩ = some (.int .i64 od) ∧ wx.cell? ⟨gF, 3, none⟩ = some (.string K) ∧ wx.cell? ⟨gF, 4, none⟩ = some (.int .i64 (t : Int)) ∧ wx.cell? ⟨gF, 5, none⟩ = some (.int .i64 0) ∧ wx.cell? ⟨gF, 6, none⟩ = some (.int .u64 0))) (by kernel_rfl) (HS.out _ (Below.refl _ wr).drew) (fun hHeld => ?_)
                  refine' wpAnyH_take (i := 0) (v := ?v0yr) rfl (by kernel_rfl) (by kernel_rfl) (by kernel_rfl) (fun _ _ _ h => h) (Or.inl ⟨by rfl, ?hy0yr⟩) hHeld ?rest0yr
                  case hy0yr => intro w hSw; (try dsimp only at hSw); go_simp; all_goals with_reducible rfl
                  try simp only [sA, gA]
                  refine' wpAnyH_take (i := 1) (v := ?v1yr) rfl (by kernel_rfl) (by kernel_rfl) (by kernel_rfl) (fun _ _ _ h => h) (Or.inl ⟨by rfl, ?hy1yr⟩) hHeld ?rest1yr
                  case hy1yr => intro w hSw; (try dsimp only at hSw); go_simp; all_goals with_reducible rfl
                  try simp only [sA, gA]
                  refine' wpAnyH_take (i := 2) (v := ?v2yr) rfl (by kernel_rfl) (by kernel_rfl) (by kernel_rfl) (fun _ _ _ h => h) (Or.inl ⟨by rfl, ?hy2yr⟩) hHeld ?rest2yr
                  case hy2yr => intro w hSw; (try dsimp only at hSw); go_simp; all_goals with_reducible rfl
                  try simp only [sA, gA]
                  refine' wpAnyH_take (i := 3) (v := ?v3yr) rfl (by kernel_rfl) (by kernel_rfl) (by kernel_rfl) (fun _ _ _ h => h) (Or.inl ⟨by rfl, ?hy3yr⟩) hHeld ?rest3yr
                  case hy3yr => intro w hSw; (try dsimp only at hSw); go_simp; all_goals with_reducible rfl
                  try simp only [sA, gA]
                  refine' wpAnyH_take (i := 4) (v := ?v4yr) rfl (by kernel_rfl) (by kernel_rfl) (by kernel_rfl) (fun _ _ _ h => h) (Or.inl ⟨by rfl, ?hy4yr⟩) hHeld ?rest4yr
                  case hy4yr => intro w hSw; (try dsimp only at hSw); go_simp; all_goals with_reducible rfl
                  try simp only [sA, gA]
                  refine wpAnyH_ready (rs := [5, 10, 11]) (by kernel_rfl) (by simp) ?_
                  refine AllReadyH.cons rfl (fun KQ hKQ => ?_) (AllReadyH.cons rfl (fun KQ hKQ => ?_) (AllReadyH.cons rfl (fun KQ hKQ => ?_) AllReadyH.nil))
                  ·
                    go_simp
                    go_at_call 17
                    refine (HSD2.out _ (hB.out.trans (Below.mono ((Below.refl wr.heap.size wr).drew) hB.out.size))).mono ?_
                    rintro e y1 ⟨rfl, hB9⟩
                    have HBy1 := Lib.hid (((Below.refl wr.heap.size wr).drew).trans (hB9.mono ((Below.refl wr.heap.size wr).drew).size))
                    clear hB9
                    go_wp2_with fail
                    refine hKQ.out _ _ ?_ (fun hHeld2 => ?_)
                    · exact HS.out _ HBy1.out
                    clear hKQ KQ hHeld
                    have hHeld := hHeld2
                    clear hHeld2
                    try simp only [sA, gA]
                    refine' wpAnyH_take (i := 6) (v := ?v6y1) rfl (by kernel_rfl) (by kernel_rfl) (by kernel_rfl) (fun _ _ _ h => h) (Or.inl ⟨by rfl, ?hy6y1⟩) hHeld ?rest6y1
                    case hy6y1 => intro w hSw; (try dsimp only at hSw); go_simp; all_goals with_reducible rfl
                    try simp only [sA, gA]
                    refine' wpAnyH_take (i := 7) (v := ?v7y1) rfl (by kernel_rfl) (by kernel_rfl) (by kernel_rfl) (fun _ _ _ h => h) (Or.inl ⟨by rfl, ?hy7y1⟩) hHeld ?rest7y1
                    case hy7y1 => intro w hSw; (try dsimp only at hSw); go_simp; all_goals with_reducible rfl
                    try simp only [sA, gA]
                    refine' wpAnyH_take (i := 8) (v := ?v8y1) rfl (by kernel_rfl) (by kernel_rfl) (by kernel_rfl) (fun _ _ _ h => h) (Or.inl ⟨by rfl, ?hy8y1⟩) hHeld ?rest8y1
                    case hy8y1 => intro w hSw; (try dsimp only at hSw); go_simp; all_goals with_reducible rfl
                    try simp only [sA, gA]
                    refine' wpAnyH_take (i := 9) (v := ?v9y1) rfl (by kernel_rfl) (by kernel_rfl) (by kernel_rfl) (fun _ _ _ h => h) (Or.inl ⟨by rfl, ?hy9y1⟩) hHeld ?rest9y1
                    case hy9y1 => intro w hSw; (try dsimp only at hSw); go_simp; all_goals with_reducible rfl
                    try simp only [sA, gA]
                    refine wpAnyH_ready (rs := [10, 11]) (by kernel_rfl) (by simp) ?_
                    refine AllReadyH.cons rfl (fun KQ hKQ => ?_) (AllReadyH.cons rfl (fun KQ hKQ => ?_) AllReadyH.nil)
                    ·
                      go_simp
                      refine hKQ.out _ _ ?_ (fun _ => ?_)
                      · exact HS.out _ ((HBy1.out).alloc (HBy1.out).size (.cells #[.int .i64 0, .int .i64 0, .int .i64 0, .string ⟨#[]⟩, .int .i64 0, .int .i64 0, .int .u64 0] 32))
                      clear hKQ KQ hHeld
                      refine world_is (P := fun W => wpAnyH _ _ _ _ _ _ _ _ W) (fun y2 hw9 => ?_)
                      have HBy2 : Hid (Below wr.heap.size wr y2) := by unfold Hid; rw [← hw9]; exact (HBy1.out).alloc (HBy1.out).size (.cells #[.int .i64 0, .int .i64 0, .int .i64 0, .string ⟨#[]⟩, .int .i64 0, .int .i64 0, .int .u64 0] 32)
                      have HOy2_0 : Hid (Blk y2 y1.heap.size 32 #[.int .i64 0, .int .i64 0, .int .i64 0, .string ⟨#[]⟩, .int .i64 0, .int .i64 0, .int .u64 0]) := by unfold Hid; rw [← hw9]; exact Blk.new (y1) 32 #[.int .i64 0, .int .i64 0, .int .i64 0, .string ⟨#[]⟩, .int .i64 0, .int .i64 0, .int .u64 0]
                      clear hw9
                      have hHeld := HS.out _ HBy2.out
                      try simp only [sA, gA]
                      refine wpAnyH_ready (rs := [11]) (by kernel_rfl) (by simp) ?_
                      refine AllReadyH.cons rfl (fun KQ hKQ => ?_) AllReadyH.nil
                      go_simp
                      refine hKQ.out _ _ ?_ (fun _ => ?_)
                      · exact HS.out _ ((HBy2.out).alloc (HBy2.out).size (.cells #[.int .i64 0, .int .i64 0, .string ⟨#[]⟩] 42))
                      clear hKQ KQ hHeld
                      refine world_is (P := fun W => wpAnyH _ _ _ _ _ _ _ _ W) (fun y3 hw9 => ?_)
                      have HBy3 : Hid (Below wr.heap.size wr y3) := by unfold Hid; rw [← hw9]; exact (HBy2.out).alloc (HBy2.out).size (.cells #[.int .i64 0, .int .i64 0, .string ⟨#[]⟩] 42)
                      have HOy3_0 : Hid (Blk y3 y1.heap.size 32 #[.int .i64 0, .int .i64 0, .int .i64 0, .string ⟨#[]⟩, .int .i64 0, .int .i64 0, .int .u64 0]) := by unfold Hid; rw [← hw9]; exact (HOy2_0.out).alloc (.cells #[.int .i64 0, .int .i64 0, .string ⟨#[]⟩] 42)
                      have HOy3_1 : Hid (Blk y3 y2.heap.size 42 #[.int .i64 0, .int .i64 0, .string ⟨#[]⟩]) := by unfold Hid; rw [← hw9]; exact Blk.new (y2) 42 #[.int .i64 0, .int .i64 0, .string ⟨#[]⟩]
                      clear hw9
                      have hHeld := HS.out _ HBy3.out
                      try simp only [sA, gA]
                      refine wpAnyH_ready (rs := [12]) (by kernel_rfl) (by simp) ?_
                      refine AllReadyH.cons rfl (fun KQ hKQ => ?_) AllReadyH.nil
                      refine wp_store_mid 32 _ _ rfl (y1.heap.size) 0 #[.int .i64 i0, .int .i64 i1, .int .i64 od, .string K, .int .i64 ((t + 1 : Nat) : Int), .int .i64 0, .int .u64 0] rfl rfl ?h1y4 infoSes hone1.out ?h4y4
                      case h1y4 => exact there_of_blk (o := 0) (HOy3_0.out) (Nat.le_refl _)
                      case h4y4 =>
                      refine hKQ.out _ _ ?_ (fun _ => ?_)
                      · exact HS.out _ (below_setCells ((HBy1.out).size) (#[.int .i64 i0, .int .i64 i1, .int .i64 od, .string K, .int .i64 ((t + 1 : Nat) : Int), .int .i64 0, .int .u64 0] : Array Value).toList 0 _ (HBy3.out))
                      clear hKQ KQ hHeld
                      refine world_is (P := fun W => wpAnyH _ _ _ _ _ _ _ _ W) (fun y4 hw9 => ?_)
                      have HBy4 : Hid (Below wr.heap.size wr y4) := by unfold Hid; rw [← hw9]; exact below_setCells ((HBy1.out).size) (#[.int .i64 i0, .int .i64 i1, .int .i64 od, .string K, .int .i64 ((t + 1 : Nat) : Int), .int .i64 0, .int .u64 0] : Array Value).toList 0 _ (HBy3.out)
                      have HOy4_0 : Hid (Blk y4 y1.heap.size 32 #[.int .i64 i0, .int .i64 i1, .int .i64 od, .string K, .int .i64 ((t + 1 : Nat) : Int), .int .i64 0, .int .u64 0]) := by unfold Hid; rw [← hw9]; exact blk_setWhole (HOy3_0.out) (#[.int .i64 i0, .int .i64 i1, .int .i64 od, .string K, .int .i64 ((t + 1 : Nat) : Int), .int .i64 0, .int .u64 0] : Array Value).toList rfl
                      have HOy4_1 : Hid (Blk y4 y2.heap.size 42 #[.int .i64 0, .int .i64 0, .string ⟨#[]⟩]) := by unfold Hid; rw [← hw9]; exact blk_sets_other (Blk.ne_ (HOy3_1.out) (HOy3_0.out) (by decide)) _ 0 _ (HOy3_1.out)
                      clear hw9
                      have hHeld := HS.out _ HBy4.out
                      try simp only [sA, gA]
                      refine wpAnyH_ready (rs := [13]) (by kernel_rfl) (by simp) ?_
                      refine AllReadyH.cons rfl (fun KQ hKQ => ?_) AllReadyH.nil
                      refine wp_store_mid 42 _ _ rfl (y2.heap.size) 0 #[.int .i64 i0, .int .i64 ((t : Int) + 1), .string X] rfl rfl ?h1y5 infoMsg hone2.out ?h4y5
                      case h1y5 => exact there_of_blk (o := 0) (HOy4_1.out) (Nat.le_refl _)
                      case h4y5 =>
                      refine hKQ.out _ _ ?_ (fun _ => ?_)
                      · exact HS.out _ (below_setCells ((HBy2.out).size) (#[.int .i64 i0, .int .i64 ((t : Int) + 1), .string X] : Array Value).toList 0 _ (HBy4.out))
                      clear hKQ KQ hHeld
                      refine world_is (P := fun W => wpAnyH _ _ _ _ _ _ _ _ W) (fun y5 hw9 => ?_)
                      have HBy5 : Hid (Below wr.heap.size wr y5) := by unfold Hid; rw [← hw9]; exact below_setCells ((HBy2.out).size) (#[.int .i64 i0, .int .i64 ((t : Int) + 1), .string X] : Array Value).toList 0 _ (HBy4.out)
                      have HOy5_0 : Hid (Blk y5 y1.heap.size 32 #[.int .i64 i0, .int .i64 i1, .int .i64 od, .string K, .int .i64 ((t + 1 : Nat) : Int), .int .i64 0, .int .u64 0]) := by unfold Hid; rw [← hw9]; exact blk_sets_other (Blk.ne_ (HOy4_0.out) (HOy4_1.out) (by decide)) _ 0 _ (HOy4_0.out)
                      have HOy5_1 : Hid (Blk y5 y2.heap.size 42 #[.int .i64 i0, .int .i64 ((t : Int) + 1), .string X]) := by unfold Hid; rw [← hw9]; exact blk_setWhole (HOy4_1.out) (#[.int .i64 i0, .int .i64 ((t : Int) + 1), .string X] : Array Value).toList rfl
                      clear hw9
                      have hHeld := HS.out _ HBy5.out
                      try simp only [sA, gA]
                      refine' wpAnyH_take (i := 14) (v := ?v14y6) rfl (by kernel_rfl) (by kernel_rfl) (by kernel_rfl) (fun _ _ _ h => h) (Or.inl ⟨by rfl, ?hy14y6⟩) hHeld ?rest14y6
                      case hy14y6 => intro w hSw; (try dsimp only at hSw); go_simp; all_goals with_reducible rfl
                      try simp only [sA, gA]
                      refine wpAnyH_done (by kernel_rfl) ?_ _
                      clear hHeld
                      go_wp2_with fail
                      go_meet
                      exact ⟨_, _, rfl, rfl, rfl, (HBy1.out).size, (HBy2.out).size, HOy5_0.out, HOy5_1.out, HBy5.out⟩
                    ·
                      go_simp
                      refine hKQ.out _ _ ?_ (fun _ => ?_)
                      · exact HS.out _ ((HBy1.out).alloc (HBy1.out).size (.cells #[.int .i64 0, .int .i64 0, .string ⟨#[]⟩] 42))
                      clear hKQ KQ hHeld
                      refine world_is (P := fun W => wpAnyH _ _ _ _ _ _ _ _ W) (fun y7 hw9 => ?_)
                      have HBy7 : Hid (Below wr.heap.size wr y7) := by unfold Hid; rw [← hw9]; exact (HBy1.out).alloc (HBy1.out).size (.cells #[.int .i64 0, .int .i64 0, .string ⟨#[]⟩] 42)
                      have HOy7_1 : Hid (Blk y7 y1.heap.size 42 #[.int .i64 0, .int .i64 0, .string ⟨#[]⟩]) := by unfold Hid; rw [← hw9]; exact Blk.new (y1) 42 #[.int .i64 0, .int .i64 0, .string ⟨#[]⟩]
                      clear hw9
                      have hHeld := HS.out _ HBy7.out
                      try simp only [sA, gA]
                      refine wpAnyH_ready (rs := [10]) (by kernel_rfl) (by simp) ?_
                      refine AllReadyH.cons rfl (fun KQ hKQ => ?_) AllReadyH.nil
                      go_simp
                      refine hKQ.out _ _ ?_ (fun _ => ?_)
                      · exact HS.out _ ((HBy7.out).alloc (HBy7.out).size (.cells #[.int .i64 0, .int .i64 0, .int .i64 0, .string ⟨#[]⟩, .int .i64 0, .int .i64 0, .int .u64 0] 32))
                      clear hKQ KQ hHeld
                      refine world_is (P := fun W => wpAnyH _ _ _ _ _ _ _ _ W) (fun y8 hw9 => ?_)
                      have HBy8 : Hid (Below wr.heap.size wr y8) := by unfold Hid; rw [← hw9]; exact (HBy7.out).alloc (HBy7.out).size (.cells #[.int .i64 0, .int .i64 0, .int .i64 0, .string ⟨#[]⟩, .int .i64 0, .int .i64 0, .int .u64 0] 32)
                      have HOy8_1 : Hid (Blk y8 y1.heap.size 42 #[.int .i64 0, .int .i64 0, .string ⟨#[]⟩]) := by unfold Hid; rw [← hw9]; exact (HOy7_1.out).alloc (.cells #[.int .i64 0, .int .i64 0, .int .i64 0, .string ⟨#[]⟩, .int .i64 0, .int .i64 0, .int .u64 0] 32)
                      have HOy8_0 : Hid (Blk y8 y7.heap.size 32 #[.int .i64 0, .int .i64 0, .int .i64 0, .string ⟨#[]⟩, .int .i64 0, .int .i64 0, .int .u64 0]) := by unfold Hid; rw [← hw9]; exact Blk.new (y7) 32 #[.int .i64 0, .int .i64 0, .int .i64 0, .string ⟨#[]⟩, .int .i64 0, .int .i64 0, .int .u64 0]
                      clear hw9
                      have hHeld := HS.out _ HBy8.out
                      try simp only [sA, gA]
                      refine wpAnyH_ready (rs := [12]) (by kernel_rfl) (by simp) ?_
                      refine AllReadyH.cons rfl (fun KQ hKQ => ?_) AllReadyH.nil
                      refine wp_store_mid 32 _ _ rfl (y7.heap.size) 0 #[.int .i64 i0, .int .i64 i1, .int .i64 od, .string K, .int .i64 ((t + 1 : Nat) : Int), .int .i64 0, .int .u64 0] rfl rfl ?h1y9 infoSes hone1.out ?h4y9
                      case h1y9 => exact there_of_blk (o := 0) (HOy8_0.out) (Nat.le_refl _)
                      case h4y9 =>
                      refine hKQ.out _ _ ?_ (fun _ => ?_)
                      · exact HS.out _ (below_setCells ((HBy7.out).size) (#[.int .i64 i0, .int .i64 i1, .int .i64 od, .string K, .int .i64 ((t + 1 : Nat) : Int), .int .i64 0, .int .u64 0] : Array Value).toList 0 _ (HBy8.out))
                      clear hKQ KQ hHeld
                      refine world_is (P := fun W => wpAnyH _ _ _ _ _ _ _ _ W) (fun y9 hw9 => ?_)
                      have HBy9 : Hid (Below wr.heap.size wr y9) := by unfold Hid; rw [← hw9]; exact below_setCells ((HBy7.out).size) (#[.int .i64 i0, .int .i64 i1, .int .i64 od, .string K, .int .i64 ((t + 1 : Nat) : Int), .int .i64 0, .int .u64 0] : Array Value).toList 0 _ (HBy8.out)
                      have HOy9_1 : Hid (Blk y9 y1.heap.size 42 #[.int .i64 0, .int .i64 0, .string ⟨#[]⟩]) := by unfold Hid; rw [← hw9]; exact blk_sets_other (Blk.ne_ (HOy8_1.out) (HOy8_0.out) (by decide)) _ 0 _ (HOy8_1.out)
                      have HOy9_0 : Hid (Blk y9 y7.heap.size 32 #[.int .i64 i0, .int .i64 i1, .int .i64 od, .string K, .int .i64 ((t + 1 : Nat) : Int), .int .i64 0, .int .u64 0]) := by unfold Hid; rw [← hw9]; exact blk_setWhole (HOy8_0.out) (#[.int .i64 i0, .int .i64 i1, .int .i64 od, .string K, .int .i64 ((t + 1 : Nat) : Int), .int .i64 0, .int .u64 0] : Array Value).toList rfl
                      clear hw9
                      have hHeld := HS.out _ HBy9.out
                      try simp only [sA, gA]
                      refine wpAnyH_ready (rs := [13]) (by kernel_rfl) (by simp) ?_
                      refine AllReadyH.cons rfl (fun KQ hKQ => ?_) AllReadyH.nil
                      refine wp_store_mid 42 _ _ rfl (y1.heap.size) 0 #[.int .i64 i0, .int .i64 ((t : Int) + 1), .string X] rfl rfl ?h1y10 infoMsg hone2.out ?h4y10
                      case h1y10 => exact there_of_blk (o := 0) (HOy9_1.out) (Nat.le_refl _)
                      case h4y10 =>
                      refine hKQ.out _ _ ?_ (fun _ => ?_)
                      · exact HS.out _ (below_setCells ((HBy1.out).size) (#[.int .i64 i0, .int .i64 ((t : Int) + 1), .string X] : Array Value).toList 0 _ (HBy9.out))
                      clear hKQ KQ hHeld
                      refine world_is (P := fun W => wpAnyH _ _ _ _ _ _ _ _ W) (fun y10 hw9 => ?_)
                      have HBy10 : Hid (Below wr.heap.size wr y10) := by unfold Hid; rw [← hw9]; exact below_setCells ((HBy1.out).size) (#[.int .i64 i0, .int .i64 ((t : Int) + 1), .string X] : Array Value).toList 0 _ (HBy9.out)
                      have HOy10_1 : Hid (Blk y10 y1.heap.size 42 #[.int .i64 i0, .int .i64 ((t : Int) + 1), .string X]) := by unfold Hid; rw [← hw9]; exact blk_setWhole (HOy9_1.out) (#[.int .i64 i0, .int .i64 ((t : Int) + 1), .string X] : Array Value).toList rfl
                      have HOy10_0 : Hid (Blk y10 y7.heap.size 32 #[.int .i64 i0, .int .i64 i1, .int .i64 od, .string K, .int .i64 ((t + 1 : Nat) : Int), .int .i64 0, .int .u64 0]) := by unfold Hid; rw [← hw9]; exact blk_sets_other (Blk.ne_ (HOy9_0.out) (HOy9_1.out) (by decide)) _ 0 _ (HOy9_0.out)
                      clear hw9
                      have hHeld := HS.out _ HBy10.out
                      try simp only [sA, gA]
                      refine' wpAnyH_take (i := 14) (v := ?v14y11) rfl (by kernel_rfl) (by kernel_rfl) (by kernel_rfl) (fun _ _ _ h => h) (Or.inl ⟨by rfl, ?hy14y11⟩) hHeld ?rest14y11
                      case hy14y11 => intro w hSw; (try dsimp only at hSw); go_simp; all_goals with_reducible rfl
                      try simp only [sA, gA]
                      refine wpAnyH_done (by kernel_rfl) ?_ _
                      clear hHeld
                      go_wp2_with fail
                      go_meet
                      exact ⟨_, _, rfl, rfl, rfl, (HBy7.out).size, (HBy1.out).size, HOy10_0.out, HOy10_1.out, HBy10.out⟩
                  ·
                    go_simp
                    refine hKQ.out _ _ ?_ (fun _ => ?_)
                    · exact HS.out _ (((Below.refl wr.heap.size wr).drew).alloc ((Below.refl wr.heap.size wr).drew).size (.cells #[.int .i64 0, .int .i64 0, .int .i64 0, .string ⟨#[]⟩, .int .i64 0, .int .i64 0, .int .u64 0] 32))
                    clear hKQ KQ hHeld
                    refine world_is (P := fun W => wpAnyH _ _ _ _ _ _ _ _ W) (fun y12 hw9 => ?_)
                    have HBy12 : Hid (Below wr.heap.size wr y12) := by unfold Hid; rw [← hw9]; exact ((Below.refl wr.heap.size wr).drew).alloc ((Below.refl wr.heap.size wr).drew).size (.cells #[.int .i64 0, .int .i64 0, .int .i64 0, .string ⟨#[]⟩, .int .i64 0, .int .i64 0, .int .u64 0] 32)
                    have HOy12_0 : Hid (Blk y12 wr.drew.heap.size 32 #[.int .i64 0, .int .i64 0, .int .i64 0, .string ⟨#[]⟩, .int .i64 0, .int .i64 0, .int .u64 0]) := by unfold Hid; rw [← hw9]; exact Blk.new (wr.drew) 32 #[.int .i64 0, .int .i64 0, .int .i64 0, .string ⟨#[]⟩, .int .i64 0, .int .i64 0, .int .u64 0]
                    clear hw9
                    have hHeld := HS.out _ HBy12.out
                    try simp only [sA, gA]
                    refine wpAnyH_ready (rs := [5, 11]) (by kernel_rfl) (by simp) ?_
                    refine AllReadyH.cons rfl (fun KQ hKQ => ?_) (AllReadyH.cons rfl (fun KQ hKQ => ?_) AllReadyH.nil)
                    ·
                      go_simp
                      go_at_call 17
                      refine (HSD2.out _ (hB.out.trans (Below.mono (HBy12.out) hB.out.size))).mono ?_
                      rintro e y13 ⟨rfl, hB9⟩
                      have HBy13 := Lib.hid ((HBy12.out).trans (hB9.mono (HBy12.out).size))
                      have HOy13_0 := Lib.hid ((HOy12_0.out).below hB9 (HOy12_0.out).lt)
                      clear hB9
                      go_wp2_with fail
                      refine hKQ.out _ _ ?_ (fun hHeld2 => ?_)
                      · exact HS.out _ HBy13.out
                      clear hKQ KQ hHeld
                      have hHeld := hHeld2
                      clear hHeld2
                      try simp only [sA, gA]
                      refine' wpAnyH_take (i := 6) (v := ?v6y13) rfl (by kernel_rfl) (by kernel_rfl) (by kernel_rfl) (fun _ _ _ h => h) (Or.inl ⟨by rfl, ?hy6y13⟩) hHeld ?rest6y13
                      case hy6y13 => intro w hSw; (try dsimp only at hSw); go_simp; all_goals with_reducible rfl
                      try simp only [sA, gA]
                      refine' wpAnyH_take (i := 7) (v := ?v7y13) rfl (by kernel_rfl) (by kernel_rfl) (by kernel_rfl) (fun _ _ _ h => h) (Or.inl ⟨by rfl, ?hy7y13⟩) hHeld ?rest7y13
                      case hy7y13 => intro w hSw; (try dsimp only at hSw); go_simp; all_goals with_reducible rfl
                      try simp only [sA, gA]
                      refine' wpAnyH_take (i := 8) (v := ?v8y13) rfl (by kernel_rfl) (by kernel_rfl) (by kernel_rfl) (fun _ _ _ h => h) (Or.inl ⟨by rfl, ?hy8y13⟩) hHeld ?rest8y13
                      case hy8y13 => intro w hSw; (try dsimp only at hSw); go_simp; all_goals with_reducible rfl
                      try simp only [sA, gA]
                      refine' wpAnyH_take (i := 9) (v := ?v9y13) rfl (by kernel_rfl) (by kernel_rfl) (by kernel_rfl) (fun _ _ _ h => h) (Or.inl ⟨by rfl, ?hy9y13⟩) hHeld ?rest9y13
                      case hy9y13 => intro w hSw; (try dsimp only at hSw); go_simp; all_goals with_reducible rfl
                      try simp only [sA, gA]
                      refine wpAnyH_ready (rs := [11]) (by kernel_rfl) (by simp) ?_
                      refine AllReadyH.cons rfl (fun KQ hKQ => ?_) AllReadyH.nil
                      go_simp
                      refine hKQ.out _ _ ?_ (fun _ => ?_)
                      · exact HS.out _ ((HBy13.out).alloc (HBy13.out).size (.cells #[.int .i64 0, .int .i64 0, .string ⟨#[]⟩] 42))
                      clear hKQ KQ hHeld
                      refine world_is (P := fun W => wpAnyH _ _ _ _ _ _ _ _ W) (fun y14 hw9 => ?_)
                      have HBy14 : Hid (Below wr.heap.size wr y14) := by unfold Hid; rw [← hw9]; exact (HBy13.out).alloc (HBy13.out).size (.cells #[.int .i64 0, .int .i64 0, .string ⟨#[]⟩] 42)
                      have HOy14_0 : Hid (Blk y14 wr.drew.heap.size 32 #[.int .i64 0, .int .i64 0, .int .i64 0, .string ⟨#[]⟩, .int .i64 0, .int .i64 0, .int .u64 0]) := by unfold Hid; rw [← hw9]; exact (HOy13_0.out).alloc (.cells #[.int .i64 0, .int .i64 0, .string ⟨#[]⟩] 42)
                      have HOy14_1 : Hid (Blk y14 y13.heap.size 42 #[.int .i64 0, .int .i64 0, .string ⟨#[]⟩]) := by unfold Hid; rw [← hw9]; exact Blk.new (y13) 42 #[.int .i64 0, .int .i64 0, .string ⟨#[]⟩]
                      clear hw9
                      have hHeld := HS.out _ HBy14.out
                      try simp only [sA, gA]
                      refine wpAnyH_ready (rs := [12]) (by kernel_rfl) (by simp) ?_
                      refine AllReadyH.cons rfl (fun KQ hKQ => ?_) AllReadyH.nil
                      refine wp_store_mid 32 _ _ rfl (wr.drew.heap.size) 0 #[.int .i64 i0, .int .i64 i1, .int .i64 od, .string K, .int .i64 ((t + 1 : Nat) : Int), .int .i64 0, .int .u64 0] rfl rfl ?h1y15 infoSes hone1.out ?h4y15
                      case h1y15 => exact there_of_blk (o := 0) (HOy14_0.out) (Nat.le_refl _)
                      case h4y15 =>
                      refine hKQ.out _ _ ?_ (fun _ => ?_)
                      · exact HS.out _ (below_setCells (((Below.refl wr.heap.size wr).drew).size) (#[.int .i64 i0, .int .i64 i1, .int .i64 od, .string K, .int .i64 ((t + 1 : Nat) : Int), .int .i64 0, .int .u64 0] : Array Value).toList 0 _ (HBy14.out))
                      clear hKQ KQ hHeld
                      refine world_is (P := fun W => wpAnyH _ _ _ _ _ _ _ _ W) (fun y15 hw9 => ?_)
                      have HBy15 : Hid (Below wr.heap.size wr y15) := by unfold Hid; rw [← hw9]; exact below_setCells (((Below.refl wr.heap.size wr).drew).size) (#[.int .i64 i0, .int .i64 i1, .int .i64 od, .string K, .int .i64 ((t + 1 : Nat) : Int), .int .i64 0, .int .u64 0] : Array Value).toList 0 _ (HBy14.out)
                      have HOy15_0 : Hid (Blk y15 wr.drew.heap.size 32 #[.int .i64 i0, .int .i64 i1, .int .i64 od, .string K, .int .i64 ((t + 1 : Nat) : Int), .int .i64 0, .int .u64 0]) := by unfold Hid; rw [← hw9]; exact blk_setWhole (HOy14_0.out) (#[.int .i64 i0, .int .i64 i1, .int .i64 od, .string K, .int .i64 ((t + 1 : Nat) : Int), .int .i64 0, .int .u64 0] : Array Value).toList rfl
                      have HOy15_1 : Hid (Blk y15 y13.heap.size 42 #[.int .i64 0, .int .i64 0, .string ⟨#[]⟩]) := by unfold Hid; rw [← hw9]; exact blk_sets_other (Blk.ne_ (HOy14_1.out) (HOy14_0.out) (by decide)) _ 0 _ (HOy14_1.out)
                      clear hw9
                      have hHeld := HS.out _ HBy15.out
                      try simp only [sA, gA]
                      refine wpAnyH_ready (rs := [13]) (by kernel_rfl) (by simp) ?_
                      refine AllReadyH.cons rfl (fun KQ hKQ => ?_) AllReadyH.nil
                      refine wp_store_mid 42 _ _ rfl (y13.heap.size) 0 #[.int .i64 i0, .int .i64 ((t : Int) + 1), .string X] rfl rfl ?h1y16 infoMsg hone2.out ?h4y16
                      case h1y16 => exact there_of_blk (o := 0) (HOy15_1.out) (Nat.le_refl _)
                      case h4y16 =>
                      refine hKQ.out _ _ ?_ (fun _ => ?_)
                      · exact HS.out _ (below_setCells ((HBy13.out).size) (#[.int .i64 i0, .int .i64 ((t : Int) + 1), .string X] : Array Value).toList 0 _ (HBy15.out))
                      clear hKQ KQ hHeld
                      refine world_is (P := fun W => wpAnyH _ _ _ _ _ _ _ _ W) (fun y16 hw9 => ?_)
                      have HBy16 : Hid (Below wr.heap.size wr y16) := by unfold Hid; rw [← hw9]; exact below_setCells ((HBy13.out).size) (#[.int .i64 i0, .int .i64 ((t : Int) + 1), .string X] : Array Value).toList 0 _ (HBy15.out)
                      have HOy16_0 : Hid (Blk y16 wr.drew.heap.size 32 #[.int .i64 i0, .int .i64 i1, .int .i64 od, .string K, .int .i64 ((t + 1 : Nat) : Int), .int .i64 0, .int .u64 0]) := by unfold Hid; rw [← hw9]; exact blk_sets_other (Blk.ne_ (HOy15_0.out) (HOy15_1.out) (by decide)) _ 0 _ (HOy15_0.out)
                      have HOy16_1 : Hid (Blk y16 y13.heap.size 42 #[.int .i64 i0, .int .i64 ((t : Int) + 1), .string X]) := by unfold Hid; rw [← hw9]; exact blk_setWhole (HOy15_1.out) (#[.int .i64 i0, .int .i64 ((t : Int) + 1), .string X] : Array Value).toList rfl
                      clear hw9
                      have hHeld := HS.out _ HBy16.out
                      try simp only [sA, gA]
                      refine' wpAnyH_take (i := 14) (v := ?v14y17) rfl (by kernel_rfl) (by kernel_rfl) (by kernel_rfl) (fun _ _ _ h => h) (Or.inl ⟨by rfl, ?hy14y17⟩) hHeld ?rest14y17
                      case hy14y17 => intro w hSw; (try dsimp only at hSw); go_simp; all_goals with_reducible rfl
                      try simp only [sA, gA]
                      refine wpAnyH_done (by kernel_rfl) ?_ _
                      clear hHeld
                      go_wp2_with fail
                      go_meet
                      exact ⟨_, _, rfl, rfl, rfl, ((Below.refl wr.heap.size wr).drew).size, (HBy13.out).size, HOy16_0.out, HOy16_1.out, HBy16.out⟩
                    ·
                      go_simp
                      refine hKQ.out _ _ ?_ (fun _ => ?_)
                      · exact HS.out _ ((HBy12.out).alloc (HBy12.out).size (.cells #[.int .i64 0, .int .i64 0, .string ⟨#[]⟩] 42))
                      clear hKQ KQ hHeld
                      refine world_is (P := fun W => wpAnyH _ _ _ _ _ _ _ _ W) (fun y18 hw9 => ?_)
                      have HBy18 : Hid (Below wr.heap.size wr y18) := by unfold Hid; rw [← hw9]; exact (HBy12.out).alloc (HBy12.out).size (.cells #[.int .i64 0, .int .i64 0, .string ⟨#[]⟩] 42)
                      have HOy18_0 : Hid (Blk y18 wr.drew.heap.size 32 #[.int .i64 0, .int .i64 0, .int .i64 0, .string ⟨#[]⟩, .int .i64 0, .int .i64 0, .int .u64 0]) := by unfold Hid; rw [← hw9]; exact (HOy12_0.out).alloc (.cells #[.int .i64 0, .int .i64 0, .string ⟨#[]⟩] 42)
                      have HOy18_1 : Hid (Blk y18 y12.heap.size 42 #[.int .i64 0, .int .i64 0, .string ⟨#[]⟩]) := by unfold Hid; rw [← hw9]; exact Blk.new (y12) 42 #[.int .i64 0, .int .i64 0, .string ⟨#[]⟩]
                      clear hw9
                      have hHeld := HS.out _ HBy18.out
                      try simp only [sA, gA]
                      refine wpAnyH_ready (rs := [5]) (by kernel_rfl) (by simp) ?_
                      refine AllReadyH.cons rfl (fun KQ hKQ => ?_) AllReadyH.nil
                      go_simp
                      go_at_call 17
                      refine (HSD2.out _ (hB.out.trans (Below.mono (HBy18.out) hB.out.size))).mono ?_
                      rintro e y19 ⟨rfl, hB9⟩
                      have HBy19 := Lib.hid ((HBy18.out).trans (hB9.mono (HBy18.out).size))
                      have HOy19_0 := Lib.hid ((HOy18_0.out).below hB9 (HOy18_0.out).lt)
                      have HOy19_1 := Lib.hid ((HOy18_1.out).below hB9 (HOy18_1.out).lt)
                      clear hB9
                      go_wp2_with fail
                      refine hKQ.out _ _ ?_ (fun hHeld2 => ?_)
                      · exact HS.out _ HBy19.out
                      clear hKQ KQ hHeld
                      have hHeld := hHeld2
                      clear hHeld2
                      try simp only [sA, gA]
                      refine' wpAnyH_take (i := 6) (v := ?v6y19) rfl (by kernel_rfl) (by kernel_rfl) (by kernel_rfl) (fun _ _ _ h => h) (Or.inl ⟨by rfl, ?hy6y19⟩) hHeld ?rest6y19
                      case hy6y19 => intro w hSw; (try dsimp only at hSw); go_simp; all_goals with_reducible rfl
                      try simp only [sA, gA]
                      refine' wpAnyH_take (i := 7) (v := ?v7y19) rfl (by kernel_rfl) (by kernel_rfl) (by kernel_rfl) (fun _ _ _ h => h) (Or.inl ⟨by rfl, ?hy7y19⟩) hHeld ?rest7y19
                      case hy7y19 => intro w hSw; (try dsimp only at hSw); go_simp; all_goals with_reducible rfl
                      try simp only [sA, gA]
                      refine' wpAnyH_take (i := 8) (v := ?v8y19) rfl (by kernel_rfl) (by kernel_rfl) (by kernel_rfl) (fun _ _ _ h => h) (Or.inl ⟨by rfl, ?hy8y19⟩) hHeld ?rest8y19
                      case hy8y19 => intro w hSw; (try dsimp only at hSw); go_simp; all_goals with_reducible rfl
                      try simp only [sA, gA]
                      refine' wpAnyH_take (i := 9) (v := ?v9y19) rfl (by kernel_rfl) (by kernel_rfl) (by kernel_rfl) (fun _ _ _ h => h) (Or.inl ⟨by rfl, ?hy9y19⟩) hHeld ?rest9y19
                      case hy9y19 => intro w hSw; (try dsimp only at hSw); go_simp; all_goals with_reducible rfl
                      try simp only [sA, gA]
                      refine wpAnyH_ready (rs := [12]) (by kernel_rfl) (by simp) ?_
                      refine AllReadyH.cons rfl (fun KQ hKQ => ?_) AllReadyH.nil
                      refine wp_store_mid 32 _ _ rfl (wr.drew.heap.size) 0 #[.int .i64 i0, .int .i64 i1, .int .i64 od, .string K, .int .i64 ((t + 1 : Nat) : Int), .int .i64 0, .int .u64 0] rfl rfl ?h1y20 infoSes hone1.out ?h4y20
                      case h1y20 => exact there_of_blk (o := 0) (HOy19_0.out) (Nat.le_refl _)
                      case h4y20 =>
                      refine hKQ.out _ _ ?_ (fun _ => ?_)
                      · exact HS.out _ (below_setCells (((Below.refl wr.heap.size wr).drew).size) (#[.int .i64 i0, .int .i64 i1, .int .i64 od, .string K, .int .i64 ((t + 1 : Nat) : Int), .int .i64 0, .int .u64 0] : Array Value).toList 0 _ (HBy19.out))
                      clear hKQ KQ hHeld
                      refine world_is (P := fun W => wpAnyH _ _ _ _ _ _ _ _ W) (fun y20 hw9 => ?_)
                      have HBy20 : Hid (Below wr.heap.size wr y20) := by unfold Hid; rw [← hw9]; exact below_setCells (((Below.refl wr.heap.size wr).drew).size) (#[.int .i64 i0, .int .i64 i1, .int .i64 od, .string K, .int .i64 ((t + 1 : Nat) : Int), .int .i64 0, .int .u64 0] : Array Value).toList 0 _ (HBy19.out)
                      have HOy20_0 : Hid (Blk y20 wr.drew.heap.size 32 #[.int .i64 i0, .int .i64 i1, .int .i64 od, .string K, .int .i64 ((t + 1 : Nat) : Int), .int .i64 0, .int .u64 0]) := by unfold Hid; rw [← hw9]; exact blk_setWhole (HOy19_0.out) (#[.int .i64 i0, .int .i64 i1, .int .i64 od, .string K, .int .i64 ((t + 1 : Nat) : Int), .int .i64 0, .int .u64 0] : Array Value).toList rfl
                      have HOy20_1 : Hid (Blk y20 y12.heap.size 42 #[.int .i64 0, .int .i64 0, .string ⟨#[]⟩]) := by unfold Hid; rw [← hw9]; exact blk_sets_other (Blk.ne_ (HOy19_1.out) (HOy19_0.out) (by decide)) _ 0 _ (HOy19_1.out)
                      clear hw9
                      have hHeld := HS.out _ HBy20.out
                      try simp only [sA, gA]
                      refine wpAnyH_ready (rs := [13]) (by kernel_rfl) (by simp) ?_
                      refine AllReadyH.cons rfl (fun KQ hKQ => ?_) AllReadyH.nil
                      refine wp_store_mid 42 _ _ rfl (y12.heap.size) 0 #[.int .i64 i0, .int .i64 ((t : Int) + 1), .string X] rfl rfl ?h1y21 infoMsg hone2.out ?h4y21
                      case h1y21 => exact there_of_blk (o := 0) (HOy20_1.out) (Nat.le_refl _)
                      case h4y21 =>
                      refine hKQ.out _ _ ?_ (fun _ => ?_)
                      · exact HS.out _ (below_setCells ((HBy12.out).size) (#[.int .i64 i0, .int .i64 ((t : Int) + 1), .string X] : Array Value).toList 0 _ (HBy20.out))
                      clear hKQ KQ hHeld
                      refine world_is (P := fun W => wpAnyH _ _ _ _ _ _ _ _ W) (fun y21 hw9 => ?_)
                      have HBy21 : Hid (Below wr.heap.size wr y21) := by unfold Hid; rw [← hw9]; exact below_setCells ((HBy12.out).size) (#[.int .i64 i0, .int .i64 ((t : Int) + 1), .string X] : Array Value).toList 0 _ (HBy20.out)
                      have HOy21_0 : Hid (Blk y21 wr.drew.heap.size 32 #[.int .i64 i0, .int .i64 i1, .int .i64 od, .string K, .int .i64 ((t + 1 : Nat) : Int), .int .i64 0, .int .u64 0]) := by unfold Hid; rw [← hw9]; exact blk_sets_other (Blk.ne_ (HOy20_0.out) (HOy20_1.out) (by decide)) _ 0 _ (HOy20_0.out)
                      have HOy21_1 : Hid (Blk y21 y12.heap.size 42 #[.int .i64 i0, .int .i64 ((t : Int) + 1), .string X]) := by unfold Hid; rw [← hw9]; exact blk_setWhole (HOy20_1.out) (#[.int .i64 i0, .int .i64 ((t : Int) + 1), .string X] : Array Value).toList rfl
                      clear hw9
                      have hHeld := HS.out _ HBy21.out
                      try simp only [sA, gA]
                      refine' wpAnyH_take (i := 14) (v := ?v14y22) rfl (by kernel_rfl) (by kernel_rfl) (by kernel_rfl) (fun _ _ _ h => h) (Or.inl ⟨by rfl, ?hy14y22⟩) hHeld ?rest14y22
                      case hy14y22 => intro w hSw; (try dsimp only at hSw); go_simp; all_goals with_reducible rfl
                      try simp only [sA, gA]
                      refine wpAnyH_done (by kernel_rfl) ?_ _
                      clear hHeld
                      go_wp2_with fail
                      go_meet
                      exact ⟨_, _, rfl, rfl, rfl, ((Below.refl wr.heap.size wr).drew).size, (HBy12.out).size, HOy21_0.out, HOy21_1.out, HBy21.out⟩
                  ·
                    go_simp
                    refine hKQ.out _ _ ?_ (fun _ => ?_)
                    · exact HS.out _ (((Below.refl wr.heap.size wr).drew).alloc ((Below.refl wr.heap.size wr).drew).size (.cells #[.int .i64 0, .int .i64 0, .string ⟨#[]⟩] 42))
                    clear hKQ KQ hHeld
                    refine world_is (P := fun W => wpAnyH _ _ _ _ _ _ _ _ W) (fun y23 hw9 => ?_)
                    have HBy23 : Hid (Below wr.heap.size wr y23) := by unfold Hid; rw [← hw9]; exact ((Below.refl wr.heap.size wr).drew).alloc ((Below.refl wr.heap.size wr).drew).size (.cells #[.int .i64 0, .int .i64 0, .string ⟨#[]⟩] 42)
                    have HOy23_1 : Hid (Blk y23 wr.drew.heap.size 42 #[.int .i64 0, .int .i64 0, .string ⟨#[]⟩]) := by unfold Hid; rw [← hw9]; exact Blk.new (wr.drew) 42 #[.int .i64 0, .int .i64 0, .string ⟨#[]⟩]
                    clear hw9
                    have hHeld := HS.out _ HBy23.out
                    try simp only [sA, gA]
                    refine wpAnyH_ready (rs := [5, 10]) (by kernel_rfl) (by simp) ?_
                    refine AllReadyH.cons rfl (fun KQ hKQ => ?_) (AllReadyH.cons rfl (fun KQ hKQ => ?_) AllReadyH.nil)
                    ·
                      go_simp
                      go_at_call 17
                      refine (HSD2.out _ (hB.out.trans (Below.mono (HBy23.out) hB.out.size))).mono ?_
                      rintro e y24 ⟨rfl, hB9⟩
                      have HBy24 := Lib.hid ((HBy23.out).trans (hB9.mono (HBy23.out).size))
                      have HOy24_1 := Lib.hid ((HOy23_1.out).below hB9 (HOy23_1.out).lt)
                      clear hB9
                      go_wp2_with fail
                      refine hKQ.out _ _ ?_ (fun hHeld2 => ?_)
                      · exact HS.out _ HBy24.out
                      clear hKQ KQ hHeld
                      have hHeld := hHeld2
                      clear hHeld2
                      try simp only [sA, gA]
                      refine' wpAnyH_take (i := 6) (v := ?v6y24) rfl (by kernel_rfl) (by kernel_rfl) (by kernel_rfl) (fun _ _ _ h => h) (Or.inl ⟨by rfl, ?hy6y24⟩) hHeld ?rest6y24
                      case hy6y24 => intro w hSw; (try dsimp only at hSw); go_simp; all_goals with_reducible rfl
                      try simp only [sA, gA]
                      refine' wpAnyH_take (i := 7) (v := ?v7y24) rfl (by kernel_rfl) (by kernel_rfl) (by kernel_rfl) (fun _ _ _ h => h) (Or.inl ⟨by rfl, ?hy7y24⟩) hHeld ?rest7y24
                      case hy7y24 => intro w hSw; (try dsimp only at hSw); go_simp; all_goals with_reducible rfl
                      try simp only [sA, gA]
                      refine' wpAnyH_take (i := 8) (v := ?v8y24) rfl (by kernel_rfl) (by kernel_rfl) (by kernel_rfl) (fun _ _ _ h => h) (Or.inl ⟨by rfl, ?hy8y24⟩) hHeld ?rest8y24
                      case hy8y24 => intro w hSw; (try dsimp only at hSw); go_simp; all_goals with_reducible rfl
                      try simp only [sA, gA]
                      refine' wpAnyH_take (i := 9) (v := ?v9y24) rfl (by kernel_rfl) (by kernel_rfl) (by kernel_rfl) (fun _ _ _ h => h) (Or.inl ⟨by rfl, ?hy9y24⟩) hHeld ?rest9y24
                      case hy9y24 => intro w hSw; (try dsimp only at hSw); go_simp; all_goals with_reducible rfl
                      try simp only [sA, gA]
                      refine wpAnyH_ready (rs := [10]) (by kernel_rfl) (by simp) ?_
                      refine AllReadyH.cons rfl (fun KQ hKQ => ?_) AllReadyH.nil
                      go_simp
                      refine hKQ.out _ _ ?_ (fun _ => ?_)
                      · exact HS.out _ ((HBy24.out).alloc (HBy24.out).size (.cells #[.int .i64 0, .int .i64 0, .int .i64 0, .string ⟨#[]⟩, .int .i64 0, .int .i64 0, .int .u64 0] 32))
                      clear hKQ KQ hHeld
                      refine world_is (P := fun W => wpAnyH _ _ _ _ _ _ _ _ W) (fun y25 hw9 => ?_)
                      have HBy25 : Hid (Below wr.heap.size wr y25) := by unfold Hid; rw [← hw9]; exact (HBy24.out).alloc (HBy24.out).size (.cells #[.int .i64 0, .int .i64 0, .int .i64 0, .string ⟨#[]⟩, .int .i64 0, .int .i64 0, .int .u64 0] 32)
                      have HOy25_1 : Hid (Blk y25 wr.drew.heap.size 42 #[.int .i64 0, .int .i64 0, .string ⟨#[]⟩]) := by unfold Hid; rw [← hw9]; exact (HOy24_1.out).alloc (.cells #[.int .i64 0, .int .i64 0, .int .i64 0, .string ⟨#[]⟩, .int .i64 0, .int .i64 0, .int .u64 0] 32)
                      have HOy25_0 : Hid (Blk y25 y24.heap.size 32 #[.int .i64 0, .int .i64 0, .int .i64 0, .string ⟨#[]⟩, .int .i64 0, .int .i64 0, .int .u64 0]) := by unfold Hid; rw [← hw9]; exact Blk.new (y24) 32 #[.int .i64 0, .int .i64 0, .int .i64 0, .string ⟨#[]⟩, .int .i64 0, .int .i64 0, .int .u64 0]
                      clear hw9
                      have hHeld := HS.out _ HBy25.out
                      try simp only [sA, gA]
                      refine wpAnyH_ready (rs := [12]) (by kernel_rfl) (by simp) ?_
                      refine AllReadyH.cons rfl (fun KQ hKQ => ?_) AllReadyH.nil
                      refine wp_store_mid 32 _ _ rfl (y24.heap.size) 0 #[.int .i64 i0, .int .i64 i1, .int .i64 od, .string K, .int .i64 ((t + 1 : Nat) : Int), .int .i64 0, .int .u64 0] rfl rfl ?h1y26 infoSes hone1.out ?h4y26
                      case h1y26 => exact there_of_blk (o := 0) (HOy25_0.out) (Nat.le_refl _)
                      case h4y26 =>
                      refine hKQ.out _ _ ?_ (fun _ => ?_)
                      · exact HS.out _ (below_setCells ((HBy24.out).size) (#[.int .i64 i0, .int .i64 i1, .int .i64 od, .string K, .int .i64 ((t + 1 : Nat) : Int), .int .i64 0, .int .u64 0] : Array Value).toList 0 _ (HBy25.out))
                      clear hKQ KQ hHeld
                      refine world_is (P := fun W => wpAnyH _ _ _ _ _ _ _ _ W) (fun y26 hw9 => ?_)
                      have HBy26 : Hid (Below wr.heap.size wr y26) := by unfold Hid; rw [← hw9]; exact below_setCells ((HBy24.out).size) (#[.int .i64 i0, .int .i64 i1, .int .i64 od, .string K, .int .i64 ((t + 1 : Nat) : Int), .int .i64 0, .int .u64 0] : Array Value).toList 0 _ (HBy25.out)
                      have HOy26_1 : Hid (Blk y26 wr.drew.heap.size 42 #[.int .i64 0, .int .i64 0, .string ⟨#[]⟩]) := by unfold Hid; rw [← hw9]; exact blk_sets_other (Blk.ne_ (HOy25_1.out) (HOy25_0.out) (by decide)) _ 0 _ (HOy25_1.out)
                      have HOy26_0 : Hid (Blk y26 y24.heap.size 32 #[.int .i64 i0, .int .i64 i1, .int .i64 od, .string K, .int .i64 ((t + 1 : Nat) : Int), .int .i64 0, .int .u64 0]) := by unfold Hid; rw [← hw9]; exact blk_setWhole (HOy25_0.out) (#[.int .i64 i0, .int .i64 i1, .int .i64 od, .string K, .int .i64 ((t + 1 : Nat) : Int), .int .i64 0, .int .u64 0] : Array Value).toList rfl
                      clear hw9
                      have hHeld := HS.out _ HBy26.out
                      try simp only [sA, gA]
                      refine wpAnyH_ready (rs := [13]) (by kernel_rfl) (by simp) ?_
                      refine AllReadyH.cons rfl (fun KQ hKQ => ?_) AllReadyH.nil
                      refine wp_store_mid 42 _ _ rfl (wr.drew.heap.size) 0 #[.int .i64 i0, .int .i64 ((t : Int) + 1), .string X] rfl rfl ?h1y27 infoMsg hone2.out ?h4y27
                      case h1y27 => exact there_of_blk (o := 0) (HOy26_1.out) (Nat.le_refl _)
                      case h4y27 =>
                      refine hKQ.out _ _ ?_ (fun _ => ?_)
                      · exact HS.out _ (below_setCells (((Below.refl wr.heap.size wr).drew).size) (#[.int .i64 i0, .int .i64 ((t : Int) + 1), .string X] : Array Value).toList 0 _ (HBy26.out))
                      clear hKQ KQ hHeld
                      refine world_is (P := fun W => wpAnyH _ _ _ _ _ _ _ _ W) (fun y27 hw9 => ?_)
                      have HBy27 : Hid (Below wr.heap.size wr y27) := by unfold Hid; rw [← hw9]; exact below_setCells (((Below.refl wr.heap.size wr).drew).size) (#[.int .i64 i0, .int .i64 ((t : Int) + 1), .string X] : Array Value).toList 0 _ (HBy26.out)
                      have HOy27_1 : Hid (Blk y27 wr.drew.heap.size 42 #[.int .i64 i0, .int .i64 ((t : Int) + 1), .string X]) := by unfold Hid; rw [← hw9]; exact blk_setWhole (HOy26_1.out) (#[.int .i64 i0, .int .i64 ((t : Int) + 1), .string X] : Array Value).toList rfl
                      have HOy27_0 : Hid (Blk y27 y24.heap.size 32 #[.int .i64 i0, .int .i64 i1, .int .i64 od, .string K, .int .i64 ((t + 1 : Nat) : Int), .int .i64 0, .int .u64 0]) := by unfold Hid; rw [← hw9]; exact blk_sets_other (Blk.ne_ (HOy26_0.out) (HOy26_1.out) (by decide)) _ 0 _ (HOy26_0.out)
                      clear hw9
                      have hHeld := HS.out _ HBy27.out
                      try simp only [sA, gA]
                      refine' wpAnyH_take (i := 14) (v := ?v14y28) rfl (by kernel_rfl) (by kernel_rfl) (by kernel_rfl) (fun _ _ _ h => h) (Or.inl ⟨by rfl, ?hy14y28⟩) hHeld ?rest14y28
                      case hy14y28 => intro w hSw; (try dsimp only at hSw); go_simp; all_goals with_reducible rfl
                      try simp only [sA, gA]
                      refine wpAnyH_done (by kernel_rfl) ?_ _
                      clear hHeld
                      go_wp2_with fail
                      go_meet
                      exact ⟨_, _, rfl, rfl, rfl, (HBy24.out).size, ((Below.refl wr.heap.size wr).drew).size, HOy27_0.out, HOy27_1.out, HBy27.out⟩
                    ·
                      go_simp
                      refine hKQ.out _ _ ?_ (fun _ => ?_)
                      · exact HS.out _ ((HBy23.out).alloc (HBy23.out).size (.cells #[.int .i64 0, .int .i64 0, .int .i64 0, .string ⟨#[]⟩, .int .i64 0, .int .i64 0, .int .u64 0] 32))
                      clear hKQ KQ hHeld
                      refine world_is (P := fun W => wpAnyH _ _ _ _ _ _ _ _ W) (fun y29 hw9 => ?_)
                      have HBy29 : Hid (Below wr.heap.size wr y29) := by unfold Hid; rw [← hw9]; exact (HBy23.out).alloc (HBy23.out).size (.cells #[.int .i64 0, .int .i64 0, .int .i64 0, .string ⟨#[]⟩, .int .i64 0, .int .i64 0, .int .u64 0] 32)
                      have HOy29_1 : Hid (Blk y29 wr.drew.heap.size 42 #[.int .i64 0, .int .i64 0, .string ⟨#[]⟩]) := by unfold Hid; rw [← hw9]; exact (HOy23_1.out).alloc (.cells #[.int .i64 0, .int .i64 0, .int .i64 0, .string ⟨#[]⟩, .int .i64 0, .int .i64 0, .int .u64 0] 32)
                      have HOy29_0 : Hid (Blk y29 y23.heap.size 32 #[.int .i64 0, .int .i64 0, .int .i64 0, .string ⟨#[]⟩, .int .i64 0, .int .i64 0, .int .u64 0]) := by unfold Hid; rw [← hw9]; exact Blk.new (y23) 32 #[.int .i64 0, .int .i64 0, .int .i64 0, .string ⟨#[]⟩, .int .i64 0, .int .i64 0, .int .u64 0]
                      clear hw9
                      have hHeld := HS.out _ HBy29.out
                      try simp only [sA, gA]
                      refine wpAnyH_ready (rs := [5]) (by kernel_rfl) (by simp) ?_
                      refine AllReadyH.cons rfl (fun KQ hKQ => ?_) AllReadyH.nil
                      go_simp
                      go_at_call 17
                      refine (HSD2.out _ (hB.out.trans (Below.mono (HBy29.out) hB.out.size))).mono ?_
                      rintro e y30 ⟨rfl, hB9⟩
                      have HBy30 := Lib.hid ((HBy29.out).trans (hB9.mono (HBy29.out).size))
                      have HOy30_1 := Lib.hid ((HOy29_1.out).below hB9 (HOy29_1.out).lt)
                      have HOy30_0 := Lib.hid ((HOy29_0.out).below hB9 (HOy29_0.out).lt)
                      clear hB9
                      go_wp2_with fail
                      refine hKQ.out _ _ ?_ (fun hHeld2 => ?_)
                      · exact HS.out _ HBy30.out
                      clear hKQ KQ hHeld
                      have hHeld := hHeld2
                      clear hHeld2
                      try simp only [sA, gA]
                      refine' wpAnyH_take (i := 6) (v := ?v6y30) rfl (by kernel_rfl) (by kernel_rfl) (by kernel_rfl) (fun _ _ _ h => h) (Or.inl ⟨by rfl, ?hy6y30⟩) hHeld ?rest6y30
                      case hy6y30 => intro w hSw; (try dsimp only at hSw); go_simp; all_goals with_reducible rfl
                      try simp only [sA, gA]
                      refine' wpAnyH_take (i := 7) (v := ?v7y30) rfl (by kernel_rfl) (by kernel_rfl) (by kernel_rfl) (fun _ _ _ h => h) (Or.inl ⟨by rfl, ?hy7y30⟩) hHeld ?rest7y30
                      case hy7y30 => intro w hSw; (try dsimp only at hSw); go_simp; all_goals with_reducible rfl
                      try simp only [sA, gA]
                      refine' wpAnyH_take (i := 8) (v := ?v8y30) rfl (by kernel_rfl) (by kernel_rfl) (by kernel_rfl) (fun _ _ _ h => h) (Or.inl ⟨by rfl, ?hy8y30⟩) hHeld ?rest8y30
                      case hy8y30 => intro w hSw; (try dsimp only at hSw); go_simp; all_goals with_reducible rfl
                      try simp only [sA, gA]
                      refine' wpAnyH_take (i := 9) (v := ?v9y30) rfl (by kernel_rfl) (by kernel_rfl) (by kernel_rfl) (fun _ _ _ h => h) (Or.inl ⟨by rfl, ?hy9y30⟩) hHeld ?rest9y30
                      case hy9y30 => intro w hSw; (try dsimp only at hSw); go_simp; all_goals with_reducible rfl
                      try simp only [sA, gA]
                      refine wpAnyH_ready (rs := [12]) (by kernel_rfl) (by simp) ?_
                      refine AllReadyH.cons rfl (fun KQ hKQ => ?_) AllReadyH.nil
                      refine wp_store_mid 32 _ _ rfl (y23.heap.size) 0 #[.int .i64 i0, .int .i64 i1, .int .i64 od, .string K, .int .i64 ((t + 1 : Nat) : Int), .int .i64 0, .int .u64 0] rfl rfl ?h1y31 infoSes hone1.out ?h4y31
                      case h1y31 => exact there_of_blk (o := 0) (HOy30_0.out) (Nat.le_refl _)
                      case h4y31 =>
                      refine hKQ.out _ _ ?_ (fun _ => ?_)
                      · exact HS.out _ (below_setCells ((HBy23.out).size) (#[.int .i64 i0, .int .i64 i1, .int .i64 od, .string K, .int .i64 ((t + 1 : Nat) : Int), .int .i64 0, .int .u64 0] : Array Value).toList 0 _ (HBy30.out))
                      clear hKQ KQ hHeld
                      refine world_is (P := fun W => wpAnyH _ _ _ _ _ _ _ _ W) (fun y31 hw9 => ?_)
                      have HBy31 : Hid (Below wr.heap.size wr y31) := by unfold Hid; rw [← hw9]; exact below_setCells ((HBy23.out).size) (#[.int .i64 i0, .int .i64 i1, .int .i64 od, .string K, .int .i64 ((t + 1 : Nat) : Int), .int .i64 0, .int .u64 0] : Array Value).toList 0 _ (HBy30.out)
                      have HOy31_1 : Hid (Blk y31 wr.drew.heap.size 42 #[.int .i64 0, .int .i64 0, .string ⟨#[]⟩]) := by unfold Hid; rw [← hw9]; exact blk_sets_other (Blk.ne_ (HOy30_1.out) (HOy30_0.out) (by decide)) _ 0 _ (HOy30_1.out)
                      have HOy31_0 : Hid (Blk y31 y23.heap.size 32 #[.int .i64 i0, .int .i64 i1, .int .i64 od, .string K, .int .i64 ((t + 1 : Nat) : Int), .int .i64 0, .int .u64 0]) := by unfold Hid; rw [← hw9]; exact blk_setWhole (HOy30_0.out) (#[.int .i64 i0, .int .i64 i1, .int .i64 od, .string K, .int .i64 ((t + 1 : Nat) : Int), .int .i64 0, .int .u64 0] : Array Value).toList rfl
                      clear hw9
                      have hHeld := HS.out _ HBy31.out
                      try simp only [sA, gA]
                      refine wpAnyH_ready (rs := [13]) (by kernel_rfl) (by simp) ?_
                      refine AllReadyH.cons rfl (fun KQ hKQ => ?_) AllReadyH.nil
                      refine wp_store_mid 42 _ _ rfl (wr.drew.heap.size) 0 #[.int .i64 i0, .int .i64 ((t : Int) + 1), .string X] rfl rfl ?h1y32 infoMsg hone2.out ?h4y32
                      case h1y32 => exact there_of_blk (o := 0) (HOy31_1.out) (Nat.le_refl _)
                      case h4y32 =>
                      refine hKQ.out _ _ ?_ (fun _ => ?_)
                      · exact HS.out _ (below_setCells (((Below.refl wr.heap.size wr).drew).size) (#[.int .i64 i0, .int .i64 ((t : Int) + 1), .string X] : Array Value).toList 0 _ (HBy31.out))
                      clear hKQ KQ hHeld
                      refine world_is (P := fun W => wpAnyH _ _ _ _ _ _ _ _ W) (fun y32 hw9 => ?_)
                      have HBy32 : Hid (Below wr.heap.size wr y32) := by unfold Hid; rw [← hw9]; exact below_setCells (((Below.refl wr.heap.size wr).drew).size) (#[.int .i64 i0, .int .i64 ((t : Int) + 1), .string X] : Array Value).toList 0 _ (HBy31.out)
                      have HOy32_1 : Hid (Blk y32 wr.drew.heap.size 42 #[.int .i64 i0, .int .i64 ((t : Int) + 1), .string X]) := by unfold Hid; rw [← hw9]; exact blk_setWhole (HOy31_1.out) (#[.int .i64 i0, .int .i64 ((t : Int) + 1), .string X] : Array Value).toList rfl
                      have HOy32_0 : Hid (Blk y32 y23.heap.size 32 #[.int .i64 i0, .int .i64 i1, .int .i64 od, .string K, .int .i64 ((t + 1 : Nat) : Int), .int .i64 0, .int .u64 0]) := by unfold Hid; rw [← hw9]; exact blk_sets_other (Blk.ne_ (HOy31_0.out) (HOy31_1.out) (by decide)) _ 0 _ (HOy31_0.out)
                      clear hw9
                      have hHeld := HS.out _ HBy32.out
                      try simp only [sA, gA]
                      refine' wpAnyH_take (i := 14) (v := ?v14y33) rfl (by kernel_rfl) (by kernel_rfl) (by kernel_rfl) (fun _ _ _ h => h) (Or.inl ⟨by rfl, ?hy14y33⟩) hHeld ?rest14y33
                      case hy14y33 => intro w hSw; (try dsimp only at hSw); go_simp; all_goals with_reducible rfl
                      try simp only [sA, gA]
                      refine wpAnyH_done (by kernel_rfl) ?_ _
                      clear hHeld
                      go_wp2_with fail
                      go_meet
                      exact ⟨_, _, rfl, rfl, rfl, (HBy23.out).size, ((Below.refl wr.heap.size wr).drew).size, HOy32_0.out, HOy32_1.out, HBy32.out⟩
                case rest => as_aux_lemma =>
                  obtain ⟨g1, g2, rfl, rfl, rfl, hl1, hl2, HN, HM, HBn⟩ := hcut
                  have hF5 := Lib.hid (hF.out.below HBn.out hF.out.lt)
                  have hT5 := Lib.hid (hT.out.below HBn.out hT.out.lt)
                  have hR5 := Lib.hid (ownsRow_below hR.out HBn.out (Nat.le_refl _))
                  have hB5 := Lib.hid (hB.out.trans (HBn.out.mono hB.out.size))
                  have hn1 : Hid (gF ≠ g1 ∧ gT ≠ g1 ∧ gF ≠ g2 ∧ gT ≠ g2) := by have h1 := hF.out.lt; have h2 := hT.out.lt; have h3 := hl1.out; have h4 := hl2.out; unfold Hid; omega
                  have hn2 : gF ≠ g1 := hn1.out.1
                  have hn3 : gF ≠ g2 := hn1.out.2.2.1
                  clear hF hT hR hB HBn HS HSD2 hl1 hl2
                  have m1 := HM.out.cell 1
                  have c0 := HN.out.cell 0; have f0 := hF5.out.frozen 0; have k0 := hF5.out.cell 0; have c1 := HN.out.cell 1; have f1 := hF5.out.frozen 1; have k1 := hF5.out.cell 1; have c2 := HN.out.cell 2; have f2 := hF5.out.frozen 2; have k2 := hF5.out.cell 2; have c3 := HN.out.cell 3; have f3 := hF5.out.frozen 3; have k3 := hF5.out.cell 3; have c4 := HN.out.cell 4; have f4 := hF5.out.frozen 4; have k4 := hF5.out.cell 4; have c5 := HN.out.cell 5; have f5 := hF5.out.frozen 5; have k5 := hF5.out.cell 5; have c6 := HN.out.cell 6; have f6 := hF5.out.frozen 6; have k6 := hF5.out.cell 6
                  go_upto_region 25 with fail
                  refine world_is (P := fun W => Code.wp _ _ _ _ W) (fun Wc hWc => ?_)
                  have hF6 : Hid (Blk Wc gF 32 #[.int .i64 i0, .int .i64 i1, .int .i64 od, .string K, .int .i64 ((t + 1 : Nat) : Int), .int .i64 0, .int .u64 0]) := by unfold Hid; rw [← hWc]; exact blk7_put hF5.out _ _ _ _ _ _ _
                  have hT6 : Hid (Blk Wc gT 32 #[.int .i64 i0, .int .i64 i1, .int .i64 sd, .string K, .int .i64 0, .int .i64 0, .int .u64 0]) := by unfold Hid; rw [← hWc]; exact blk_set7_other hT5.out (Nat.ne_of_gt hFT.out) _ _ _ _ _ _ _
                  have hM6 : Hid (Blk Wc g2 42 #[.int .i64 i0, .int .i64 ((t : Int) + 1), .string X]) := by unfold Hid; rw [← hWc]; exact blk_set7_other HM.out (fun h => hn3 h.symm) _ _ _ _ _ _ _
                  have hR6 : Hid (Wc.ownsRow (gT + 1) 42 3 u14 t (rowsM s0 l t)) := by unfold Hid; rw [← hWc]; exact row_set7 hR5.out (Nat.lt_succ_of_lt hFT.out) _ _ _ _ _ _ _
                  have hB6 : Hid (Below w.heap.size w Wc) := by unfold Hid; rw [← hWc]; exact below_set7 hB5.out hgw.out _ _ _ _ _ _ _
                  have hb6 : Hid (gT + 1 ≤ Wc.heap.size) := hT6.out.lt
                  clear hWc m1 hF5 hT5 hR5 hB5 HN HM hn1 hn2 hn3 c0 f0 k0 c1 f1 k1 c2 f2 k2 c3 f3 k3 c4 f4 k4 c5 f5 k5 c6 f6 k6
                  have m0 := hM6.out.cell 0
                  have m1 := hM6.out.cell 1
                  have m2 := hM6.out.cell 2
                  have h1m : Hid (t + 1 ≤ 1000000) := by unfold Hid; omega
                  have hone3 : Hid (∀ u ∈ (#[.int .i64 i0, .int .i64 ((t : Int) + 1), .string X] : Array Value).toList, u.oneCell' = true) := fun u hu => Array.all_eq_true_iff_forall_mem.1 hone2.out u (by simpa using hu)
                  go_wp2_with (at_builtin; refine wp_gpush 70 42 (.agg #[.int .i64 0, .int .i64 0, .string ⟨#[]⟩]) 3 32 Tryd.underlying70 infoMsg3 rfl (by decide) (by decide) rfl _ _ rfl (gT + 1) u14 t (rowsM s0 l t) rfl hR6.out 1 1 #[.int .i64 i0, .int .i64 ((t : Int) + 1), .string X] rfl rfl hone3.out h1m.out hb6.out ?_; intro v9 w9 hP9; have HP9 := Lib.hid hP9; clear hP9)
                  have hB9 := Lib.hid (HP9.out.bel _ _ (Nat.le_trans (Nat.le_trans hgw.out (Nat.le_of_lt hFT.out)) (Nat.le_succ _)) hb6.out hB6.out)
                  have hb9 : Hid (Below (gT + 1) Wc w9) := HP9.out.bel _ _ (Nat.le_refl _) hb6.out ((Below.refl _ Wc).mono hb6.out)
                  refine ⟨⟨t + 1, by go_num, hltH.out, ?_, hF6.out.below hb9.out (Nat.lt_succ_of_lt hFT.out), hT6.out.below hb9.out (Nat.lt_succ_self _), hB9.out⟩, ?_⟩
                  · rw [hsn.out, hmc.out]
                    exact HP9.out.row
                  · have := hltH.out
                    simp [intOf]
                    omega
              · have d1 : decide (t < n) = false := decide_eq_false hlt
                have d2 : decide ((t : Int) < (n : Int)) = false := decide_eq_false (by omega)
                have et : t = n := Nat.le_antisymm ht (Nat.le_of_not_lt hlt)
                have hR1 : Hid (wr.ownsRow (gT + 1) 42 3 u14 n (rowsM s0 l n)) := by rw [et] at hR; exact hR
                have hF1 : Hid (Blk wr gF 32 #[.int .i64 i0, .int .i64 i1, .int .i64 od, .string K, .int .i64 (n : Int), .int .i64 0, .int .u64 0]) := by rw [et] at hF; exact hF
                clear et hR hF ht hlt
                have mk : ∀ wx, (Instr.makeSlice 71 (.int .i64 n) (.int .i64 n)).run Tryd.prog wx = .ok (.slice (some ⟨wx.heap.size, 0, none⟩) n n) (wx.alloc (.cells (madeCells #[.bool false] n) 4)) := fun wx => run_make_row' 71 4 (.bool false) 1 Tryd.underlying71 infoBool rfl .i64 .i64 n (by have := h12H.out; omega) (by have := h12H.out; omega) wx
                by_cases hn0 : 0 < n
                · have z1 : decide (0 < n) = true := decide_eq_true hn0
                  have z2 : decide ((0 : Int) < (n : Int)) = true := decide_eq_true (by omega)
                  have z3 : ¬ (n : Int) = 0 := by omega
                  obtain ⟨g9, c2, hp, hb9, hg9⟩ := grow_some hR1.out hn0
                  subst hp
                  have hSe1 : Hid (SentAt wr g9 s0 l n) := sent_of_row hR1.out hg9
                  have hl9 : Hid (gT < g9) := by unfold Hid; omega
                  have hlG : Hid (g9 < wr.heap.size) := hg9
                  clear hb9 hg9 hR1
                  go_upto_region 27 with fail
                  refine world_is (P := fun W => Code.wp _ _ _ _ W) (fun W6 hW6 => ?_)
                  have hBx : Below wr.heap.size wr W6 := by rw [← hW6]; exact (Below.refl _ wr).alloc (Nat.le_refl _) _
                  have hFl6 : Hid (FlagsAt W6 wr.heap.size (List.replicate n false)) := by unfold Hid; rw [← hW6]; exact flags_made wr n
                  obtain ⟨gG, hgG⟩ : ∃ g, wr.heap.size = g := ⟨_, rfl⟩
                  have hE0 : Hid (DEnv w W6 gT gF wr.heap.size g9 (sesC s0).toArray #[.int .i64 i0, .int .i64 i1, .int .i64 od, .string K, .int .i64 (n : Int), .int .i64 0, .int .u64 0] (List.replicate n false) s0 l n) := ⟨by rw [hTO.out]; exact hT.out.below hBx hT.out.lt, hF1.out.below hBx hF1.out.lt, hFl6.out, hSe1.out.below hBx, hB.out.trans (hBx.mono hB.out.size)⟩
                  rw [hgG] at hE0 hlG ⊢
                  have hneG : Hid (gG ≠ gT ∧ gG ≠ gF ∧ gG ≠ g9 ∧ gT ≠ g9 ∧ gF ≠ gT ∧ w.heap.size ≤ gG ∧ w.heap.size ≤ gT) := by have h1 := hl9.out; have h2 := hlG.out; have h3 := hFT.out; have h4 := hgw.out; unfold Hid; omega
                  clear hW6 hBx hFl6 hgG hT hF1 hSe1 hB hlG hl9 mk
                  go_wp2_with fail
                  go_loopw [20] (fun v wr => ∃ (i : Nat) (T : Ses) (G : List Bool), v = .int .i64 i ∧ Hid (i ≤ m) ∧ Hid (GOk s0 G T) ∧ Hid (G.length = n) ∧ Hid (DEnv w wr gT gF gG g9 (sesC T).toArray #[.int .i64 i0, .int .i64 i1, .int .i64 od, .string K, .int .i64 (n : Int), .int .i64 0, .int .u64 0] G s0 l n)) (fun v _ => m - (intOf v).toNat)
                  case atStart => exact ⟨0, s0, List.replicate n false, rfl, Nat.zero_le _, GOk.start hv0.out hf0.out h00.out n h12H.out, List.length_replicate, hE0⟩
                  case round =>
                    clear hE0
                    obtain ⟨i, T, G, rfl, hi, hG, hGl, hE⟩ := hrel
                    by_cases hlt : i < m
                    · have d1 : decide (i < m) = true := decide_eq_true hlt
                      have d2 : decide ((i : Int) < (m : Int)) = true := decide_eq_true (by omega)
                      have ib : (i : Int) < 40 := int_lt40 i (Nat.lt_of_lt_of_le hlt h40H.out)
                      obtain ⟨y, hy⟩ : ∃ y, ol[i]? = some y := ⟨_, List.getElem?_eq_getElem (by rw [hmH.out]; exact hlt)⟩
                      obtain ⟨go, oo, hOe, hgl, hcell⟩ := HO.out.at_ i y hy
                      have cy : wr.cell? ⟨go, oo + i, none⟩ = some (.int .u8 (y.toNat : Int)) := (hE.out.bel.cell (p := ⟨go, oo + i, none⟩) hgl).trans hcell
                      have hiy : ∀ wx, (Instr.indexAt 65 (.slice Ao m co) (.int .i64 i)).run Tryd.prog wx = .ok (.pointer (some ⟨go, oo + i, none⟩)) wx := fun wx => by
                        rw [hOe]
                        exact bytes_at wx go oo m co i hlt
                      obtain ⟨k, hkd⟩ : ∃ k, y.toNat % n = k := ⟨_, rfl⟩
                      have hk : Hid (k < n) := by unfold Hid; rw [← hkd]; exact Nat.mod_lt _ hn0
                      have hmod : (wrap64 (y.toNat : Int)).tmod (n : Int) = (k : Int) := by rw [← hkd]; exact rem_mod y.toNat n y.toNat_lt hn0
                      obtain ⟨x, hx⟩ : ∃ x, l[k]? = some x := ⟨_, List.getElem?_eq_getElem (by rw [hlen.out]; exact hk.out)⟩
                      have hxH := Lib.hid hx
                      have hxs := Lib.hid (hall2.out k x hx)
                      obtain ⟨gk, hgk'⟩ : ∃ b, G[k]? = some b := ⟨_, List.getElem?_eq_getElem (by rw [hGl.out]; exact hk.out)⟩
                      have hgk := Lib.hid hgk'
                      obtain ⟨gx, ox, hAe, hgxl, hcx⟩ := HA.out.at_ k x hx
                      have HTX : Hid (∀ wx, Below w.heap.size w wx → wx.cell? ⟨gx, ox + k, none⟩ = some (.string x)) := fun wx hB9 => (hB9.cell (p := ⟨gx, ox + k, none⟩) hgxl).trans hcx
                      have hix : ∀ wx, (Instr.indexAt 64 (.slice A n c) (.int .i64 k)).run Tryd.prog wx = .ok (.pointer (some ⟨gx, ox + k, none⟩)) wx := fun wx => by
                        rw [hAe]
                        exact strs_index wx gx ox n c k hk.out
                      have hib := fun wx => bools_index wx gG n n k hk.out
                      have him := fun wx => msgs_index wx g9 n c2 k hk.out
                      have hrec := hG.out.recv k gk hgk' x
                      have hms : Hid ((msgOf s0 k x).text.size ≤ 1000000) := by unfold Hid; rw [msg_size]; have := hxs.out; omega
                      have kb : (k : Int) < 12 := int_lt12 k (Nat.lt_of_lt_of_le hk.out h12H.out)
                      have HRC0 : Hid (∀ wx, Below w.heap.size w wx → Calls Tryd.prog 19 #[sesV T, msgV (msgOf s0 k x)] wx fun e w' => e = .returned (.tuple #[sesV (receiveP T (msgOf s0 k x)).1, .string (receiveP T (msgOf s0 k x)).2.1, .int .i64 ((receiveP T (msgOf s0 k x)).2.2 : Nat)]) ∧ Below wx.heap.size wx w') := fun wx hB9 => receive_any wx T _ hG.out.fits hms.out (HK.out.below hB9)
                      have hffit := from_fits hf0.out hside.out n (Nat.le_trans h12H.out (by decide))
                      have HRF0 : Hid (∀ wx, Below w.heap.size w wx → Calls Tryd.prog 19 #[sesV (fromS s0 n), msgV (msgOf s0 k x)] wx fun e w' => e = .returned (.tuple #[sesV (receiveP (fromS s0 n) (msgOf s0 k x)).1, .string (receiveP (fromS s0 n) (msgOf s0 k x)).2.1, .int .i64 ((receiveP (fromS s0 n) (msgOf s0 k x)).2.2 : Nat)]) ∧ Below wx.heap.size wx w') := fun wx hB9 => receive_any wx _ _ hffit hms.out (HK.out.below hB9)
                      have HSF0 : Hid (∀ wx, Below w.heap.size w wx → Calls Tryd.prog 20 #[sesV (fromS s0 n), msgV (msgOf s0 k x)] wx fun e w' => e = .returned (sldV (receiveP (fromS s0 n) (msgOf s0 k x)).1 noMsg (receiveP (fromS s0 n) (msgOf s0 k x)).2.1 (receiveP (fromS s0 n) (msgOf s0 k x)).2.2) ∧ Below wx.heap.size wx w') := fun wx hB9 => rreceive_any wx _ _ hffit hms.out (num_in k (Nat.lt_of_lt_of_le hk.out h12H.out)) (HK2.out.below hB9)
                      obtain ⟨R1, hR1⟩ : ∃ R, receiveP T (msgOf s0 k x) = R := ⟨_, rfl⟩
                      obtain ⟨R2, hR2⟩ : ∃ R, receiveP (fromS s0 n) (msgOf s0 k x) = R := ⟨_, rfl⟩
                      rw [hR1] at HRC0 hrec
                      rw [hR2] at HRF0 HSF0
                      have hrecH := Lib.hid hrec
                      clear hrec hR1 hR2 hkd hx hgk' hAe hcx hgxl hOe hcell hy hffit
                      unfold msgV at HRC0 HRF0 HSF0
                      rw [HMC.out k x] at HRC0 HRF0 HSF0
                      rw [HFS.out n] at HRF0 HSF0
                      obtain ⟨X, hX'⟩ : ∃ X, (msgOf s0 k x).text = X := ⟨_, rfl⟩
                      have hX := Lib.hid hX'
                      rw [hX'] at HRC0 HRF0 HSF0 hms
                      clear hX'
                      obtain ⟨⟨na0, na1, na2, na3, na4, na5, na6⟩, TX, E⟩ := R1
                      obtain ⟨⟨pb0, pb1, pb2, pb3, pb4, pb5, pb6⟩, T2, E2⟩ := R2
                      obtain ⟨ta0, ta1, ta2, ta3, ta4, ta5, ta6⟩ := T
                      have HRC : Hid (∀ wx, Below w.heap.size w wx → Calls Tryd.prog 19 #[.agg #[.int .i64 ta0, .int .i64 ta1, .int .i64 ta2, .string ta3, .int .i64 ta4, .int .i64 ta5, .int .u64 (ta6 : Int)], .agg #[.int .i64 i0, .int .i64 ((k : Int) + 1), .string X]] wx fun e w' => e = .returned (.tuple #[.agg #[.int .i64 na0, .int .i64 na1, .int .i64 na2, .string na3, .int .i64 na4, .int .i64 na5, .int .u64 (na6 : Int)], .string TX, .int .i64 (E : Int)]) ∧ Below wx.heap.size wx w') := HRC0
                      have HRF : Hid (∀ wx, Below w.heap.size w wx → Calls Tryd.prog 19 #[.agg #[.int .i64 i0, .int .i64 i1, .int .i64 od, .string K, .int .i64 (n : Int), .int .i64 0, .int .u64 0], .agg #[.int .i64 i0, .int .i64 ((k : Int) + 1), .string X]] wx fun e w' => e = .returned (.tuple #[.agg #[.int .i64 pb0, .int .i64 pb1, .int .i64 pb2, .string pb3, .int .i64 pb4, .int .i64 pb5, .int .u64 (pb6 : Int)], .string T2, .int .i64 (E2 : Int)]) ∧ Below wx.heap.size wx w') := HRF0
                      have HSF : Hid (∀ wx, Below w.heap.size w wx → Calls Tryd.prog 20 #[.agg #[.int .i64 i0, .int .i64 i1, .int .i64 od, .string K, .int .i64 (n : Int), .int .i64 0, .int .u64 0], .agg #[.int .i64 i0, .int .i64 ((k : Int) + 1), .string X]] wx fun e w' => e = .returned (.agg #[.int .i64 pb0, .int .i64 pb1, .int .i64 pb2, .string pb3, .int .i64 pb4, .int .i64 pb5, .int .u64 (pb6 : Int), .int .i64 0, .int .i64 0, .string ⟨#[]⟩, .string T2, .int .i64 (E2 : Int)]) ∧ Below wx.heap.size wx w') := HSF0
                      clear HRC0 HRF0 HSF0
                      have HS : Hid (∀ wx, Below wr.heap.size wr wx → wx.cell? ⟨gT, 0, none⟩ = some (.int .i64 ta0) ∧ wx.cell? ⟨gT, 1, none⟩ = some (.int .i64 ta1) ∧ wx.cell? ⟨gT, 2, none⟩ = some (.int .i64 ta2) ∧ wx.cell? ⟨gT, 3, none⟩ = some (.string ta3) ∧ wx.cell? ⟨gT, 4, none⟩ = some (.int .i64 ta4) ∧ wx.cell? ⟨gT, 5, none⟩ = some (.int .i64 ta5) ∧ wx.cell? ⟨gT, 6, none⟩ = some (.int .u64 (ta6 : Int)) ∧ wx.cell? ⟨g9, 3 * k, none⟩ = some (.int .i64 i0) ∧ wx.cell? ⟨g9, 3 * k + 1, none⟩ = some (.int .i64 ((k : Int) + 1)) ∧ wx.cell? ⟨g9, 3 * k + 2, none⟩ = some (.string X)) := fun wx hB9 => ⟨((hE.out.below hB9).t).cell 0, ((hE.out.below hB9).t).cell 1, ((hE.out.below hB9).t).cell 2, ((hE.out.below hB9).t).cell 3, ((hE.out.below hB9).t).cell 4, ((hE.out.below hB9).t).cell 5, ((hE.out.below hB9).t).cell 6, (((hE.out.below hB9).se.three k hk.out x hxH.out).1).trans (by rw [hid0.out]), ((hE.out.below hB9).se.three k hk.out x hxH.out).2.1, (((hE.out.below hB9).se.three k hk.out x hxH.out).2.2).trans (by rw [hX.out])⟩
                      have hltH := Lib.hid hlt
                      clear hlt
                      go_upto_region 31 with fail
                      clear hmod hiy z3
                      go_cut [22, 23, 24] from 146 to 251 (fun p1 v2 v3 wx => ∃ g1, p1 = .pointer (some ⟨g1, 0, none⟩) ∧ v2 = .string TX ∧ v3 = .int .i64 (E : Int) ∧ Hid (wr.heap.size ≤ g1) ∧ Hid (Blk wx g1 32 #[.int .i64 na0, .int .i64 na1, .int .i64 na2, .string na3, .int .i64 na4, .int .i64 na5, .int .u64 (na6 : Int)]) ∧ Hid (Below wr.heap.size wr wx))
                      case first => as_aux_lemma =>
                        refine wp_region_held_drew (S := (fun wx => wx.cell? ⟨gT, 0, none⟩ = some (.int .i64 ta0) ∧ wx.cell? ⟨gT, 1, none⟩ = some (.int .i64 ta1) ∧ wx.cell? ⟨gT, 2, none⟩ = some (.int .i64 ta2) ∧ wx.cell? ⟨gT, 3, none⟩ = some (.string ta3) ∧ wx.cell? ⟨gT, 4, none⟩ = some (.int .i64 ta4) ∧ wx.cell? ⟨gT, 5, none⟩ = some (.int .i64 ta5) ∧ wx.cell? ⟨gT, 6, none⟩ = some (.int .u64 (ta6 : Int)) ∧ wx.cell? ⟨g9, 3 * k, none⟩ = some (.int .i64 i0) ∧ wx.cell? ⟨g9, 3 * k + 1, none⟩ = some (.int .i64 ((k : Int) + 1)) ∧ wx.cell? ⟨g9, 3 * k + 2, none⟩ = some (.string X))) (by kernel_rfl) (HS.out _ (Below.refl _ wr).drew) (fun hHeld => ?_)
                        refine' wpAnyH_take (i := 0) (v := ?v0zr) rfl (by kernel_rfl) (by kernel_rfl) (by kernel_rfl) (fun _ _ _ h => h) (Or.inl ⟨by rfl, ?hy0zr⟩) hHeld ?rest0zr
                        case hy0zr => intro w hSw; (try dsimp only at hSw); go_simp; all_goals with_reducible rfl
                        try simp only [sA, gA]
                        refine' wpAnyH_take (i := 1) (v := ?v1zr) rfl (by kernel_rfl) (by kernel_rfl) (by kernel_rfl) (fun _ _ _ h => h) (Or.inl ⟨by rfl, ?hy1zr⟩) hHeld ?rest1zr
                        case hy1zr => intro w hSw; (try dsimp only at hSw); go_simp; all_goals with_reducible rfl
                        try simp only [sA, gA]
                        refine' wpAnyH_take (i := 2) (v := ?v2zr) rfl (by kernel_rfl) (by kernel_rfl) (by kernel_rfl) (fun _ _ _ h => h) (Or.inl ⟨by rfl, ?hy2zr⟩) hHeld ?rest2zr
                        case hy2zr => intro w hSw; (try dsimp only at hSw); go_simp; all_goals with_reducible rfl
                        try simp only [sA, gA]
                        refine' wpAnyH_take (i := 3) (v := ?v3zr) rfl (by kernel_rfl) (by kernel_rfl) (by kernel_rfl) (fun _ _ _ h => h) (Or.inl ⟨by rfl, ?hy3zr⟩) hHeld ?rest3zr
                        case hy3zr => intro w hSw; (try dsimp only at hSw); go_simp; all_goals with_reducible rfl
                        try simp only [sA, gA]
                        refine' wpAnyH_take (i := 4) (v := ?v4zr) rfl (by kernel_rfl) (by kernel_rfl) (by kernel_rfl) (fun _ _ _ h => h) (Or.inl ⟨by rfl, ?hy4zr⟩) hHeld ?rest4zr
                        case hy4zr => intro w hSw; (try dsimp only at hSw); go_simp; all_goals with_reducible rfl
                        try simp only [sA, gA]
                        refine wpAnyH_ready (rs := [5, 10]) (by kernel_rfl) (by simp) ?_
                        refine AllReadyH.cons rfl (fun KQ hKQ => ?_) (AllReadyH.cons rfl (fun KQ hKQ => ?_) AllReadyH.nil)
                        ·
                          go_simp
                          go_at_call 19
                          refine (HRC.out _ (hE.out.bel.trans (Below.mono ((Below.refl wr.heap.size wr).drew) hE.out.bel.size))).mono ?_
                          rintro e z1 ⟨rfl, hB9⟩
                          have HBz1 := Lib.hid (((Below.refl wr.heap.size wr).drew).trans (hB9.mono ((Below.refl wr.heap.size wr).drew).size))
                          clear hB9
                          go_wp2_with fail
                          refine hKQ.out _ _ ?_ (fun hHeld2 => ?_)
                          · exact HS.out _ HBz1.out
                          clear hKQ KQ hHeld
                          have hHeld := hHeld2
                          clear hHeld2
                          try simp only [sA, gA]
                          refine' wpAnyH_take (i := 6) (v := ?v6z1) rfl (by kernel_rfl) (by kernel_rfl) (by kernel_rfl) (fun _ _ _ h => h) (Or.inl ⟨by rfl, ?hy6z1⟩) hHeld ?rest6z1
                          case hy6z1 => intro w hSw; (try dsimp only at hSw); go_simp; all_goals with_reducible rfl
                          try simp only [sA, gA]
                          refine' wpAnyH_take (i := 7) (v := ?v7z1) rfl (by kernel_rfl) (by kernel_rfl) (by kernel_rfl) (fun _ _ _ h => h) (Or.inl ⟨by rfl, ?hy7z1⟩) hHeld ?rest7z1
                          case hy7z1 => intro w hSw; (try dsimp only at hSw); go_simp; all_goals with_reducible rfl
                          try simp only [sA, gA]
                          refine' wpAnyH_take (i := 8) (v := ?v8z1) rfl (by kernel_rfl) (by kernel_rfl) (by kernel_rfl) (fun _ _ _ h => h) (Or.inl ⟨by rfl, ?hy8z1⟩) hHeld ?rest8z1
                          case hy8z1 => intro w hSw; (try dsimp only at hSw); go_simp; all_goals with_reducible rfl
                          try simp only [sA, gA]
                          refine' wpAnyH_take (i := 9) (v := ?v9z1) rfl (by kernel_rfl) (by kernel_rfl) (by kernel_rfl) (fun _ _ _ h => h) (Or.inl ⟨by rfl, ?hy9z1⟩) hHeld ?rest9z1
                          case hy9z1 => intro w hSw; (try dsimp only at hSw); go_simp; all_goals with_reducible rfl
                          try simp only [sA, gA]
                          refine wpAnyH_ready (rs := [10]) (by kernel_rfl) (by simp) ?_
                          refine AllReadyH.cons rfl (fun KQ hKQ => ?_) AllReadyH.nil
                          go_simp
                          refine hKQ.out _ _ ?_ (fun _ => ?_)
                          · exact HS.out _ ((HBz1.out).alloc (HBz1.out).size (.cells #[.int .i64 0, .int .i64 0, .int .i64 0, .string ⟨#[]⟩, .int .i64 0, .int .i64 0, .int .u64 0] 32))
                          clear hKQ KQ hHeld
                          refine world_is (P := fun W => wpAnyH _ _ _ _ _ _ _ _ W) (fun z2 hw9 => ?_)
                          have HBz2 : Hid (Below wr.heap.size wr z2) := by unfold Hid; rw [← hw9]; exact (HBz1.out).alloc (HBz1.out).size (.cells #[.int .i64 0, .int .i64 0, .int .i64 0, .string ⟨#[]⟩, .int .i64 0, .int .i64 0, .int .u64 0] 32)
                          have HOz2_0 : Hid (Blk z2 z1.heap.size 32 #[.int .i64 0, .int .i64 0, .int .i64 0, .string ⟨#[]⟩, .int .i64 0, .int .i64 0, .int .u64 0]) := by unfold Hid; rw [← hw9]; exact Blk.new (z1) 32 #[.int .i64 0, .int .i64 0, .int .i64 0, .string ⟨#[]⟩, .int .i64 0, .int .i64 0, .int .u64 0]
                          clear hw9
                          have hHeld := HS.out _ HBz2.out
                          try simp only [sA, gA]
                          refine wpAnyH_ready (rs := [11]) (by kernel_rfl) (by simp) ?_
                          refine AllReadyH.cons rfl (fun KQ hKQ => ?_) AllReadyH.nil
                          refine wp_store_mid 32 _ _ rfl (z1.heap.size) 0 #[.int .i64 na0, .int .i64 na1, .int .i64 na2, .string na3, .int .i64 na4, .int .i64 na5, .int .u64 (na6 : Int)] rfl rfl ?h1z3 infoSes (all_oneCell_toArray (sesC_one ⟨na0, na1, na2, na3, na4, na5, na6⟩)) ?h4z3
                          case h1z3 => exact there_of_blk (o := 0) (HOz2_0.out) (Nat.le_refl _)
                          case h4z3 =>
                          refine hKQ.out _ _ ?_ (fun _ => ?_)
                          · exact HS.out _ (below_setCells ((HBz1.out).size) (#[.int .i64 na0, .int .i64 na1, .int .i64 na2, .string na3, .int .i64 na4, .int .i64 na5, .int .u64 (na6 : Int)] : Array Value).toList 0 _ (HBz2.out))
                          clear hKQ KQ hHeld
                          refine world_is (P := fun W => wpAnyH _ _ _ _ _ _ _ _ W) (fun z3 hw9 => ?_)
                          have HBz3 : Hid (Below wr.heap.size wr z3) := by unfold Hid; rw [← hw9]; exact below_setCells ((HBz1.out).size) (#[.int .i64 na0, .int .i64 na1, .int .i64 na2, .string na3, .int .i64 na4, .int .i64 na5, .int .u64 (na6 : Int)] : Array Value).toList 0 _ (HBz2.out)
                          have HOz3_0 : Hid (Blk z3 z1.heap.size 32 #[.int .i64 na0, .int .i64 na1, .int .i64 na2, .string na3, .int .i64 na4, .int .i64 na5, .int .u64 (na6 : Int)]) := by unfold Hid; rw [← hw9]; exact blk_setWhole (HOz2_0.out) (#[.int .i64 na0, .int .i64 na1, .int .i64 na2, .string na3, .int .i64 na4, .int .i64 na5, .int .u64 (na6 : Int)] : Array Value).toList rfl
                          clear hw9
                          have hHeld := HS.out _ HBz3.out
                          try simp only [sA, gA]
                          refine' wpAnyH_take (i := 12) (v := ?v12z4) rfl (by kernel_rfl) (by kernel_rfl) (by kernel_rfl) (fun _ _ _ h => h) (Or.inl ⟨by rfl, ?hy12z4⟩) hHeld ?rest12z4
                          case hy12z4 => intro w hSw; (try dsimp only at hSw); go_simp; all_goals with_reducible rfl
                          try simp only [sA, gA]
                          refine' wpAnyH_take (i := 13) (v := ?v13z5) rfl (by kernel_rfl) (by kernel_rfl) (by kernel_rfl) (fun _ _ _ h => h) (Or.inl ⟨by rfl, ?hy13z5⟩) hHeld ?rest13z5
                          case hy13z5 => intro w hSw; (try dsimp only at hSw); go_simp; all_goals with_reducible rfl
                          try simp only [sA, gA]
                          refine wpAnyH_done (by kernel_rfl) ?_ _
                          clear hHeld
                          go_wp2_with fail
                          go_meet
                          exact ⟨_, rfl, rfl, rfl, (HBz1.out).size, HOz3_0.out, HBz3.out⟩
                        ·
                          go_simp
                          refine hKQ.out _ _ ?_ (fun _ => ?_)
                          · exact HS.out _ (((Below.refl wr.heap.size wr).drew).alloc ((Below.refl wr.heap.size wr).drew).size (.cells #[.int .i64 0, .int .i64 0, .int .i64 0, .string ⟨#[]⟩, .int .i64 0, .int .i64 0, .int .u64 0] 32))
                          clear hKQ KQ hHeld
                          refine world_is (P := fun W => wpAnyH _ _ _ _ _ _ _ _ W) (fun z6 hw9 => ?_)
                          have HBz6 : Hid (Below wr.heap.size wr z6) := by unfold Hid; rw [← hw9]; exact ((Below.refl wr.heap.size wr).drew).alloc ((Below.refl wr.heap.size wr).drew).size (.cells #[.int .i64 0, .int .i64 0, .int .i64 0, .string ⟨#[]⟩, .int .i64 0, .int .i64 0, .int .u64 0] 32)
                          have HOz6_0 : Hid (Blk z6 wr.drew.heap.size 32 #[.int .i64 0, .int .i64 0, .int .i64 0, .string ⟨#[]⟩, .int .i64 0, .int .i64 0, .int .u64 0]) := by unfold Hid; rw [← hw9]; exact Blk.new (wr.drew) 32 #[.int .i64 0, .int .i64 0, .int .i64 0, .string ⟨#[]⟩, .int .i64 0, .int .i64 0, .int .u64 0]
                          clear hw9
                          have hHeld := HS.out _ HBz6.out
                          try simp only [sA, gA]
                          refine wpAnyH_ready (rs := [5]) (by kernel_rfl) (by simp) ?_
                          refine AllReadyH.cons rfl (fun KQ hKQ => ?_) AllReadyH.nil
                          go_simp
                          go_at_call 19
                          refine (HRC.out _ (hE.out.bel.trans (Below.mono (HBz6.out) hE.out.bel.size))).mono ?_
                          rintro e z7 ⟨rfl, hB9⟩
                          have HBz7 := Lib.hid ((HBz6.out).trans (hB9.mono (HBz6.out).size))
                          have HOz7_0 := Lib.hid ((HOz6_0.out).below hB9 (HOz6_0.out).lt)
                          clear hB9
                          go_wp2_with fail
                          refine hKQ.out _ _ ?_ (fun hHeld2 => ?_)
                          · exact HS.out _ HBz7.out
                          clear hKQ KQ hHeld
                          have hHeld := hHeld2
                          clear hHeld2
                          try simp only [sA, gA]
                          refine' wpAnyH_take (i := 6) (v := ?v6z7) rfl (by kernel_rfl) (by kernel_rfl) (by kernel_rfl) (fun _ _ _ h => h) (Or.inl ⟨by rfl, ?hy6z7⟩) hHeld ?rest6z7
                          case hy6z7 => intro w hSw; (try dsimp only at hSw); go_simp; all_goals with_reducible rfl
                          try simp only [sA, gA]
                          refine' wpAnyH_take (i := 7) (v := ?v7z7) rfl (by kernel_rfl) (by kernel_rfl) (by kernel_rfl) (fun _ _ _ h => h) (Or.inl ⟨by rfl, ?hy7z7⟩) hHeld ?rest7z7
                          case hy7z7 => intro w hSw; (try dsimp only at hSw); go_simp; all_goals with_reducible rfl
                          try simp only [sA, gA]
                          refine' wpAnyH_take (i := 8) (v := ?v8z7) rfl (by kernel_rfl) (by kernel_rfl) (by kernel_rfl) (fun _ _ _ h => h) (Or.inl ⟨by rfl, ?hy8z7⟩) hHeld ?rest8z7
                          case hy8z7 => intro w hSw; (try dsimp only at hSw); go_simp; all_goals with_reducible rfl
                          try simp only [sA, gA]
                          refine' wpAnyH_take (i := 9) (v := ?v9z7) rfl (by kernel_rfl) (by kernel_rfl) (by kernel_rfl) (fun _ _ _ h => h) (Or.inl ⟨by rfl, ?hy9z7⟩) hHeld ?rest9z7
                          case hy9z7 => intro w hSw; (try dsimp only at hSw); go_simp; all_goals with_reducible rfl
                          try simp only [sA, gA]
                          refine wpAnyH_ready (rs := [11]) (by kernel_rfl) (by simp) ?_
                          refine AllReadyH.cons rfl (fun KQ hKQ => ?_) AllReadyH.nil
                          refine wp_store_mid 32 _ _ rfl (wr.drew.heap.size) 0 #[.int .i64 na0, .int .i64 na1, .int .i64 na2, .string na3, .int .i64 na4, .int .i64 na5, .int .u64 (na6 : Int)] rfl rfl ?h1z8 infoSes (all_oneCell_toArray (sesC_one ⟨na0, na1, na2, na3, na4, na5, na6⟩)) ?h4z8
                          case h1z8 => exact there_of_blk (o := 0) (HOz7_0.out) (Nat.le_refl _)
                          case h4z8 =>
                          refine hKQ.out _ _ ?_ (fun _ => ?_)
                          · exact HS.out _ (below_setCells (((Below.refl wr.heap.size wr).drew).size) (#[.int .i64 na0, .int .i64 na1, .int .i64 na2, .string na3, .int .i64 na4, .int .i64 na5, .int .u64 (na6 : Int)] : Array Value).toList 0 _ (HBz7.out))
                          clear hKQ KQ hHeld
                          refine world_is (P := fun W => wpAnyH _ _ _ _ _ _ _ _ W) (fun z8 hw9 => ?_)
                          have HBz8 : Hid (Below wr.heap.size wr z8) := by unfold Hid; rw [← hw9]; exact below_setCells (((Below.refl wr.heap.size wr).drew).size) (#[.int .i64 na0, .int .i64 na1, .int .i64 na2, .string na3, .int .i64 na4, .int .i64 na5, .int .u64 (na6 : Int)] : Array Value).toList 0 _ (HBz7.out)
                          have HOz8_0 : Hid (Blk z8 wr.drew.heap.size 32 #[.int .i64 na0, .int .i64 na1, .int .i64 na2, .string na3, .int .i64 na4, .int .i64 na5, .int .u64 (na6 : Int)]) := by unfold Hid; rw [← hw9]; exact blk_setWhole (HOz7_0.out) (#[.int .i64 na0, .int .i64 na1, .int .i64 na2, .string na3, .int .i64 na4, .int .i64 na5, .int .u64 (na6 : Int)] : Array Value).toList rfl
                          clear hw9
                          have hHeld := HS.out _ HBz8.out
                          try simp only [sA, gA]
                          refine' wpAnyH_take (i := 12) (v := ?v12z9) rfl (by kernel_rfl) (by kernel_rfl) (by kernel_rfl) (fun _ _ _ h => h) (Or.inl ⟨by rfl, ?hy12z9⟩) hHeld ?rest12z9
                          case hy12z9 => intro w hSw; (try dsimp only at hSw); go_simp; all_goals with_reducible rfl
                          try simp only [sA, gA]
                          refine' wpAnyH_take (i := 13) (v := ?v13z10) rfl (by kernel_rfl) (by kernel_rfl) (by kernel_rfl) (fun _ _ _ h => h) (Or.inl ⟨by rfl, ?hy13z10⟩) hHeld ?rest13z10
                          case hy13z10 => intro w hSw; (try dsimp only at hSw); go_simp; all_goals with_reducible rfl
                          try simp only [sA, gA]
                          refine wpAnyH_done (by kernel_rfl) ?_ _
                          clear hHeld
                          go_wp2_with fail
                          go_meet
                          exact ⟨_, rfl, rfl, rfl, ((Below.refl wr.heap.size wr).drew).size, HOz8_0.out, HBz8.out⟩
                      case rest => as_aux_lemma =>
                        obtain ⟨g1, rfl, rfl, rfl, hl1, HN, HBn⟩ := hcut
                        have hE3 := Lib.hid (hE.out.below HBn.out)
                        have hng : Hid (gT ≠ g1 ∧ gG ≠ g1) := by have h1 := hE.out.t.lt; have h2 := Blk.lt hE.out.fl; have h3 := hl1.out; unfold Hid; omega
                        clear hE HBn HS HRC cy hl1
                        go_upto_region 32 with fail
                        go_cut [201] from 146 to 251 (fun v wx => v = .bool false ∧ Hid (Blk wx g1 32 #[.int .i64 na0, .int .i64 na1, .int .i64 na2, .string na3, .int .i64 na4, .int .i64 na5, .int .u64 (na6 : Int)]) ∧ Hid (DEnv w wx gT gF gG g9 #[.int .i64 ta0, .int .i64 ta1, .int .i64 ta2, .string ta3, .int .i64 ta4, .int .i64 ta5, .int .u64 (ta6 : Int)] #[.int .i64 i0, .int .i64 i1, .int .i64 od, .string K, .int .i64 (n : Int), .int .i64 0, .int .u64 0] G s0 l n))
                        case first =>
                          have ck := hE3.out.fl.cell k gk hgk.out
                          have cx := HTX.out _ hE3.out.bel
                          have hrc := hrecH.out
                          cases gk with
                          | true =>
                            obtain rfl : E = 17 := congrArg (fun r : Ses × ByteArray × Nat => r.2.2) hrc
                            clear hrc
                            go_wp2_with fail
                            go_meet
                            exact ⟨rfl, HN, hE3⟩
                          | false =>
                            obtain rfl : E = 0 := congrArg (fun r : Ses × ByteArray × Nat => r.2.2) hrc
                            obtain rfl : TX = x := congrArg (fun r : Ses × ByteArray × Nat => r.2.1) hrc
                            have k1 : (TX.toList == TX.toList) = true := beq_self_eq_true _
                            have k2 : (TX.data.toList == TX.data.toList) = true := beq_self_eq_true _
                            clear hrc
                            go_wp2_with fail
                            go_meet
                            exact ⟨rfl, HN, hE3⟩
                        case rest =>
                          clear HN hE3
                          obtain ⟨rfl, HN, hE3⟩ := hcut
                          go_upto_region 34 with fail
                          go_cut [203] from 146 to 251 (fun v wx => v = .bool (!gk) ∧ Hid (Blk wx g1 32 #[.int .i64 na0, .int .i64 na1, .int .i64 na2, .string na3, .int .i64 na4, .int .i64 na5, .int .u64 (na6 : Int)]) ∧ Hid (DEnv w wx gT gF gG g9 #[.int .i64 ta0, .int .i64 ta1, .int .i64 ta2, .string ta3, .int .i64 ta4, .int .i64 ta5, .int .u64 (ta6 : Int)] #[.int .i64 i0, .int .i64 i1, .int .i64 od, .string K, .int .i64 (n : Int), .int .i64 0, .int .u64 0] G s0 l n))
                          case first =>
                            have hrc := hrecH.out
                            cases gk with
                            | true =>
                              obtain rfl : E = 17 := congrArg (fun r : Ses × ByteArray × Nat => r.2.2) hrc
                              clear hrc
                              go_wp2_with fail
                              go_meet
                              exact ⟨rfl, HN, hE3⟩
                            | false =>
                              obtain rfl : E = 0 := congrArg (fun r : Ses × ByteArray × Nat => r.2.2) hrc
                              clear hrc
                              go_wp2_with fail
                              go_meet
                              exact ⟨rfl, HN, hE3⟩
                          case rest =>
                          clear HN hE3
                          obtain ⟨rfl, HN, hE3⟩ := hcut
                          go_upto_if 203 with fail
                          go_cut [] from 146 to 251 (fun wx => ∃ (T3 : Ses) (G3 : List Bool), Hid (GOk s0 G3 T3) ∧ Hid (G3.length = n) ∧ Hid (DEnv w wx gT gF gG g9 (sesC T3).toArray #[.int .i64 i0, .int .i64 i1, .int .i64 od, .string K, .int .i64 (n : Int), .int .i64 0, .int .u64 0] G3 s0 l n))
                          case first =>
                            have hrc := hrecH.out
                            cases gk with
                            | true =>
                              obtain rfl : E = 17 := congrArg (fun r : Ses × ByteArray × Nat => r.2.2) hrc
                              clear hrc
                              go_wp2_with fail
                              go_meet
                              exact ⟨_, G, hG, hGl, hE3⟩
                            | false =>
                              obtain rfl : E = 0 := congrArg (fun r : Ses × ByteArray × Nat => r.2.2) hrc
                              have hmk : Hid ((⟨na0, na1, na2, na3, na4, na5, na6⟩ : Ses) = markP ⟨ta0, ta1, ta2, ta3, ta4, ta5, ta6⟩ ((k : Int) + 1)) := congrArg (fun r : Ses × ByteArray × Nat => r.1) hrc
                              clear hrc
                              have hG3 : Hid (GOk s0 (G.set k true) ⟨na0, na1, na2, na3, na4, na5, na6⟩) := by unfold Hid; rw [hmk.out]; exact hG.out.mark k (by rw [hGl.out]; exact hk.out) (by rw [hGl.out]; exact h12H.out)
                              have c0 := HN.out.cell 0; have f0 := hE3.out.t.frozen 0; have t0 := hE3.out.t.cell 0; have c1 := HN.out.cell 1; have f1 := hE3.out.t.frozen 1; have t1 := hE3.out.t.cell 1; have c2 := HN.out.cell 2; have f2 := hE3.out.t.frozen 2; have t2 := hE3.out.t.cell 2; have c3 := HN.out.cell 3; have f3 := hE3.out.t.frozen 3; have t3 := hE3.out.t.cell 3; have c4 := HN.out.cell 4; have f4 := hE3.out.t.frozen 4; have t4 := hE3.out.t.cell 4; have c5 := HN.out.cell 5; have f5 := hE3.out.t.frozen 5; have t5 := hE3.out.t.cell 5; have c6 := HN.out.cell 6; have f6 := hE3.out.t.frozen 6; have t6 := hE3.out.t.cell 6
                              have hn1 : gT ≠ g1 := hng.out.1
                              go_upto_region 36 with fail
                              refine world_is (P := fun W => Code.wp _ _ _ _ W) (fun Wb hWb => ?_)
                              have hE4 : Hid (DEnv w Wb gT gF gG g9 #[.int .i64 na0, .int .i64 na1, .int .i64 na2, .string na3, .int .i64 na4, .int .i64 na5, .int .u64 (na6 : Int)] #[.int .i64 i0, .int .i64 i1, .int .i64 od, .string K, .int .i64 (n : Int), .int .i64 0, .int .u64 0] G s0 l n) := by
                                unfold Hid
                                rw [← hWb]
                                obtain ⟨e1, e2, e3, e4, e5⟩ := hE3.out
                                obtain ⟨q1, q2, q3, q4, q5, q6, q7⟩ := hneG.out
                                exact ⟨blk7_put e1 _ _ _ _ _ _ _, blk_set7_other e2 q5 _ _ _ _ _ _ _, blk_set7_other e3 q1 _ _ _ _ _ _ _, ((((((e4.other ⟨gT, 0, none⟩ _ q4).other ⟨gT, 1, none⟩ _ q4).other ⟨gT, 2, none⟩ _ q4).other ⟨gT, 3, none⟩ _ q4).other ⟨gT, 4, none⟩ _ q4).other ⟨gT, 5, none⟩ _ q4).other ⟨gT, 6, none⟩ _ q4, below_set7 e5 q7 _ _ _ _ _ _ _⟩
                              clear hWb c0 f0 t0 c1 f1 t1 c2 f2 t2 c3 f3 t3 c4 f4 t4 c5 f5 t5 c6 f6 t6 hn1
                              have ck := hE4.out.fl.cell k false hgk.out
                              have fk := Blk.frozen hE4.out.fl k
                              go_wp2_with fail
                              go_meet
                              obtain ⟨q1, q2, q3, q4, q5, q6, q7⟩ := hneG.out
                              exact ⟨_, G.set k true, hG3, by unfold Hid; rw [List.length_set]; exact hGl.out, hE4.out.next k true q1 q2 q3 q6⟩
                          case rest =>
                            clear HN hE3 hng hrecH hG hGl
                            obtain ⟨T3, G3, hG, hGl, hE⟩ := hcut
                            have hodd := num_in2 k (Nat.lt_of_lt_of_le hk.out h12H.out)
                            have HRO0 : Hid (∀ wx, Below w.heap.size w wx → Calls Tryd.prog 19 #[sesV T3, msgV ⟨i0, (k : Int) + 1 + 100, X⟩] wx fun e w' => e = .returned (.tuple #[sesV (receiveP T3 ⟨i0, (k : Int) + 1 + 100, X⟩).1, .string (receiveP T3 ⟨i0, (k : Int) + 1 + 100, X⟩).2.1, .int .i64 ((receiveP T3 ⟨i0, (k : Int) + 1 + 100, X⟩).2.2 : Nat)]) ∧ Below wx.heap.size wx w') := fun wx hB9 => receive_any wx T3 _ hG.out.fits hms.out (HK.out.below hB9)
                            have HSO0 : Hid (∀ wx, Below w.heap.size w wx → Calls Tryd.prog 20 #[sesV T3, msgV ⟨i0, (k : Int) + 1 + 100, X⟩] wx fun e w' => e = .returned (sldV (receiveP T3 ⟨i0, (k : Int) + 1 + 100, X⟩).1 noMsg (receiveP T3 ⟨i0, (k : Int) + 1 + 100, X⟩).2.1 (receiveP T3 ⟨i0, (k : Int) + 1 + 100, X⟩).2.2) ∧ Below wx.heap.size wx w') := fun wx hB9 => rreceive_any wx T3 _ hG.out.fits hms.out hodd (HK2.out.below hB9)
                            clear hodd
                            generalize receiveP T3 ⟨i0, (k : Int) + 1 + 100, X⟩ = R3 at *
                            obtain ⟨⟨pc0, pc1, pc2, pc3, pc4, pc5, pc6⟩, T1, E1⟩ := R3
                            obtain ⟨sa0, sa1, sa2, sa3, sa4, sa5, sa6⟩ := T3
                            have HRO : Hid (∀ wx, Below w.heap.size w wx → Calls Tryd.prog 19 #[.agg #[.int .i64 sa0, .int .i64 sa1, .int .i64 sa2, .string sa3, .int .i64 sa4, .int .i64 sa5, .int .u64 (sa6 : Int)], .agg #[.int .i64 i0, .int .i64 ((k : Int) + 1 + 100), .string X]] wx fun e w' => e = .returned (.tuple #[.agg #[.int .i64 pc0, .int .i64 pc1, .int .i64 pc2, .string pc3, .int .i64 pc4, .int .i64 pc5, .int .u64 (pc6 : Int)], .string T1, .int .i64 (E1 : Int)]) ∧ Below wx.heap.size wx w') := HRO0
                            have HSO : Hid (∀ wx, Below w.heap.size w wx → Calls Tryd.prog 20 #[.agg #[.int .i64 sa0, .int .i64 sa1, .int .i64 sa2, .string sa3, .int .i64 sa4, .int .i64 sa5, .int .u64 (sa6 : Int)], .agg #[.int .i64 i0, .int .i64 ((k : Int) + 1 + 100), .string X]] wx fun e w' => e = .returned (.agg #[.int .i64 pc0, .int .i64 pc1, .int .i64 pc2, .string pc3, .int .i64 pc4, .int .i64 pc5, .int .u64 (pc6 : Int), .int .i64 0, .int .i64 0, .string ⟨#[]⟩, .string T1, .int .i64 (E1 : Int)]) ∧ Below wx.heap.size wx w') := HSO0
                            clear HRO0 HSO0
                            go_upto_region 37 with fail
                            refine world_is (P := fun W => Code.wp _ _ _ _ W) (fun Wp hWp => ?_)
                            rw [hWp] at hE
                            clear hWp
                            obtain ⟨u1, u2, u3⟩ := hE.out.se.three k hk.out x hxH.out
                            rw [hX.out] at u3
                            rw [hid0.out] at u1
                            go_upto_region 38 with fail
                            refine world_is (P := fun W => Code.wp _ _ _ _ W) (fun Wq hWq => ?_)
                            have HOq : Hid (Blk Wq Wp.heap.size 42 #[.int .i64 i0, .int .i64 ((k : Int) + 1), .string X]) := by unfold Hid; rw [← hWq]; exact Blk.new _ _ _
                            have hBq : Hid (Below Wp.heap.size Wp Wq) := by unfold Hid; rw [← hWq]; exact (Below.refl _ Wp).alloc (Nat.le_refl _) _
                            clear hWq u1 u2 u3
                            have o1 := HOq.out.cell 1
                            have o2 := HOq.out.frozen 1
                            go_upto_region 39 with fail
                            refine world_is (P := fun W => Code.wp _ _ _ _ W) (fun Wc hWc => ?_)
                            have HOc : Hid (Blk Wc Wp.heap.size 42 #[.int .i64 i0, .int .i64 ((k : Int) + 1 + 100), .string X]) := by unfold Hid; rw [← hWc]; have h := HOq.out.set_ 1 (.int .i64 ((k : Int) + 1 + 100)); simpa only [List.setIfInBounds_toArray, List.set_cons_zero, List.set_cons_succ] using h
                            have hBc : Below Wp.heap.size Wp Wc := by rw [← hWc]; exact hBq.out.setCell (p := ⟨Wp.heap.size, 1, none⟩) (Nat.le_refl _) _
                            have hE4 : Hid (DEnv w Wc gT gF gG g9 #[.int .i64 sa0, .int .i64 sa1, .int .i64 sa2, .string sa3, .int .i64 sa4, .int .i64 sa5, .int .u64 (sa6 : Int)] #[.int .i64 i0, .int .i64 i1, .int .i64 od, .string K, .int .i64 (n : Int), .int .i64 0, .int .u64 0] G3 s0 l n) := hE.out.below hBc
                            obtain ⟨gO, hgO⟩ : ∃ g, Wp.heap.size = g := ⟨_, rfl⟩
                            rw [hgO] at HOc ⊢
                            clear hWc o1 o2 HOq hBq hBc hE hgO
                            have t0 := hE4.out.t.cell 0; have t1 := hE4.out.t.cell 1; have t2 := hE4.out.t.cell 2; have t3 := hE4.out.t.cell 3; have t4 := hE4.out.t.cell 4; have t5 := hE4.out.t.cell 5; have t6 := hE4.out.t.cell 6
                            have o0 := HOc.out.cell 0; have o1 := HOc.out.cell 1; have o2 := HOc.out.cell 2
                            go_upto_region 40 with (first | (go_at_call 19; refine (HRO.out _ hE4.out.bel).mono ?_; rintro e w7 ⟨rfl, hB9⟩; have hE4b := Lib.hid (hE4.out.below hB9); have HO4b := Lib.hid (HOc.out.below hB9 HOc.out.lt); clear hB9) | fail)
                            refine world_is (P := fun W => Code.wp _ _ _ _ W) (fun Wd hWd => ?_)
                            have hBd : Below w7.heap.size w7 Wd := by rw [← hWd]; exact (Below.refl _ w7).alloc (Nat.le_refl _) _
                            have hE5 := Lib.hid (hE4b.out.below hBd)
                            have HO5 := Lib.hid (HO4b.out.below hBd HO4b.out.lt)
                            clear hWd hBd hE4 hE4b HOc HO4b HRO t0 t1 t2 t3 t4 t5 t6 o0 o1 o2
                            have HS4 : Hid (∀ wx, Below Wd.heap.size Wd wx → wx.cell? ⟨gF, 0, none⟩ = some (.int .i64 i0) ∧ wx.cell? ⟨gF, 1, none⟩ = some (.int .i64 i1) ∧ wx.cell? ⟨gF, 2, none⟩ = some (.int .i64 od) ∧ wx.cell? ⟨gF, 3, none⟩ = some (.string K) ∧ wx.cell? ⟨gF, 4, none⟩ = some (.int .i64 (n : Int)) ∧ wx.cell? ⟨gF, 5, none⟩ = some (.int .i64 0) ∧ wx.cell? ⟨gF, 6, none⟩ = some (.int .u64 0) ∧ wx.cell? ⟨g9, 3 * k, none⟩ = some (.int .i64 i0) ∧ wx.cell? ⟨g9, 3 * k + 1, none⟩ = some (.int .i64 ((k : Int) + 1)) ∧ wx.cell? ⟨g9, 3 * k + 2, none⟩ = some (.string X)) := fun wx hB9 => ⟨((hE5.out.below hB9).f).cell 0, ((hE5.out.below hB9).f).cell 1, ((hE5.out.below hB9).f).cell 2, ((hE5.out.below hB9).f).cell 3, ((hE5.out.below hB9).f).cell 4, ((hE5.out.below hB9).f).cell 5, ((hE5.out.below hB9).f).cell 6, (((hE5.out.below hB9).se.three k hk.out x hxH.out).1).trans (by rw [hid0.out]), ((hE5.out.below hB9).se.three k hk.out x hxH.out).2.1, (((hE5.out.below hB9).se.three k hk.out x hxH.out).2.2).trans (by rw [hX.out])⟩
                            go_cut [29, 30, 31] from 146 to 251 (fun _ _ v3 wx => v3 = .int .i64 (E2 : Int) ∧ Hid (Below Wd.heap.size Wd wx))
                            case first => as_aux_lemma =>
                              refine wp_region_held_drew (S := (fun wx => wx.cell? ⟨gF, 0, none⟩ = some (.int .i64 i0) ∧ wx.cell? ⟨gF, 1, none⟩ = some (.int .i64 i1) ∧ wx.cell? ⟨gF, 2, none⟩ = some (.int .i64 od) ∧ wx.cell? ⟨gF, 3, none⟩ = some (.string K) ∧ wx.cell? ⟨gF, 4, none⟩ = some (.int .i64 (n : Int)) ∧ wx.cell? ⟨gF, 5, none⟩ = some (.int .i64 0) ∧ wx.cell? ⟨gF, 6, none⟩ = some (.int .u64 0) ∧ wx.cell? ⟨g9, 3 * k, none⟩ = some (.int .i64 i0) ∧ wx.cell? ⟨g9, 3 * k + 1, none⟩ = some (.int .i64 ((k : Int) + 1)) ∧ wx.cell? ⟨g9, 3 * k + 2, none⟩ = some (.string X))) (by kernel_rfl) (HS4.out _ (Below.refl _ Wd).drew) (fun hHeld => ?_)
                              refine' wpAnyH_take (i := 0) (v := ?v0qr) rfl (by kernel_rfl) (by kernel_rfl) (by kernel_rfl) (fun _ _ _ h => h) (Or.inl ⟨by rfl, ?hy0qr⟩) hHeld ?rest0qr
                              case hy0qr => intro w hSw; (try dsimp only at hSw); go_simp; all_goals with_reducible rfl
                              try simp only [sA, gA]
                              refine' wpAnyH_take (i := 1) (v := ?v1qr) rfl (by kernel_rfl) (by kernel_rfl) (by kernel_rfl) (fun _ _ _ h => h) (Or.inl ⟨by rfl, ?hy1qr⟩) hHeld ?rest1qr
                              case hy1qr => intro w hSw; (try dsimp only at hSw); go_simp; all_goals with_reducible rfl
                              try simp only [sA, gA]
                              refine' wpAnyH_take (i := 2) (v := ?v2qr) rfl (by kernel_rfl) (by kernel_rfl) (by kernel_rfl) (fun _ _ _ h => h) (Or.inl ⟨by rfl, ?hy2qr⟩) hHeld ?rest2qr
                              case hy2qr => intro w hSw; (try dsimp only at hSw); go_simp; all_goals with_reducible rfl
                              try simp only [sA, gA]
                              refine' wpAnyH_take (i := 3) (v := ?v3qr) rfl (by kernel_rfl) (by kernel_rfl) (by kernel_rfl) (fun _ _ _ h => h) (Or.inl ⟨by rfl, ?hy3qr⟩) hHeld ?rest3qr
                              case hy3qr => intro w hSw; (try dsimp only at hSw); go_simp; all_goals with_reducible rfl
                              try simp only [sA, gA]
                              refine' wpAnyH_take (i := 4) (v := ?v4qr) rfl (by kernel_rfl) (by kernel_rfl) (by kernel_rfl) (fun _ _ _ h => h) (Or.inl ⟨by rfl, ?hy4qr⟩) hHeld ?rest4qr
                              case hy4qr => intro w hSw; (try dsimp only at hSw); go_simp; all_goals with_reducible rfl
                              try simp only [sA, gA]
                              refine wpAnyH_ready (rs := [5, 10]) (by kernel_rfl) (by simp) ?_
                              refine AllReadyH.cons rfl (fun KQ hKQ => ?_) (AllReadyH.cons rfl (fun KQ hKQ => ?_) AllReadyH.nil)
                              ·
                                go_simp
                                go_at_call 19
                                refine (HRF.out _ (hE5.out.bel.trans (Below.mono ((Below.refl Wd.heap.size Wd).drew) hE5.out.bel.size))).mono ?_
                                rintro e q1 ⟨rfl, hB9⟩
                                have HBq1 := Lib.hid (((Below.refl Wd.heap.size Wd).drew).trans (hB9.mono ((Below.refl Wd.heap.size Wd).drew).size))
                                clear hB9
                                go_wp2_with fail
                                refine hKQ.out _ _ ?_ (fun hHeld2 => ?_)
                                · exact HS4.out _ HBq1.out
                                clear hKQ KQ hHeld
                                have hHeld := hHeld2
                                clear hHeld2
                                try simp only [sA, gA]
                                refine' wpAnyH_take (i := 6) (v := ?v6q1) rfl (by kernel_rfl) (by kernel_rfl) (by kernel_rfl) (fun _ _ _ h => h) (Or.inl ⟨by rfl, ?hy6q1⟩) hHeld ?rest6q1
                                case hy6q1 => intro w hSw; (try dsimp only at hSw); go_simp; all_goals with_reducible rfl
                                try simp only [sA, gA]
                                refine' wpAnyH_take (i := 7) (v := ?v7q1) rfl (by kernel_rfl) (by kernel_rfl) (by kernel_rfl) (fun _ _ _ h => h) (Or.inl ⟨by rfl, ?hy7q1⟩) hHeld ?rest7q1
                                case hy7q1 => intro w hSw; (try dsimp only at hSw); go_simp; all_goals with_reducible rfl
                                try simp only [sA, gA]
                                refine' wpAnyH_take (i := 8) (v := ?v8q1) rfl (by kernel_rfl) (by kernel_rfl) (by kernel_rfl) (fun _ _ _ h => h) (Or.inl ⟨by rfl, ?hy8q1⟩) hHeld ?rest8q1
                                case hy8q1 => intro w hSw; (try dsimp only at hSw); go_simp; all_goals with_reducible rfl
                                try simp only [sA, gA]
                                refine' wpAnyH_take (i := 9) (v := ?v9q1) rfl (by kernel_rfl) (by kernel_rfl) (by kernel_rfl) (fun _ _ _ h => h) (Or.inl ⟨by rfl, ?hy9q1⟩) hHeld ?rest9q1
                                case hy9q1 => intro w hSw; (try dsimp only at hSw); go_simp; all_goals with_reducible rfl
                                try simp only [sA, gA]
                                refine wpAnyH_ready (rs := [10]) (by kernel_rfl) (by simp) ?_
                                refine AllReadyH.cons rfl (fun KQ hKQ => ?_) AllReadyH.nil
                                go_simp
                                refine hKQ.out _ _ ?_ (fun _ => ?_)
                                · exact HS4.out _ ((HBq1.out).alloc (HBq1.out).size (.cells #[.int .i64 0, .int .i64 0, .int .i64 0, .string ⟨#[]⟩, .int .i64 0, .int .i64 0, .int .u64 0] 32))
                                clear hKQ KQ hHeld
                                refine world_is (P := fun W => wpAnyH _ _ _ _ _ _ _ _ W) (fun q2 hw9 => ?_)
                                have HBq2 : Hid (Below Wd.heap.size Wd q2) := by unfold Hid; rw [← hw9]; exact (HBq1.out).alloc (HBq1.out).size (.cells #[.int .i64 0, .int .i64 0, .int .i64 0, .string ⟨#[]⟩, .int .i64 0, .int .i64 0, .int .u64 0] 32)
                                have HOq2_0 : Hid (Blk q2 q1.heap.size 32 #[.int .i64 0, .int .i64 0, .int .i64 0, .string ⟨#[]⟩, .int .i64 0, .int .i64 0, .int .u64 0]) := by unfold Hid; rw [← hw9]; exact Blk.new (q1) 32 #[.int .i64 0, .int .i64 0, .int .i64 0, .string ⟨#[]⟩, .int .i64 0, .int .i64 0, .int .u64 0]
                                clear hw9
                                have hHeld := HS4.out _ HBq2.out
                                try simp only [sA, gA]
                                refine wpAnyH_ready (rs := [11]) (by kernel_rfl) (by simp) ?_
                                refine AllReadyH.cons rfl (fun KQ hKQ => ?_) AllReadyH.nil
                                refine wp_store_mid 32 _ _ rfl (q1.heap.size) 0 #[.int .i64 pb0, .int .i64 pb1, .int .i64 pb2, .string pb3, .int .i64 pb4, .int .i64 pb5, .int .u64 (pb6 : Int)] rfl rfl ?h1q3 infoSes (all_oneCell_toArray (sesC_one ⟨pb0, pb1, pb2, pb3, pb4, pb5, pb6⟩)) ?h4q3
                                case h1q3 => exact there_of_blk (o := 0) (HOq2_0.out) (Nat.le_refl _)
                                case h4q3 =>
                                refine hKQ.out _ _ ?_ (fun _ => ?_)
                                · exact HS4.out _ (below_setCells ((HBq1.out).size) (#[.int .i64 pb0, .int .i64 pb1, .int .i64 pb2, .string pb3, .int .i64 pb4, .int .i64 pb5, .int .u64 (pb6 : Int)] : Array Value).toList 0 _ (HBq2.out))
                                clear hKQ KQ hHeld
                                refine world_is (P := fun W => wpAnyH _ _ _ _ _ _ _ _ W) (fun q3 hw9 => ?_)
                                have HBq3 : Hid (Below Wd.heap.size Wd q3) := by unfold Hid; rw [← hw9]; exact below_setCells ((HBq1.out).size) (#[.int .i64 pb0, .int .i64 pb1, .int .i64 pb2, .string pb3, .int .i64 pb4, .int .i64 pb5, .int .u64 (pb6 : Int)] : Array Value).toList 0 _ (HBq2.out)
                                have HOq3_0 : Hid (Blk q3 q1.heap.size 32 #[.int .i64 pb0, .int .i64 pb1, .int .i64 pb2, .string pb3, .int .i64 pb4, .int .i64 pb5, .int .u64 (pb6 : Int)]) := by unfold Hid; rw [← hw9]; exact blk_setWhole (HOq2_0.out) (#[.int .i64 pb0, .int .i64 pb1, .int .i64 pb2, .string pb3, .int .i64 pb4, .int .i64 pb5, .int .u64 (pb6 : Int)] : Array Value).toList rfl
                                clear hw9
                                have hHeld := HS4.out _ HBq3.out
                                try simp only [sA, gA]
                                refine' wpAnyH_take (i := 12) (v := ?v12q4) rfl (by kernel_rfl) (by kernel_rfl) (by kernel_rfl) (fun _ _ _ h => h) (Or.inl ⟨by rfl, ?hy12q4⟩) hHeld ?rest12q4
                                case hy12q4 => intro w hSw; (try dsimp only at hSw); go_simp; all_goals with_reducible rfl
                                try simp only [sA, gA]
                                refine' wpAnyH_take (i := 13) (v := ?v13q5) rfl (by kernel_rfl) (by kernel_rfl) (by kernel_rfl) (fun _ _ _ h => h) (Or.inl ⟨by rfl, ?hy13q5⟩) hHeld ?rest13q5
                                case hy13q5 => intro w hSw; (try dsimp only at hSw); go_simp; all_goals with_reducible rfl
                                try simp only [sA, gA]
                                refine wpAnyH_done (by kernel_rfl) ?_ _
                                clear hHeld
                                go_wp2_with fail
                                go_meet
                                exact ⟨rfl, HBq3.out⟩
                              ·
                                go_simp
                                refine hKQ.out _ _ ?_ (fun _ => ?_)
                                · exact HS4.out _ (((Below.refl Wd.heap.size Wd).drew).alloc ((Below.refl Wd.heap.size Wd).drew).size (.cells #[.int .i64 0, .int .i64 0, .int .i64 0, .string ⟨#[]⟩, .int .i64 0, .int .i64 0, .int .u64 0] 32))
                                clear hKQ KQ hHeld
                                refine world_is (P := fun W => wpAnyH _ _ _ _ _ _ _ _ W) (fun q6 hw9 => ?_)
                                have HBq6 : Hid (Below Wd.heap.size Wd q6) := by unfold Hid; rw [← hw9]; exact ((Below.refl Wd.heap.size Wd).drew).alloc ((Below.refl Wd.heap.size Wd).drew).size (.cells #[.int .i64 0, .int .i64 0, .int .i64 0, .string ⟨#[]⟩, .int .i64 0, .int .i64 0, .int .u64 0] 32)
                                have HOq6_0 : Hid (Blk q6 Wd.drew.heap.size 32 #[.int .i64 0, .int .i64 0, .int .i64 0, .string ⟨#[]⟩, .int .i64 0, .int .i64 0, .int .u64 0]) := by unfold Hid; rw [← hw9]; exact Blk.new (Wd.drew) 32 #[.int .i64 0, .int .i64 0, .int .i64 0, .string ⟨#[]⟩, .int .i64 0, .int .i64 0, .int .u64 0]
                                clear hw9
                                have hHeld := HS4.out _ HBq6.out
                                try simp only [sA, gA]
                                refine wpAnyH_ready (rs := [5]) (by kernel_rfl) (by simp) ?_
                                refine AllReadyH.cons rfl (fun KQ hKQ => ?_) AllReadyH.nil
                                go_simp
                                go_at_call 19
                                refine (HRF.out _ (hE5.out.bel.trans (Below.mono (HBq6.out) hE5.out.bel.size))).mono ?_
                                rintro e q7 ⟨rfl, hB9⟩
                                have HBq7 := Lib.hid ((HBq6.out).trans (hB9.mono (HBq6.out).size))
                                have HOq7_0 := Lib.hid ((HOq6_0.out).below hB9 (HOq6_0.out).lt)
                                clear hB9
                                go_wp2_with fail
                                refine hKQ.out _ _ ?_ (fun hHeld2 => ?_)
                                · exact HS4.out _ HBq7.out
                                clear hKQ KQ hHeld
                                have hHeld := hHeld2
                                clear hHeld2
                                try simp only [sA, gA]
                                refine' wpAnyH_take (i := 6) (v := ?v6q7) rfl (by kernel_rfl) (by kernel_rfl) (by kernel_rfl) (fun _ _ _ h => h) (Or.inl ⟨by rfl, ?hy6q7⟩) hHeld ?rest6q7
                                case hy6q7 => intro w hSw; (try dsimp only at hSw); go_simp; all_goals with_reducible rfl
                                try simp only [sA, gA]
                                refine' wpAnyH_take (i := 7) (v := ?v7q7) rfl (by kernel_rfl) (by kernel_rfl) (by kernel_rfl) (fun _ _ _ h => h) (Or.inl ⟨by rfl, ?hy7q7⟩) hHeld ?rest7q7
                                case hy7q7 => intro w hSw; (try dsimp only at hSw); go_simp; all_goals with_reducible rfl
                                try simp only [sA, gA]
                                refine' wpAnyH_take (i := 8) (v := ?v8q7) rfl (by kernel_rfl) (by kernel_rfl) (by kernel_rfl) (fun _ _ _ h => h) (Or.inl ⟨by rfl, ?hy8q7⟩) hHeld ?rest8q7
                                case hy8q7 => intro w hSw; (try dsimp only at hSw); go_simp; all_goals with_reducible rfl
                                try simp only [sA, gA]
                                refine' wpAnyH_take (i := 9) (v := ?v9q7) rfl (by kernel_rfl) (by kernel_rfl) (by kernel_rfl) (fun _ _ _ h => h) (Or.inl ⟨by rfl, ?hy9q7⟩) hHeld ?rest9q7
                                case hy9q7 => intro w hSw; (try dsimp only at hSw); go_simp; all_goals with_reducible rfl
                                try simp only [sA, gA]
                                refine wpAnyH_ready (rs := [11]) (by kernel_rfl) (by simp) ?_
                                refine AllReadyH.cons rfl (fun KQ hKQ => ?_) AllReadyH.nil
                                refine wp_store_mid 32 _ _ rfl (Wd.drew.heap.size) 0 #[.int .i64 pb0, .int .i64 pb1, .int .i64 pb2, .string pb3, .int .i64 pb4, .int .i64 pb5, .int .u64 (pb6 : Int)] rfl rfl ?h1q8 infoSes (all_oneCell_toArray (sesC_one ⟨pb0, pb1, pb2, pb3, pb4, pb5, pb6⟩)) ?h4q8
                                case h1q8 => exact there_of_blk (o := 0) (HOq7_0.out) (Nat.le_refl _)
                                case h4q8 =>
                                refine hKQ.out _ _ ?_ (fun _ => ?_)
                                · exact HS4.out _ (below_setCells (((Below.refl Wd.heap.size Wd).drew).size) (#[.int .i64 pb0, .int .i64 pb1, .int .i64 pb2, .string pb3, .int .i64 pb4, .int .i64 pb5, .int .u64 (pb6 : Int)] : Array Value).toList 0 _ (HBq7.out))
                                clear hKQ KQ hHeld
                                refine world_is (P := fun W => wpAnyH _ _ _ _ _ _ _ _ W) (fun q8 hw9 => ?_)
                                have HBq8 : Hid (Below Wd.heap.size Wd q8) := by unfold Hid; rw [← hw9]; exact below_setCells (((Below.refl Wd.heap.size Wd).drew).size) (#[.int .i64 pb0, .int .i64 pb1, .int .i64 pb2, .string pb3, .int .i64 pb4, .int .i64 pb5, .int .u64 (pb6 : Int)] : Array Value).toList 0 _ (HBq7.out)
                                have HOq8_0 : Hid (Blk q8 Wd.drew.heap.size 32 #[.int .i64 pb0, .int .i64 pb1, .int .i64 pb2, .string pb3, .int .i64 pb4, .int .i64 pb5, .int .u64 (pb6 : Int)]) := by unfold Hid; rw [← hw9]; exact blk_setWhole (HOq7_0.out) (#[.int .i64 pb0, .int .i64 pb1, .int .i64 pb2, .string pb3, .int .i64 pb4, .int .i64 pb5, .int .u64 (pb6 : Int)] : Array Value).toList rfl
                                clear hw9
                                have hHeld := HS4.out _ HBq8.out
                                try simp only [sA, gA]
                                refine' wpAnyH_take (i := 12) (v := ?v12q9) rfl (by kernel_rfl) (by kernel_rfl) (by kernel_rfl) (fun _ _ _ h => h) (Or.inl ⟨by rfl, ?hy12q9⟩) hHeld ?rest12q9
                                case hy12q9 => intro w hSw; (try dsimp only at hSw); go_simp; all_goals with_reducible rfl
                                try simp only [sA, gA]
                                refine' wpAnyH_take (i := 13) (v := ?v13q10) rfl (by kernel_rfl) (by kernel_rfl) (by kernel_rfl) (fun _ _ _ h => h) (Or.inl ⟨by rfl, ?hy13q10⟩) hHeld ?rest13q10
                                case hy13q10 => intro w hSw; (try dsimp only at hSw); go_simp; all_goals with_reducible rfl
                                try simp only [sA, gA]
                                refine wpAnyH_done (by kernel_rfl) ?_ _
                                clear hHeld
                                go_wp2_with fail
                                go_meet
                                exact ⟨rfl, HBq8.out⟩
                            case rest => as_aux_lemma =>
                              obtain ⟨rfl, HBn⟩ := hcut
                              have hE6 := Lib.hid (hE5.out.below HBn.out)
                              have HO6 := Lib.hid (HO5.out.below HBn.out HO5.out.lt)
                              clear hE5 HO5 HBn HS4 HRF
                              have t0 := hE6.out.t.cell 0; have t1 := hE6.out.t.cell 1; have t2 := hE6.out.t.cell 2; have t3 := hE6.out.t.cell 3; have t4 := hE6.out.t.cell 4; have t5 := hE6.out.t.cell 5; have t6 := hE6.out.t.cell 6
                              have o0 := HO6.out.cell 0; have o1 := HO6.out.cell 1; have o2 := HO6.out.cell 2
                              go_upto_region 42 with (first | (go_at_call 20; refine (HSO.out _ hE6.out.bel).mono ?_; rintro e w8 ⟨rfl, hB9⟩; have hE6b := Lib.hid (hE6.out.below hB9); clear hB9) | (refine wpList_store_mid rfl 46 _ _ rfl w8.heap.size 0 #[.int .i64 pc0, .int .i64 pc1, .int .i64 pc2, .string pc3, .int .i64 pc4, .int .i64 pc5, .int .u64 (pc6 : Int), .int .i64 0, .int .i64 0, .string ⟨#[]⟩, .string T1, .int .i64 (E1 : Int)] rfl rfl (there_of_blk (o := 0) (Blk.new w8 46 zSld) (Nat.le_refl _)) infoSld (all_oneCell_toArray (sldC_one ⟨pc0, pc1, pc2, pc3, pc4, pc5, pc6⟩ noMsg T1 E1)) ?_) | fail)
                              try simp only [sA]
                              refine world_is (P := fun W => Code.wp _ _ _ _ W) (fun Wf hWf => ?_)
                              have hBf : Below w8.heap.size w8 Wf := by rw [← hWf]; exact below_setCells (Nat.le_refl _) _ 0 _ ((Below.refl _ w8).alloc (Nat.le_refl _) _)
                              have HQ1 : Hid (Blk Wf w8.heap.size 46 #[.int .i64 pc0, .int .i64 pc1, .int .i64 pc2, .string pc3, .int .i64 pc4, .int .i64 pc5, .int .u64 (pc6 : Int), .int .i64 0, .int .i64 0, .string ⟨#[]⟩, .string T1, .int .i64 (E1 : Int)]) := by unfold Hid; rw [← hWf]; exact blk_setWhole (Blk.new w8 46 zSld) (#[.int .i64 pc0, .int .i64 pc1, .int .i64 pc2, .string pc3, .int .i64 pc4, .int .i64 pc5, .int .u64 (pc6 : Int), .int .i64 0, .int .i64 0, .string ⟨#[]⟩, .string T1, .int .i64 (E1 : Int)] : Array Value).toList rfl
                              have hE7 := Lib.hid (hE6b.out.below hBf)
                              obtain ⟨gQ, hgQ⟩ : ∃ g, w8.heap.size = g := ⟨_, rfl⟩
                              rw [hgQ] at HQ1 ⊢
                              clear hWf hBf hgQ hE6 hE6b HO6 HSO t0 t1 t2 t3 t4 t5 t6 o0 o1 o2
                              have HS6 : Hid (∀ wx, Below Wf.heap.size Wf wx → wx.cell? ⟨gF, 0, none⟩ = some (.int .i64 i0) ∧ wx.cell? ⟨gF, 1, none⟩ = some (.int .i64 i1) ∧ wx.cell? ⟨gF, 2, none⟩ = some (.int .i64 od) ∧ wx.cell? ⟨gF, 3, none⟩ = some (.string K) ∧ wx.cell? ⟨gF, 4, none⟩ = some (.int .i64 (n : Int)) ∧ wx.cell? ⟨gF, 5, none⟩ = some (.int .i64 0) ∧ wx.cell? ⟨gF, 6, none⟩ = some (.int .u64 0) ∧ wx.cell? ⟨g9, 3 * k, none⟩ = some (.int .i64 i0) ∧ wx.cell? ⟨g9, 3 * k + 1, none⟩ = some (.int .i64 ((k : Int) + 1)) ∧ wx.cell? ⟨g9, 3 * k + 2, none⟩ = some (.string X)) := fun wx hB9 => ⟨((hE7.out.below hB9).f).cell 0, ((hE7.out.below hB9).f).cell 1, ((hE7.out.below hB9).f).cell 2, ((hE7.out.below hB9).f).cell 3, ((hE7.out.below hB9).f).cell 4, ((hE7.out.below hB9).f).cell 5, ((hE7.out.below hB9).f).cell 6, (((hE7.out.below hB9).se.three k hk.out x hxH.out).1).trans (by rw [hid0.out]), ((hE7.out.below hB9).se.three k hk.out x hxH.out).2.1, (((hE7.out.below hB9).se.three k hk.out x hxH.out).2.2).trans (by rw [hX.out])⟩
                              go_cut [33] from 146 to 251 (fun p1 wx => ∃ g2, p1 = .pointer (some ⟨g2, 0, none⟩) ∧ Hid (Blk wx g2 46 #[.int .i64 pb0, .int .i64 pb1, .int .i64 pb2, .string pb3, .int .i64 pb4, .int .i64 pb5, .int .u64 (pb6 : Int), .int .i64 0, .int .i64 0, .string ⟨#[]⟩, .string T2, .int .i64 (E2 : Int)]) ∧ Hid (Below Wf.heap.size Wf wx))
                              case first => as_aux_lemma =>
                                refine wp_region_held_drew (S := (fun wx => wx.cell? ⟨gF, 0, none⟩ = some (.int .i64 i0) ∧ wx.cell? ⟨gF, 1, none⟩ = some (.int .i64 i1) ∧ wx.cell? ⟨gF, 2, none⟩ = some (.int .i64 od) ∧ wx.cell? ⟨gF, 3, none⟩ = some (.string K) ∧ wx.cell? ⟨gF, 4, none⟩ = some (.int .i64 (n : Int)) ∧ wx.cell? ⟨gF, 5, none⟩ = some (.int .i64 0) ∧ wx.cell? ⟨gF, 6, none⟩ = some (.int .u64 0) ∧ wx.cell? ⟨g9, 3 * k, none⟩ = some (.int .i64 i0) ∧ wx.cell? ⟨g9, 3 * k + 1, none⟩ = some (.int .i64 ((k : Int) + 1)) ∧ wx.cell? ⟨g9, 3 * k + 2, none⟩ = some (.string X))) (by kernel_rfl) (HS6.out _ (Below.refl _ Wf).drew) (fun hHeld => ?_)
                                refine' wpAnyH_take (i := 0) (v := ?v0mr) rfl (by kernel_rfl) (by kernel_rfl) (by kernel_rfl) (fun _ _ _ h => h) (Or.inl ⟨by rfl, ?hy0mr⟩) hHeld ?rest0mr
                                case hy0mr => intro w hSw; (try dsimp only at hSw); go_simp; all_goals with_reducible rfl
                                try simp only [sA, gA]
                                refine' wpAnyH_take (i := 1) (v := ?v1mr) rfl (by kernel_rfl) (by kernel_rfl) (by kernel_rfl) (fun _ _ _ h => h) (Or.inl ⟨by rfl, ?hy1mr⟩) hHeld ?rest1mr
                                case hy1mr => intro w hSw; (try dsimp only at hSw); go_simp; all_goals with_reducible rfl
                                try simp only [sA, gA]
                                refine' wpAnyH_take (i := 2) (v := ?v2mr) rfl (by kernel_rfl) (by kernel_rfl) (by kernel_rfl) (fun _ _ _ h => h) (Or.inl ⟨by rfl, ?hy2mr⟩) hHeld ?rest2mr
                                case hy2mr => intro w hSw; (try dsimp only at hSw); go_simp; all_goals with_reducible rfl
                                try simp only [sA, gA]
                                refine' wpAnyH_take (i := 3) (v := ?v3mr) rfl (by kernel_rfl) (by kernel_rfl) (by kernel_rfl) (fun _ _ _ h => h) (Or.inl ⟨by rfl, ?hy3mr⟩) hHeld ?rest3mr
                                case hy3mr => intro w hSw; (try dsimp only at hSw); go_simp; all_goals with_reducible rfl
                                try simp only [sA, gA]
                                refine' wpAnyH_take (i := 4) (v := ?v4mr) rfl (by kernel_rfl) (by kernel_rfl) (by kernel_rfl) (fun _ _ _ h => h) (Or.inl ⟨by rfl, ?hy4mr⟩) hHeld ?rest4mr
                                case hy4mr => intro w hSw; (try dsimp only at hSw); go_simp; all_goals with_reducible rfl
                                try simp only [sA, gA]
                                refine wpAnyH_ready (rs := [5, 6]) (by kernel_rfl) (by simp) ?_
                                refine AllReadyH.cons rfl (fun KQ hKQ => ?_) (AllReadyH.cons rfl (fun KQ hKQ => ?_) AllReadyH.nil)
                                ·
                                  go_simp
                                  go_at_call 20
                                  refine (HSF.out _ (hE7.out.bel.trans (Below.mono ((Below.refl Wf.heap.size Wf).drew) hE7.out.bel.size))).mono ?_
                                  rintro e m1 ⟨rfl, hB9⟩
                                  have HBm1 := Lib.hid (((Below.refl Wf.heap.size Wf).drew).trans (hB9.mono ((Below.refl Wf.heap.size Wf).drew).size))
                                  clear hB9
                                  go_wp2_with fail
                                  refine hKQ.out _ _ ?_ (fun hHeld2 => ?_)
                                  · exact HS6.out _ HBm1.out
                                  clear hKQ KQ hHeld
                                  have hHeld := hHeld2
                                  clear hHeld2
                                  try simp only [sA, gA]
                                  refine wpAnyH_ready (rs := [6]) (by kernel_rfl) (by simp) ?_
                                  refine AllReadyH.cons rfl (fun KQ hKQ => ?_) AllReadyH.nil
                                  go_simp
                                  refine hKQ.out _ _ ?_ (fun _ => ?_)
                                  · exact HS6.out _ ((HBm1.out).alloc (HBm1.out).size (.cells #[.int .i64 0, .int .i64 0, .int .i64 0, .string ⟨#[]⟩, .int .i64 0, .int .i64 0, .int .u64 0, .int .i64 0, .int .i64 0, .string ⟨#[]⟩, .string ⟨#[]⟩, .int .i64 0] 46))
                                  clear hKQ KQ hHeld
                                  refine world_is (P := fun W => wpAnyH _ _ _ _ _ _ _ _ W) (fun m2 hw9 => ?_)
                                  have HBm2 : Hid (Below Wf.heap.size Wf m2) := by unfold Hid; rw [← hw9]; exact (HBm1.out).alloc (HBm1.out).size (.cells #[.int .i64 0, .int .i64 0, .int .i64 0, .string ⟨#[]⟩, .int .i64 0, .int .i64 0, .int .u64 0, .int .i64 0, .int .i64 0, .string ⟨#[]⟩, .string ⟨#[]⟩, .int .i64 0] 46)
                                  have HOm2_0 : Hid (Blk m2 m1.heap.size 46 #[.int .i64 0, .int .i64 0, .int .i64 0, .string ⟨#[]⟩, .int .i64 0, .int .i64 0, .int .u64 0, .int .i64 0, .int .i64 0, .string ⟨#[]⟩, .string ⟨#[]⟩, .int .i64 0]) := by unfold Hid; rw [← hw9]; exact Blk.new (m1) 46 #[.int .i64 0, .int .i64 0, .int .i64 0, .string ⟨#[]⟩, .int .i64 0, .int .i64 0, .int .u64 0, .int .i64 0, .int .i64 0, .string ⟨#[]⟩, .string ⟨#[]⟩, .int .i64 0]
                                  clear hw9
                                  have hHeld := HS6.out _ HBm2.out
                                  try simp only [sA, gA]
                                  refine wpAnyH_ready (rs := [7]) (by kernel_rfl) (by simp) ?_
                                  refine AllReadyH.cons rfl (fun KQ hKQ => ?_) AllReadyH.nil
                                  refine wp_store_mid 46 _ _ rfl (m1.heap.size) 0 #[.int .i64 pb0, .int .i64 pb1, .int .i64 pb2, .string pb3, .int .i64 pb4, .int .i64 pb5, .int .u64 (pb6 : Int), .int .i64 0, .int .i64 0, .string ⟨#[]⟩, .string T2, .int .i64 (E2 : Int)] rfl rfl ?h1m3 infoSld (all_oneCell_toArray (sldC_one ⟨pb0, pb1, pb2, pb3, pb4, pb5, pb6⟩ noMsg T2 E2)) ?h4m3
                                  case h1m3 => exact there_of_blk (o := 0) (HOm2_0.out) (Nat.le_refl _)
                                  case h4m3 =>
                                  refine hKQ.out _ _ ?_ (fun _ => ?_)
                                  · exact HS6.out _ (below_setCells ((HBm1.out).size) (#[.int .i64 pb0, .int .i64 pb1, .int .i64 pb2, .string pb3, .int .i64 pb4, .int .i64 pb5, .int .u64 (pb6 : Int), .int .i64 0, .int .i64 0, .string ⟨#[]⟩, .string T2, .int .i64 (E2 : Int)] : Array Value).toList 0 _ (HBm2.out))
                                  clear hKQ KQ hHeld
                                  refine world_is (P := fun W => wpAnyH _ _ _ _ _ _ _ _ W) (fun m3 hw9 => ?_)
                                  have HBm3 : Hid (Below Wf.heap.size Wf m3) := by unfold Hid; rw [← hw9]; exact below_setCells ((HBm1.out).size) (#[.int .i64 pb0, .int .i64 pb1, .int .i64 pb2, .string pb3, .int .i64 pb4, .int .i64 pb5, .int .u64 (pb6 : Int), .int .i64 0, .int .i64 0, .string ⟨#[]⟩, .string T2, .int .i64 (E2 : Int)] : Array Value).toList 0 _ (HBm2.out)
                                  have HOm3_0 : Hid (Blk m3 m1.heap.size 46 #[.int .i64 pb0, .int .i64 pb1, .int .i64 pb2, .string pb3, .int .i64 pb4, .int .i64 pb5, .int .u64 (pb6 : Int), .int .i64 0, .int .i64 0, .string ⟨#[]⟩, .string T2, .int .i64 (E2 : Int)]) := by unfold Hid; rw [← hw9]; exact blk_setWhole (HOm2_0.out) (#[.int .i64 pb0, .int .i64 pb1, .int .i64 pb2, .string pb3, .int .i64 pb4, .int .i64 pb5, .int .u64 (pb6 : Int), .int .i64 0, .int .i64 0, .string ⟨#[]⟩, .string T2, .int .i64 (E2 : Int)] : Array Value).toList rfl
                                  clear hw9
                                  have hHeld := HS6.out _ HBm3.out
                                  try simp only [sA, gA]
                                  refine wpAnyH_done (by kernel_rfl) ?_ _
                                  clear hHeld
                                  go_wp2_with fail
                                  go_meet
                                  exact ⟨_, rfl, HOm3_0.out, HBm3.out⟩
                                ·
                                  go_simp
                                  refine hKQ.out _ _ ?_ (fun _ => ?_)
                                  · exact HS6.out _ (((Below.refl Wf.heap.size Wf).drew).alloc ((Below.refl Wf.heap.size Wf).drew).size (.cells #[.int .i64 0, .int .i64 0, .int .i64 0, .string ⟨#[]⟩, .int .i64 0, .int .i64 0, .int .u64 0, .int .i64 0, .int .i64 0, .string ⟨#[]⟩, .string ⟨#[]⟩, .int .i64 0] 46))
                                  clear hKQ KQ hHeld
                                  refine world_is (P := fun W => wpAnyH _ _ _ _ _ _ _ _ W) (fun m4 hw9 => ?_)
                                  have HBm4 : Hid (Below Wf.heap.size Wf m4) := by unfold Hid; rw [← hw9]; exact ((Below.refl Wf.heap.size Wf).drew).alloc ((Below.refl Wf.heap.size Wf).drew).size (.cells #[.int .i64 0, .int .i64 0, .int .i64 0, .string ⟨#[]⟩, .int .i64 0, .int .i64 0, .int .u64 0, .int .i64 0, .int .i64 0, .string ⟨#[]⟩, .string ⟨#[]⟩, .int .i64 0] 46)
                                  have HOm4_0 : Hid (Blk m4 Wf.drew.heap.size 46 #[.int .i64 0, .int .i64 0, .int .i64 0, .string ⟨#[]⟩, .int .i64 0, .int .i64 0, .int .u64 0, .int .i64 0, .int .i64 0, .string ⟨#[]⟩, .string ⟨#[]⟩, .int .i64 0]) := by unfold Hid; rw [← hw9]; exact Blk.new (Wf.drew) 46 #[.int .i64 0, .int .i64 0, .int .i64 0, .string ⟨#[]⟩, .int .i64 0, .int .i64 0, .int .u64 0, .int .i64 0, .int .i64 0, .string ⟨#[]⟩, .string ⟨#[]⟩, .int .i64 0]
                                  clear hw9
                                  have hHeld := HS6.out _ HBm4.out
                                  try simp only [sA, gA]
                                  refine wpAnyH_ready (rs := [5]) (by kernel_rfl) (by simp) ?_
                                  refine AllReadyH.cons rfl (fun KQ hKQ => ?_) AllReadyH.nil
                                  go_simp
                                  go_at_call 20
                                  refine (HSF.out _ (hE7.out.bel.trans (Below.mono (HBm4.out) hE7.out.bel.size))).mono ?_
                                  rintro e m5 ⟨rfl, hB9⟩
                                  have HBm5 := Lib.hid ((HBm4.out).trans (hB9.mono (HBm4.out).size))
                                  have HOm5_0 := Lib.hid ((HOm4_0.out).below hB9 (HOm4_0.out).lt)
                                  clear hB9
                                  go_wp2_with fail
                                  refine hKQ.out _ _ ?_ (fun hHeld2 => ?_)
                                  · exact HS6.out _ HBm5.out
                                  clear hKQ KQ hHeld
                                  have hHeld := hHeld2
                                  clear hHeld2
                                  try simp only [sA, gA]
                                  refine wpAnyH_ready (rs := [7]) (by kernel_rfl) (by simp) ?_
                                  refine AllReadyH.cons rfl (fun KQ hKQ => ?_) AllReadyH.nil
                                  refine wp_store_mid 46 _ _ rfl (Wf.drew.heap.size) 0 #[.int .i64 pb0, .int .i64 pb1, .int .i64 pb2, .string pb3, .int .i64 pb4, .int .i64 pb5, .int .u64 (pb6 : Int), .int .i64 0, .int .i64 0, .string ⟨#[]⟩, .string T2, .int .i64 (E2 : Int)] rfl rfl ?h1m6 infoSld (all_oneCell_toArray (sldC_one ⟨pb0, pb1, pb2, pb3, pb4, pb5, pb6⟩ noMsg T2 E2)) ?h4m6
                                  case h1m6 => exact there_of_blk (o := 0) (HOm5_0.out) (Nat.le_refl _)
                                  case h4m6 =>
                                  refine hKQ.out _ _ ?_ (fun _ => ?_)
                                  · exact HS6.out _ (below_setCells (((Below.refl Wf.heap.size Wf).drew).size) (#[.int .i64 pb0, .int .i64 pb1, .int .i64 pb2, .string pb3, .int .i64 pb4, .int .i64 pb5, .int .u64 (pb6 : Int), .int .i64 0, .int .i64 0, .string ⟨#[]⟩, .string T2, .int .i64 (E2 : Int)] : Array Value).toList 0 _ (HBm5.out))
                                  clear hKQ KQ hHeld
                                  refine world_is (P := fun W => wpAnyH _ _ _ _ _ _ _ _ W) (fun m6 hw9 => ?_)
                                  have HBm6 : Hid (Below Wf.heap.size Wf m6) := by unfold Hid; rw [← hw9]; exact below_setCells (((Below.refl Wf.heap.size Wf).drew).size) (#[.int .i64 pb0, .int .i64 pb1, .int .i64 pb2, .string pb3, .int .i64 pb4, .int .i64 pb5, .int .u64 (pb6 : Int), .int .i64 0, .int .i64 0, .string ⟨#[]⟩, .string T2, .int .i64 (E2 : Int)] : Array Value).toList 0 _ (HBm5.out)
                                  have HOm6_0 : Hid (Blk m6 Wf.drew.heap.size 46 #[.int .i64 pb0, .int .i64 pb1, .int .i64 pb2, .string pb3, .int .i64 pb4, .int .i64 pb5, .int .u64 (pb6 : Int), .int .i64 0, .int .i64 0, .string ⟨#[]⟩, .string T2, .int .i64 (E2 : Int)]) := by unfold Hid; rw [← hw9]; exact blk_setWhole (HOm5_0.out) (#[.int .i64 pb0, .int .i64 pb1, .int .i64 pb2, .string pb3, .int .i64 pb4, .int .i64 pb5, .int .u64 (pb6 : Int), .int .i64 0, .int .i64 0, .string ⟨#[]⟩, .string T2, .int .i64 (E2 : Int)] : Array Value).toList rfl
                                  clear hw9
                                  have hHeld := HS6.out _ HBm6.out
                                  try simp only [sA, gA]
                                  refine wpAnyH_done (by kernel_rfl) ?_ _
                                  clear hHeld
                                  go_wp2_with fail
                                  go_meet
                                  exact ⟨_, rfl, HOm6_0.out, HBm6.out⟩
                              case rest =>
                                obtain ⟨g2, rfl, HQ2, HBn⟩ := hcut
                                have hE8 := Lib.hid (hE7.out.below HBn.out)
                                have HQ3 := Lib.hid (HQ1.out.below HBn.out HQ1.out.lt)
                                clear hE7 HQ1 HBn HS6 HSF
                                have v1 := HQ3.out.cell 11
                                have v2 := HQ2.out.cell 11
                                go_wp2_with fail
                                refine ⟨⟨i + 1, _, G3, by go_num, hltH.out, hG, hGl, hE8⟩, ?_⟩
                                have := hltH.out
                                simp [intOf]
                                omega
                    · have d1 : decide (i < m) = false := decide_eq_false hlt
                      have d2 : decide ((i : Int) < (m : Int)) = false := decide_eq_false (by omega)
                      go_wp2_with fail
                      go_ret
                      exact ⟨rfl, hE.out.bel⟩
                · have z1 : decide (0 < n) = false := decide_eq_false hn0
                  have z2 : decide ((0 : Int) < (n : Int)) = false := decide_eq_false (by omega)
                  obtain ⟨A2, c2, hp⟩ := grow_form hR1.out
                  subst hp
                  go_upto_region 27 with fail
                  refine world_is (P := fun W => Code.wp _ _ _ _ W) (fun W6 hW6 => ?_)
                  have hB6 : Hid (Below w.heap.size w W6) := by unfold Hid; rw [← hW6]; exact hB.out.alloc hB.out.size _
                  clear hW6 hB hT hF1 hR1
                  go_wp2_with fail
                  go_loopw [20] (fun v wr => v = .int .i64 0 ∧ Hid (Below w.heap.size w wr)) (fun _ _ => 0)
                  case atStart => exact ⟨rfl, hB6⟩
                  case round =>
                    obtain ⟨rfl, hB⟩ := hrel
                    by_cases hm0 : 0 < m
                    · have d1 : decide (0 < m) = true := decide_eq_true hm0
                      have d2 : decide ((0 : Int) < (m : Int)) = true := decide_eq_true (by omega)
                      go_wp2_with fail
                      go_ret
                      exact ⟨rfl, hB.out⟩
                    · have d1 : decide (0 < m) = false := decide_eq_false hm0
                      have d2 : decide ((0 : Int) < (m : Int)) = false := decide_eq_false (by omega)
                      go_wp2_with fail
                      go_ret
                      exact ⟨rfl, hB.out⟩

    · have d2 : decide ((40 : Int) < (m : Int)) = true := decide_eq_true (by omega)
      go_wp2_with (first | (go_at_call 10; refine (HSA.out _ (Below.refl _ _)).mono ?_; rintro e w1 ⟨rfl, hB⟩; have HB1 := Lib.hid hB; clear hB) | fail)
      go_ret
      exact ⟨rfl, HB1.out⟩
  · have d1 : decide ((12 : Int) < (n : Int)) = true := decide_eq_true (by omega)
    go_wp2_with (first | (go_at_call 10; refine (HSA.out _ (Below.refl _ _)).mono ?_; rintro e w1 ⟨rfl, hB⟩; have HB1 := Lib.hid hB; clear hB) | fail)
    go_ret
    exact ⟨rfl, HB1.out⟩
end Go.Proofs.YtbhagfdkipgggaaDoor
