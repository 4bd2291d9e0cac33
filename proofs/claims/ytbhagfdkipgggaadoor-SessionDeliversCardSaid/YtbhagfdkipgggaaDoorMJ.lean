/-
  Layer 29 (session): Join.
  Layer 29 (session): Accept.
-/
import Derived.Test.YtbhagfdkipgggaaDoorMB
import Derived.Test.YtbhagfdkipgggaaDoorMI
namespace Go.Proofs.YtbhagfdkipgggaaDoor
open Go.RowKit Go.Shelf
attribute [local go_sem] Oper.semAt_some
theorem sesC_len (s : Ses) : (sesC s).length = 7 := rfl
theorem sesC_one (s : Ses) : ∀ v ∈ sesC s, v.oneCell' = true := by
  intro v hv
  unfold sesC at hv
  simp only [List.mem_cons, List.not_mem_nil, or_false] at hv
  rcases hv with rfl | rfl | rfl | rfl | rfl | rfl | rfl <;> rfl
theorem infoSes' : ∃ a, Tryd.prog.info? 32 = some a ∧ a.size = 7 := Option.map_eq_some_iff.1 infoSes
theorem start_cases (s : ByteArray) (h : Hel) (id side : Int) (n : ByteArray) : (startP s h id side n).2.2 = 0 ∨ (startP s h id side n).2.2 = 1 := by
  unfold startP
  split
  · exact .inl rfl
  · exact .inr rfl
theorem zSes_one : zSes.all (·.oneCell') = true := by kernel_rfl
theorem blk_new3 (w : World) (o1 o2 : Obj) (t : TypeId) (cs : Array Value) : Blk (((w.alloc o1).alloc o2).alloc (.cells cs t)) (w.heap.size + 1 + 1) t cs := by
  have bk := Blk.new ((w.alloc o1).alloc o2) t cs
  rw [World.size_alloc, World.size_alloc] at bk
  exact bk
theorem start_tag_size (s : ByteArray) (h : Hel) (id side : Int) (n : ByteArray) : (startP s h id side n).2.1.size < 4611686018427387904 := by
  unfold startP
  split
  · dsimp only
    unfold welcomeL
    rw [txt_size, codeL_len]
    decide
  · decide
set_option maxRecDepth 100000 in
set_option maxHeartbeats 1000000 in
theorem joinS_any (w : World) (s : ByteArray) (h : Hel) (wl : Wel) (hK : KAt w 1) :
    Calls Tryd.prog 15 #[.string s, helV h, welV wl] w fun e w' => e = .returned (.tuple #[sesV (joinP s h wl).1, .int .i64 ((joinP s h wl).2 : Nat)]) ∧ Below w.heap.size w w' := by
  have HST : Hid (∀ wx, Below w.heap.size w wx → Calls Tryd.prog 42 #[.string s, helV h, .int .i64 wl.sess, .int .i64 1, .string wl.nonce] wx fun e w' => e = .returned (.tuple #[sesV (startP s h wl.sess 1 wl.nonce).1, .string (startP s h wl.sess 1 wl.nonce).2.1, .int .i64 ((startP s h wl.sess 1 wl.nonce).2.2 : Nat)]) ∧ Below wx.heap.size wx w') := fun wx hB => start_any wx s wl.nonce h wl.sess 1 (hK.below hB)
  have hcase := start_cases s h wl.sess 1 wl.nonce
  have ht := start_tag_size s h wl.sess 1 wl.nonce
  have hJ : Hid (joinP s h wl = if (startP s h wl.sess 1 wl.nonce).2.2 = 0 then (if wl.tag = (startP s h wl.sess 1 wl.nonce).2.1 then ((startP s h wl.sess 1 wl.nonce).1, 0) else (noSes, 8)) else (noSes, 1)) := rfl
  generalize startP s h wl.sess 1 wl.nonce = R at *
  obtain ⟨S, T, e⟩ := R
  obtain ⟨C, hC⟩ : ∃ C, sesC S = C := ⟨_, rfl⟩
  have hSV : sesV S = .agg C.toArray := by unfold sesV; rw [hC]
  have hCl : Hid (C.length = 7) := by unfold Hid; rw [← hC]; rfl
  have hCo : Hid (∀ v ∈ C, v.oneCell' = true) := by unfold Hid; rw [← hC]; exact sesC_one S
  have hSVH := Lib.hid hSV
  have HEQ : Hid (∀ wx, Calls Tryd.prog 43 #[.string wl.tag, .string T] wx fun e w' => e = .returned (.bool (decide (wl.tag = T))) ∧ Below wx.heap.size wx w') := fun wx => equal_any wx wl.tag T ht
  rw [hSV] at HST
  unfold helV helC at HST ⊢
  unfold welV welC
  dsimp only at HST hcase hJ
  have hone := Lib.hid (all_oneCell_toArray hCo.out)
  clear hSV hC hK ht
  rcases hcase with rfl | rfl
  · by_cases hT : wl.tag = T
    · have q1 : decide (wl.tag = T) = true := decide_eq_true hT
      rw [if_pos rfl, if_pos hT] at hJ
      rw [q1] at HEQ
      clear q1 hT
      go_enter Tryd.func15, Tryd.ntmps15
      go_upto_region 1 with fail
      refine world_is (P := fun W => Code.wp _ _ _ _ W) (fun Wa hWa => ?_)
      have HHl : Hid (Blk Wa w.heap.size 23 #[.int .i64 h.role, .string h.nonce, .string h.tag]) := by unfold Hid; rw [← hWa]; exact ((Blk.new w _ _).alloc _).alloc _
      have HWl : Hid (Blk Wa (w.heap.size + 1) 25 #[.int .i64 wl.sess, .string wl.nonce, .string wl.tag]) := by unfold Hid; rw [← hWa]; exact (blk_new2 _ _ _ _).alloc _
      have HR : Hid (Blk Wa (w.heap.size + 1 + 1) 32 zSes) := by unfold Hid; rw [← hWa]; exact blk_new3 _ _ _ _ _
      have HBa : Hid (Below w.heap.size w Wa) := by unfold Hid; rw [← hWa]; exact ((Below.refl w.heap.size w).alloc (Nat.le_refl _) _).alloc (by rw [World.size_alloc]; exact Nat.le_succ _) _ |>.alloc (by rw [World.size_alloc, World.size_alloc]; omega) _
      clear hWa
      have c0 := HHl.out.cell 0
      have c1 := HHl.out.cell 1
      have c2 := HHl.out.cell 2
      have d0 := HWl.out.cell 0
      have d1 := HWl.out.cell 1
      go_upto_region 2 with (first
        | (go_at_call 42; refine (HST.out _ HBa.out).mono ?_; rintro e w1 ⟨rfl, hB⟩; have HB1 := Lib.hid hB; clear hB)
        | (refine wpList_store_mid rfl 32 _ _ rfl w1.heap.size 0 C.toArray rfl rfl (there_of_blk (o := 0) (Blk.new w1 32 zSes) (by rw [List.size_toArray, hCl.out]; exact Nat.le_refl _)) (by rw [List.size_toArray, hCl.out]; exact infoSes) hone.out ?_)
        | fail)
      try simp only [sA]
      refine world_is (P := fun W => Code.wp _ _ _ _ W) (fun W2 hW2 => ?_)
      have HC : Hid (Blk W2 w1.heap.size 32 C.toArray) := by unfold Hid; rw [← hW2]; exact blk_setWhole (Blk.new w1 32 zSes) C (by rw [hCl.out]; rfl)
      have HB12 : Hid (Below w1.heap.size w1 W2) := by unfold Hid; rw [← hW2]; exact below_setCells (Nat.le_refl _) _ 0 _ ((Below.refl w1.heap.size w1).alloc (Nat.le_refl _) _)
      clear hW2
      have HBa2 := Lib.hid (HB1.out.trans (HB12.out.mono HB1.out.size))
      have HB2 := Lib.hid (HBa.out.trans (HBa2.out.mono HBa.out.size))
      have HR2 := Lib.hid (HR.out.below HBa2.out HR.out.lt)
      have HWl2 := Lib.hid (HWl.out.below HBa2.out HWl.out.lt)
      clear c0 c1 c2 d0 d1 HHl HWl HR HB12 HBa2 HST HBa HB1
      have t2 := HWl2.out.cell 2
      go_wp2_with (first
        | (go_at_call 43; refine (HEQ.out _).mono ?_; rintro e w3 ⟨rfl, hB⟩; have HB3 := Lib.hid (HB2.out.trans (hB.mono HB2.out.size)); have HC3 := HC.out.below hB HC.out.lt; have hrg3 := range_of_blk HC3; have HR3 := Lib.hid (HR2.out.below hB HR2.out.lt); clear hB HC3)
        | (refine wpList_load_mid rfl 32 _ rfl w1.heap.size 0 rfl C _ hrg3 Tryd.underlying32 rfl (by rw [hCl.out]; exact infoSes) ?_)
        | (refine wpList_store_mid rfl 32 _ _ rfl (w.heap.size + 1 + 1) 0 C.toArray rfl rfl (there_of_blk (o := 0) HR3.out (by rw [List.size_toArray, hCl.out]; exact Nat.le_refl _)) (by rw [List.size_toArray, hCl.out]; exact infoSes) hone.out ?_)
        | fail)
      have hL := blk_setWhole HR3.out C (by rw [hCl.out]; rfl)
      have hBL := below_setCells (g := w.heap.size + 1 + 1) (by omega) C 0 _ HB3.out
      rw [hJ.out]
      exact bodyPost_ret (v := .tuple #[.agg C.toArray, .int .i64 0]) (results_ct (P := Tryd.prog) (p := 6) (q := 7) rfl _ _ (w.heap.size + 1 + 1) 32 C.toArray _ rfl hL Tryd.underlying32 rfl (by rw [List.size_toArray, hCl.out]; exact infoSes)) rfl ⟨by rw [hSVH.out]; rfl, hBL⟩
    · have q1 : decide (wl.tag = T) = false := decide_eq_false hT
      rw [if_pos rfl, if_neg hT] at hJ
      rw [q1] at HEQ
      clear q1 hT
      go_enter Tryd.func15, Tryd.ntmps15
      go_upto_region 1 with fail
      refine world_is (P := fun W => Code.wp _ _ _ _ W) (fun Wa hWa => ?_)
      have HHl : Hid (Blk Wa w.heap.size 23 #[.int .i64 h.role, .string h.nonce, .string h.tag]) := by unfold Hid; rw [← hWa]; exact ((Blk.new w _ _).alloc _).alloc _
      have HWl : Hid (Blk Wa (w.heap.size + 1) 25 #[.int .i64 wl.sess, .string wl.nonce, .string wl.tag]) := by unfold Hid; rw [← hWa]; exact (blk_new2 _ _ _ _).alloc _
      have HR : Hid (Blk Wa (w.heap.size + 1 + 1) 32 zSes) := by unfold Hid; rw [← hWa]; exact blk_new3 _ _ _ _ _
      have HBa : Hid (Below w.heap.size w Wa) := by unfold Hid; rw [← hWa]; exact ((Below.refl w.heap.size w).alloc (Nat.le_refl _) _).alloc (by rw [World.size_alloc]; exact Nat.le_succ _) _ |>.alloc (by rw [World.size_alloc, World.size_alloc]; omega) _
      clear hWa
      have c0 := HHl.out.cell 0
      have c1 := HHl.out.cell 1
      have c2 := HHl.out.cell 2
      have d0 := HWl.out.cell 0
      have d1 := HWl.out.cell 1
      go_upto_region 2 with (first
        | (go_at_call 42; refine (HST.out _ HBa.out).mono ?_; rintro e w1 ⟨rfl, hB⟩; have HB1 := Lib.hid hB; clear hB)
        | (refine wpList_store_mid rfl 32 _ _ rfl w1.heap.size 0 C.toArray rfl rfl (there_of_blk (o := 0) (Blk.new w1 32 zSes) (by rw [List.size_toArray, hCl.out]; exact Nat.le_refl _)) (by rw [List.size_toArray, hCl.out]; exact infoSes) hone.out ?_)
        | fail)
      try simp only [sA]
      refine world_is (P := fun W => Code.wp _ _ _ _ W) (fun W2 hW2 => ?_)
      have HC : Hid (Blk W2 w1.heap.size 32 C.toArray) := by unfold Hid; rw [← hW2]; exact blk_setWhole (Blk.new w1 32 zSes) C (by rw [hCl.out]; rfl)
      have HB12 : Hid (Below w1.heap.size w1 W2) := by unfold Hid; rw [← hW2]; exact below_setCells (Nat.le_refl _) _ 0 _ ((Below.refl w1.heap.size w1).alloc (Nat.le_refl _) _)
      clear hW2
      have HBa2 := Lib.hid (HB1.out.trans (HB12.out.mono HB1.out.size))
      have HB2 := Lib.hid (HBa.out.trans (HBa2.out.mono HBa.out.size))
      have HR2 := Lib.hid (HR.out.below HBa2.out HR.out.lt)
      have HWl2 := Lib.hid (HWl.out.below HBa2.out HWl.out.lt)
      clear c0 c1 c2 d0 d1 HHl HWl HR HB12 HBa2 HST HBa HB1
      have t2 := HWl2.out.cell 2
      go_wp2_with (first
        | (go_at_call 43; refine (HEQ.out _).mono ?_; rintro e w3 ⟨rfl, hB⟩; have HB3 := Lib.hid (HB2.out.trans (hB.mono HB2.out.size)); have HC3 := HC.out.below hB HC.out.lt; have hrg3 := range_of_blk HC3; have HR3 := Lib.hid (HR2.out.below hB HR2.out.lt); clear hB HC3)
        | (refine wpList_store_mid rfl 32 _ _ rfl (w.heap.size + 1 + 1) 0 zSes rfl rfl (there_of_blk (o := 0) HR3.out (Nat.le_refl _)) infoSes zSes_one ?_)
        | fail)
      have hL := blk_setWhole HR3.out zSes.toList rfl
      have hBL := below_setCells (g := w.heap.size + 1 + 1) (by omega) zSes.toList 0 _ HB3.out
      rw [hJ.out]
      exact bodyPost_ret (v := .tuple #[.agg zSes, .int .i64 8]) (results_ct (P := Tryd.prog) (p := 6) (q := 7) rfl _ _ (w.heap.size + 1 + 1) 32 zSes _ rfl hL Tryd.underlying32 rfl infoSes) rfl ⟨rfl, hBL⟩
  · rw [if_neg (by decide)] at hJ
    go_enter Tryd.func15, Tryd.ntmps15
    go_upto_region 1 with fail
    refine world_is (P := fun W => Code.wp _ _ _ _ W) (fun Wa hWa => ?_)
    have HHl : Hid (Blk Wa w.heap.size 23 #[.int .i64 h.role, .string h.nonce, .string h.tag]) := by unfold Hid; rw [← hWa]; exact ((Blk.new w _ _).alloc _).alloc _
    have HWl : Hid (Blk Wa (w.heap.size + 1) 25 #[.int .i64 wl.sess, .string wl.nonce, .string wl.tag]) := by unfold Hid; rw [← hWa]; exact (blk_new2 _ _ _ _).alloc _
    have HR : Hid (Blk Wa (w.heap.size + 1 + 1) 32 zSes) := by unfold Hid; rw [← hWa]; exact blk_new3 _ _ _ _ _
    have HBa : Hid (Below w.heap.size w Wa) := by unfold Hid; rw [← hWa]; exact ((Below.refl w.heap.size w).alloc (Nat.le_refl _) _).alloc (by rw [World.size_alloc]; exact Nat.le_succ _) _ |>.alloc (by rw [World.size_alloc, World.size_alloc]; omega) _
    clear hWa
    have c0 := HHl.out.cell 0
    have c1 := HHl.out.cell 1
    have c2 := HHl.out.cell 2
    have d0 := HWl.out.cell 0
    have d1 := HWl.out.cell 1
    go_upto_region 2 with (first
      | (go_at_call 42; refine (HST.out _ HBa.out).mono ?_; rintro e w1 ⟨rfl, hB⟩; have HB1 := Lib.hid hB; clear hB)
      | (refine wpList_store_mid rfl 32 _ _ rfl w1.heap.size 0 C.toArray rfl rfl (there_of_blk (o := 0) (Blk.new w1 32 zSes) (by rw [List.size_toArray, hCl.out]; exact Nat.le_refl _)) (by rw [List.size_toArray, hCl.out]; exact infoSes) hone.out ?_)
      | fail)
    try simp only [sA]
    refine world_is (P := fun W => Code.wp _ _ _ _ W) (fun W2 hW2 => ?_)
    have HC : Hid (Blk W2 w1.heap.size 32 C.toArray) := by unfold Hid; rw [← hW2]; exact blk_setWhole (Blk.new w1 32 zSes) C (by rw [hCl.out]; rfl)
    have HB12 : Hid (Below w1.heap.size w1 W2) := by unfold Hid; rw [← hW2]; exact below_setCells (Nat.le_refl _) _ 0 _ ((Below.refl w1.heap.size w1).alloc (Nat.le_refl _) _)
    clear hW2
    have HBa2 := Lib.hid (HB1.out.trans (HB12.out.mono HB1.out.size))
    have HB2 := Lib.hid (HBa.out.trans (HBa2.out.mono HBa.out.size))
    have HR2 := Lib.hid (HR.out.below HBa2.out HR.out.lt)
    have HWl2 := Lib.hid (HWl.out.below HBa2.out HWl.out.lt)
    clear c0 c1 c2 d0 d1 HHl HWl HR HB12 HBa2 HST HBa HB1
    go_wp2_with (first
      | (refine wpList_store_mid rfl 32 _ _ rfl (w.heap.size + 1 + 1) 0 zSes rfl rfl (there_of_blk (o := 0) HR2.out (Nat.le_refl _)) infoSes zSes_one ?_)
      | fail)
    have hL := blk_setWhole HR2.out zSes.toList rfl
    have hBL := below_setCells (g := w.heap.size + 1 + 1) (by omega) zSes.toList 0 _ HB2.out
    rw [hJ.out]
    exact bodyPost_ret (v := .tuple #[.agg zSes, .int .i64 1]) (results_ct (P := Tryd.prog) (p := 6) (q := 7) rfl _ _ (w.heap.size + 1 + 1) 32 zSes _ rfl hL Tryd.underlying32 rfl infoSes) rfl ⟨rfl, hBL⟩
end Go.Proofs.YtbhagfdkipgggaaDoor
namespace Go.Proofs.YtbhagfdkipgggaaDoor
open Go.RowKit Go.Shelf
attribute [local go_sem] Oper.semAt_some
theorem results_cct {P : Program} {fn : Func} {p q r : Tmp} {ty ty2 : TypeId} (h : fn.results = #[.cell p ty, .cell q ty2, .tmp r]) (tmps : Array Value) (w : World) (g g2 : Nat) (t t2 : TypeId) (cs cs2 : Array Value) (d d2 : TypeDesc)
    (hp : tmps.getD p undef = .pointer (some ⟨g, 0, none⟩)) (hg : Blk w g t cs) (hu : P.underlying ty = some d) (hd : (match d with | .struct _ | .array _ _ => true | _ => false) = true) (hi : (P.info? ty).map (·.size) = some cs.size)
    (hp2 : tmps.getD q undef = .pointer (some ⟨g2, 0, none⟩)) (hg2 : Blk w g2 t2 cs2) (hu2 : P.underlying ty2 = some d2) (hd2 : (match d2 with | .struct _ | .array _ _ => true | _ => false) = true) (hi2 : (P.info? ty2).map (·.size) = some cs2.size) :
    (results fn tmps).run P w = .ok (.tuple #[.agg cs, .agg cs2, tmps.getD r undef]) w := by
  have hp' : tmps[p]?.getD undef = .pointer (some ⟨g, 0, none⟩) := by simpa using hp
  have hp2' : tmps[q]?.getD undef = .pointer (some ⟨g2, 0, none⟩) := by simpa using hp2
  unfold Blk at hg hg2
  simp [results, h, hp', hp2', asAddr, run_loadVar_row w g t ty cs (0, 0) d hg hu hd hi, run_loadVar_row w g2 t2 ty2 cs2 (0, 0) d2 hg2 hu2 hd2 hi2]
theorem infoWel : (Tryd.prog.info? 25).map (·.size) = some 3 := by kernel_rfl
def zWel : Array Value := #[.int .i64 0, .string ⟨#[]⟩, .string ⟨#[]⟩]
theorem zWel_one : zWel.all (·.oneCell') = true := by kernel_rfl
theorem wel_one (a b c : Value) (ha : a.oneCell' = true) (hb : b.oneCell' = true) (hc : c.oneCell' = true) : (#[a, b, c] : Array Value).all (·.oneCell') = true := by simp [ha, hb, hc]
theorem setCells_blk {w : World} {g g2 : Nat} {t : TypeId} {cs : Array Value} (h : Blk w g t cs) (hne : g ≠ g2) (vs : List Value) : Blk (w.setCells g2 0 vs) g t cs := h.grown (setCells_grown g2 vs 0 w) (fun e => hne (by cases e; rfl))
theorem blk_other7 {w : World} {g g2 : Nat} {t : TypeId} {cs : Array Value} (h : Blk w g t cs) (hne : g ≠ g2) (x0 x1 x2 x3 x4 x5 x6 : Value) : Blk (((((((w.setCell ⟨g2, 0, none⟩ x0).setCell ⟨g2, 1, none⟩ x1).setCell ⟨g2, 2, none⟩ x2).setCell ⟨g2, 3, none⟩ x3).setCell ⟨g2, 4, none⟩ x4).setCell ⟨g2, 5, none⟩ x5).setCell ⟨g2, 6, none⟩ x6) g t cs :=
  ((((((h.other hne x0).other hne x1).other hne x2).other hne x3).other hne x4).other hne x5).other hne x6
theorem blk_other3 {w : World} {g g2 : Nat} {t : TypeId} {cs : Array Value} (h : Blk w g t cs) (hne : g ≠ g2) (x0 x1 x2 : Value) : Blk (((w.setCell ⟨g2, 0, none⟩ x0).setCell ⟨g2, 1, none⟩ x1).setCell ⟨g2, 2, none⟩ x2) g t cs :=
  ((h.other hne x0).other hne x1).other hne x2
theorem blk3_same {w : World} {g : Nat} {t : TypeId} {x0 x1 x2 : Value} (h : Blk w g t #[x0, x1, x2]) : Blk (((w.setCell ⟨g, 0, none⟩ x0).setCell ⟨g, 1, none⟩ x1).setCell ⟨g, 2, none⟩ x2) g t #[x0, x1, x2] := by
  have h1 := h.set_ 0 x0
  have h2 := h1.set_ 1 x1
  have h3 := h2.set_ 2 x2
  simpa only [List.setIfInBounds_toArray, List.set_cons_zero, List.set_cons_succ] using h3
theorem start_ok {s : ByteArray} {h : Hel} {id side : Int} {n : ByteArray} (hz : (startP s h id side n).2.2 = 0) : Opens s h.role h.nonce := by
  unfold startP at hz
  split at hz
  · rename_i hh
    exact hh.1
  · cases hz
set_option maxRecDepth 100000 in
set_option maxHeartbeats 1600000 in
theorem accept_any (w : World) (s n : ByteArray) (h : Hel) (id : Int) (hK : KAt w 1) :
    Calls Tryd.prog 13 #[.string s, helV h, .int .i64 id, .string n] w fun e w' => e = .returned (.tuple #[sesV (acceptP s h id n).1, welV (acceptP s h id n).2.1, .int .i64 ((acceptP s h id n).2.2 : Nat)]) ∧ Below w.heap.size w w' := by
  have HST : Hid (∀ wx, Below w.heap.size w wx → Calls Tryd.prog 42 #[.string s, helV h, .int .i64 id, .int .i64 2, .string n] wx fun e w' => e = .returned (.tuple #[sesV (startP s h id 2 n).1, .string (startP s h id 2 n).2.1, .int .i64 ((startP s h id 2 n).2.2 : Nat)]) ∧ Below wx.heap.size wx w') := fun wx hB => start_any wx s n h id 2 (hK.below hB)
  have hcase := start_cases s h id 2 n
  obtain ⟨G, hG⟩ : ∃ G, txt (helloL (bl s) h.role.toNat (bl h.nonce)) = G := ⟨_, rfl⟩
  have ht : G.size < 4611686018427387904 := by
    rw [← hG, txt_size]
    unfold helloL
    rw [codeL_len]
    decide
  have HHE : (startP s h id 2 n).2.2 = 0 → Hid (∀ wx, Below w.heap.size w wx → Calls Tryd.prog 39 #[.string s, .int .i64 h.role, .string h.nonce] wx fun e w' => e = .returned (.string G) ∧ Below wx.heap.size wx w') := fun hz => by
    obtain ⟨o1, o2, o3, o4⟩ := start_ok hz
    intro wx hB
    have hh := hello_any wx s h.nonce h.role.toNat (by omega) o1 o4 (hK.below hB)
    rw [hG, show ((h.role.toNat : Nat) : Int) = h.role by omega] at hh
    exact hh
  have hJ : Hid (acceptP s h id n = if (startP s h id 2 n).2.2 = 0 then (if h.tag = G then ((startP s h id 2 n).1, ⟨id, n, (startP s h id 2 n).2.1⟩, 0) else (noSes, noWel, 8)) else (noSes, noWel, 1)) := by
    rw [← hG]
    exact rfl
  generalize startP s h id 2 n = R at *
  obtain ⟨S, T, e⟩ := R
  obtain ⟨C, hC⟩ : ∃ C, sesC S = C := ⟨_, rfl⟩
  have hSV : sesV S = .agg C.toArray := by unfold sesV; rw [hC]
  have hCl : Hid (C.length = 7) := by unfold Hid; rw [← hC]; rfl
  have hCo : Hid (∀ v ∈ C, v.oneCell' = true) := by unfold Hid; rw [← hC]; exact sesC_one S
  have hSVH := Lib.hid hSV
  have HEQ : Hid (∀ wx, Calls Tryd.prog 43 #[.string h.tag, .string G] wx fun e w' => e = .returned (.bool (decide (h.tag = G))) ∧ Below wx.heap.size wx w') := fun wx => equal_any wx h.tag G ht
  rw [hSV] at HST
  unfold helV helC at HST ⊢
  dsimp only at HST hcase hJ HHE
  have hone := Lib.hid (all_oneCell_toArray hCo.out)
  clear hSV hC hK ht hG
  rcases hcase with rfl | rfl
  · have HHX := HHE rfl
    clear HHE
    by_cases hT : h.tag = G
    · have q1 : decide (h.tag = G) = true := decide_eq_true hT
      rw [if_pos rfl, if_pos hT] at hJ
      rw [q1] at HEQ
      clear q1 hT
      go_enter Tryd.func13, Tryd.ntmps13
      go_upto_region 1 with fail
      refine world_is (P := fun W => Code.wp _ _ _ _ W) (fun Wa hWa => ?_)
      have HHl : Hid (Blk Wa w.heap.size 23 #[.int .i64 h.role, .string h.nonce, .string h.tag]) := by unfold Hid; rw [← hWa]; exact ((Blk.new w _ _).alloc _).alloc _
      have HR : Hid (Blk Wa (w.heap.size + 1) 32 zSes) := by unfold Hid; rw [← hWa]; exact Blk.alloc (blk_new2 w _ 32 zSes) _
      have HQ : Hid (Blk Wa (w.heap.size + 1 + 1) 25 zWel) := by unfold Hid; rw [← hWa]; exact blk_new3 _ _ _ _ _
      have HBa : Hid (Below w.heap.size w Wa) := by unfold Hid; rw [← hWa]; exact ((Below.refl w.heap.size w).alloc (Nat.le_refl _) _).alloc (by rw [World.size_alloc]; exact Nat.le_succ _) _ |>.alloc (by rw [World.size_alloc, World.size_alloc]; omega) _
      clear hWa
      have c0 := HHl.out.cell 0
      have c1 := HHl.out.cell 1
      have c2 := HHl.out.cell 2
      go_upto_region 2 with (first
        | (go_at_call 42; refine (HST.out _ HBa.out).mono ?_; rintro e w1 ⟨rfl, hB⟩; have HB1 := Lib.hid hB; clear hB)
        | (refine wpList_store_mid rfl 32 _ _ rfl w1.heap.size 0 C.toArray rfl rfl (there_of_blk (o := 0) (Blk.new w1 32 zSes) (by rw [List.size_toArray, hCl.out]; exact Nat.le_refl _)) (by rw [List.size_toArray, hCl.out]; exact infoSes) hone.out ?_)
        | fail)
      try simp only [sA]
      refine world_is (P := fun W => Code.wp _ _ _ _ W) (fun W2 hW2 => ?_)
      have HC : Hid (Blk W2 w1.heap.size 32 C.toArray) := by unfold Hid; rw [← hW2]; exact blk_setWhole (Blk.new w1 32 zSes) C (by rw [hCl.out]; rfl)
      have HB12 : Hid (Below w1.heap.size w1 W2) := by unfold Hid; rw [← hW2]; exact below_setCells (Nat.le_refl _) _ 0 _ ((Below.refl w1.heap.size w1).alloc (Nat.le_refl _) _)
      clear hW2
      have HBa2 := Lib.hid (HB1.out.trans (HB12.out.mono HB1.out.size))
      have HB2 := Lib.hid (HBa.out.trans (HBa2.out.mono HBa.out.size))
      have HR2 := Lib.hid (HR.out.below HBa2.out HR.out.lt)
      have HQ2 := Lib.hid (HQ.out.below HBa2.out HQ.out.lt)
      have HHl2 := Lib.hid (HHl.out.below HBa2.out HHl.out.lt)
      have HS : Hid (∀ wx, Below W2.heap.size W2 wx → wx.cell? ⟨w.heap.size, 0, none⟩ = some (.int .i64 h.role) ∧ wx.cell? ⟨w.heap.size, 1, none⟩ = some (.string h.nonce) ∧ wx.cell? ⟨w.heap.size, 2, none⟩ = some (.string h.tag)) := fun wx hB => by
        have hh := HHl2.out.below hB HHl2.out.lt
        exact ⟨hh.cell 0, hh.cell 1, hh.cell 2⟩
      clear c0 c1 c2 HHl HQ HR HB12 HBa2 HST HBa HB1
      refine wp_region_held_drew (S := (fun w' => w'.cell? ⟨w.heap.size, 0, none⟩ = some (.int .i64 h.role) ∧ w'.cell? ⟨w.heap.size, 1, none⟩ = some (.string h.nonce) ∧ w'.cell? ⟨w.heap.size, 2, none⟩ = some (.string h.tag))) (by kernel_rfl) (HS.out _ (Below.refl W2.heap.size W2).drew) (fun hHeld => ?_)
      refine' wpAnyH_take (i := 0) (v := ?v0A) rfl (by kernel_rfl) (by kernel_rfl) (by kernel_rfl) (fun _ _ _ h => h) (Or.inl ⟨by go_simp, ?hy0A⟩) hHeld ?rest0A
      case hy0A => intro w hSw; (try dsimp only at hSw); go_simp; all_goals with_reducible rfl
      try simp only [sA, gA]
      refine' wpAnyH_take (i := 1) (v := ?v1A) rfl (by kernel_rfl) (by kernel_rfl) (by kernel_rfl) (fun _ _ _ h => h) (Or.inl ⟨by go_simp, ?hy1A⟩) hHeld ?rest1A
      case hy1A => intro w hSw; (try dsimp only at hSw); go_simp; all_goals with_reducible rfl
      try simp only [sA, gA]
      refine' wpAnyH_take (i := 2) (v := ?v2A) rfl (by kernel_rfl) (by kernel_rfl) (by kernel_rfl) (fun _ _ _ h => h) (Or.inl ⟨by go_simp, ?hy2A⟩) hHeld ?rest2A
      case hy2A => intro w hSw; (try dsimp only at hSw); go_simp; all_goals with_reducible rfl
      try simp only [sA, gA]
      refine' wpAnyH_take (i := 3) (v := ?v3A) rfl (by kernel_rfl) (by kernel_rfl) (by kernel_rfl) (fun _ _ _ h => h) (Or.inl ⟨by go_simp, ?hy3A⟩) hHeld ?rest3A
      case hy3A => intro w hSw; (try dsimp only at hSw); go_simp; all_goals with_reducible rfl
      try simp only [sA, gA]
      refine' wpAnyH_take (i := 4) (v := ?v4A) rfl (by kernel_rfl) (by kernel_rfl) (by kernel_rfl) (fun _ _ _ h => h) (Or.inl ⟨by go_simp, ?hy4A⟩) hHeld ?rest4A
      case hy4A => intro w hSw; (try dsimp only at hSw); go_simp; all_goals with_reducible rfl
      try simp only [sA, gA]
      refine' wpAnyH_take (i := 5) (v := ?v5A) rfl (by kernel_rfl) (by kernel_rfl) (by kernel_rfl) (fun _ _ _ h => h) (Or.inl ⟨by go_simp, ?hy5A⟩) hHeld ?rest5A
      case hy5A => intro w hSw; (try dsimp only at hSw); go_simp; all_goals with_reducible rfl
      try simp only [sA, gA]
      refine' wpAnyH_take (i := 6) (v := ?v6A) rfl (by kernel_rfl) (by kernel_rfl) (by kernel_rfl) (fun _ _ _ h => h) (Or.inl ⟨by go_simp, ?hy6A⟩) hHeld ?rest6A
      case hy6A => intro w hSw; (try dsimp only at hSw); go_simp; all_goals with_reducible rfl
      try simp only [sA, gA]
      refine' wpAnyH_take (i := 7) (v := ?v7A) rfl (by kernel_rfl) (by kernel_rfl) (by kernel_rfl) (fun _ _ _ h => h) (Or.inl ⟨by go_simp, ?hy7A⟩) hHeld ?rest7A
      case hy7A => intro w hSw; (try dsimp only at hSw); go_simp; all_goals with_reducible rfl
      try simp only [sA, gA]
      refine' wpAnyH_take (i := 8) (v := ?v8A) rfl (by kernel_rfl) (by kernel_rfl) (by kernel_rfl) (fun _ _ _ h => h) (Or.inl ⟨by go_simp, ?hy8A⟩) hHeld ?rest8A
      case hy8A => intro w hSw; (try dsimp only at hSw); go_simp; all_goals with_reducible rfl
      try simp only [sA, gA]
      refine' wpAnyH_take (i := 9) (v := ?v9A) rfl (by kernel_rfl) (by kernel_rfl) (by kernel_rfl) (fun _ _ _ h => h) (Or.inl ⟨by go_simp, ?hy9A⟩) hHeld ?rest9A
      case hy9A => intro w hSw; (try dsimp only at hSw); go_simp; all_goals with_reducible rfl
      try simp only [sA, gA]
      refine wpAnyH_ready (rs := [10]) (by kernel_rfl) (by simp) ?_
      refine AllReadyH.cons rfl (fun K hK => ?_) AllReadyH.nil
      go_simp
      go_at_call 39
      refine (HHX.out _ (HB2.out.drew)).mono ?_
      rintro e w3 ⟨rfl, hB⟩
      have HB23 := Lib.hid ((Below.refl W2.heap.size W2).drew.trans hB)
      clear hB
      go_wp2_with fail
      refine hK.out _ _ ?_ (fun hHeld2 => ?_)
      · exact HS.out _ HB23.out
      clear hK K hHeld
      have hHeld := hHeld2
      clear hHeld2
      try simp only [sA, gA]
      refine wpAnyH_ready (rs := [11]) (by kernel_rfl) (by simp) ?_
      refine AllReadyH.cons rfl (fun K hK => ?_) AllReadyH.nil
      go_simp
      go_at_call 43
      refine (HEQ.out w3).mono ?_
      rintro e w4 ⟨rfl, hB⟩
      have HB24 := Lib.hid (HB23.out.trans (hB.mono HB23.out.size))
      clear hB
      go_wp2_with fail
      refine hK.out _ _ ?_ (fun hHeld2 => ?_)
      · exact HS.out _ HB24.out
      clear hK K hHeld
      have hHeld := hHeld2
      clear hHeld2
      try simp only [sA, gA]
      refine' wpAnyH_take (i := 12) (v := ?v12A) rfl (by kernel_rfl) (by kernel_rfl) (by kernel_rfl) (fun _ _ _ h => h) (Or.inl ⟨by go_simp, ?hy12A⟩) hHeld ?rest12A
      case hy12A => intro w hSw; (try dsimp only at hSw); go_simp; all_goals with_reducible rfl
      try simp only [sA, gA]
      refine' wpAnyH_take (i := 13) (v := ?v13A) rfl (by kernel_rfl) (by kernel_rfl) (by kernel_rfl) (fun _ _ _ h => h) (Or.inl ⟨by go_simp, ?hy13A⟩) hHeld ?rest13A
      case hy13A => intro w hSw; (try dsimp only at hSw); go_simp; all_goals with_reducible rfl
      try simp only [sA, gA]
      refine wpAnyH_done (by kernel_rfl) ?_ _
      clear hHeld
      have HC4 := Lib.hid (HC.out.below HB24.out HC.out.lt)
      have hrg4 := range_of_blk HC4.out
      have HR4 := Lib.hid (HR2.out.below HB24.out HR2.out.lt)
      have HQ4 := Lib.hid (HQ2.out.below HB24.out HQ2.out.lt)
      have HB4 := Lib.hid (HB2.out.trans (HB24.out.mono HB2.out.size))
      go_wp2_with (first
        | (refine wpList_load_mid rfl 32 _ rfl w1.heap.size 0 rfl C _ hrg4 Tryd.underlying32 rfl (by rw [hCl.out]; exact infoSes) ?_)
        | (refine wpList_store_mid rfl 32 _ _ rfl (w.heap.size + 1) 0 C.toArray rfl rfl (there_of_blk (o := 0) HR4.out (by rw [List.size_toArray, hCl.out]; exact Nat.le_refl _)) (by rw [List.size_toArray, hCl.out]; exact infoSes) hone.out ?_)
        | (refine wpList_store_mid rfl 25 _ _ rfl (w.heap.size + 1 + 1) 0 #[.int .i64 id, .string n, .string T] rfl rfl (there_of_blk (o := 0) (setCells_blk HQ4.out (Nat.succ_ne_self _) C) (Nat.le_refl _)) infoWel (wel_one _ _ _ rfl rfl rfl) ?_)
        | fail)
      have hL1 := setCells_blk (g2 := w.heap.size + 1 + 1) (blk_setWhole HR4.out C (by rw [hCl.out]; rfl)) (by omega) [.int .i64 id, .string n, .string T]
      have hL2 := blk_setWhole (setCells_blk (g2 := w.heap.size + 1) HQ4.out (by omega) C) [.int .i64 id, .string n, .string T] rfl
      have hBL := below_setCells (g := w.heap.size + 1 + 1) (by omega) [.int .i64 id, .string n, .string T] 0 _ (below_setCells (g := w.heap.size + 1) (by omega) C 0 _ HB4.out)
      rw [hJ.out]
      exact bodyPost_ret (v := .tuple #[.agg C.toArray, .agg #[.int .i64 id, .string n, .string T], .int .i64 0]) (results_cct (P := Tryd.prog) (p := 8) (q := 9) (r := 10) rfl _ _ (w.heap.size + 1) (w.heap.size + 1 + 1) 32 25 C.toArray _ _ _ rfl hL1 Tryd.underlying32 rfl (by rw [List.size_toArray, hCl.out]; exact infoSes) rfl hL2 Tryd.underlying25 rfl infoWel) rfl ⟨by rw [hSVH.out]; rfl, hBL⟩
    · have q1 : decide (h.tag = G) = false := decide_eq_false hT
      rw [if_pos rfl, if_neg hT] at hJ
      rw [q1] at HEQ
      clear q1 hT
      go_enter Tryd.func13, Tryd.ntmps13
      go_upto_region 1 with fail
      refine world_is (P := fun W => Code.wp _ _ _ _ W) (fun Wa hWa => ?_)
      have HHl : Hid (Blk Wa w.heap.size 23 #[.int .i64 h.role, .string h.nonce, .string h.tag]) := by unfold Hid; rw [← hWa]; exact ((Blk.new w _ _).alloc _).alloc _
      have HR : Hid (Blk Wa (w.heap.size + 1) 32 zSes) := by unfold Hid; rw [← hWa]; exact Blk.alloc (blk_new2 w _ 32 zSes) _
      have HQ : Hid (Blk Wa (w.heap.size + 1 + 1) 25 zWel) := by unfold Hid; rw [← hWa]; exact blk_new3 _ _ _ _ _
      have HBa : Hid (Below w.heap.size w Wa) := by unfold Hid; rw [← hWa]; exact ((Below.refl w.heap.size w).alloc (Nat.le_refl _) _).alloc (by rw [World.size_alloc]; exact Nat.le_succ _) _ |>.alloc (by rw [World.size_alloc, World.size_alloc]; omega) _
      clear hWa
      have c0 := HHl.out.cell 0
      have c1 := HHl.out.cell 1
      have c2 := HHl.out.cell 2
      go_upto_region 2 with (first
        | (go_at_call 42; refine (HST.out _ HBa.out).mono ?_; rintro e w1 ⟨rfl, hB⟩; have HB1 := Lib.hid hB; clear hB)
        | (refine wpList_store_mid rfl 32 _ _ rfl w1.heap.size 0 C.toArray rfl rfl (there_of_blk (o := 0) (Blk.new w1 32 zSes) (by rw [List.size_toArray, hCl.out]; exact Nat.le_refl _)) (by rw [List.size_toArray, hCl.out]; exact infoSes) hone.out ?_)
        | fail)
      try simp only [sA]
      refine world_is (P := fun W => Code.wp _ _ _ _ W) (fun W2 hW2 => ?_)
      have HC : Hid (Blk W2 w1.heap.size 32 C.toArray) := by unfold Hid; rw [← hW2]; exact blk_setWhole (Blk.new w1 32 zSes) C (by rw [hCl.out]; rfl)
      have HB12 : Hid (Below w1.heap.size w1 W2) := by unfold Hid; rw [← hW2]; exact below_setCells (Nat.le_refl _) _ 0 _ ((Below.refl w1.heap.size w1).alloc (Nat.le_refl _) _)
      clear hW2
      have HBa2 := Lib.hid (HB1.out.trans (HB12.out.mono HB1.out.size))
      have HB2 := Lib.hid (HBa.out.trans (HBa2.out.mono HBa.out.size))
      have HR2 := Lib.hid (HR.out.below HBa2.out HR.out.lt)
      have HQ2 := Lib.hid (HQ.out.below HBa2.out HQ.out.lt)
      have HHl2 := Lib.hid (HHl.out.below HBa2.out HHl.out.lt)
      have HS : Hid (∀ wx, Below W2.heap.size W2 wx → wx.cell? ⟨w.heap.size, 0, none⟩ = some (.int .i64 h.role) ∧ wx.cell? ⟨w.heap.size, 1, none⟩ = some (.string h.nonce) ∧ wx.cell? ⟨w.heap.size, 2, none⟩ = some (.string h.tag)) := fun wx hB => by
        have hh := HHl2.out.below hB HHl2.out.lt
        exact ⟨hh.cell 0, hh.cell 1, hh.cell 2⟩
      clear c0 c1 c2 HHl HQ HR HB12 HBa2 HST HBa HB1
      refine wp_region_held_drew (S := (fun w' => w'.cell? ⟨w.heap.size, 0, none⟩ = some (.int .i64 h.role) ∧ w'.cell? ⟨w.heap.size, 1, none⟩ = some (.string h.nonce) ∧ w'.cell? ⟨w.heap.size, 2, none⟩ = some (.string h.tag))) (by kernel_rfl) (HS.out _ (Below.refl W2.heap.size W2).drew) (fun hHeld => ?_)
      refine' wpAnyH_take (i := 0) (v := ?v0B) rfl (by kernel_rfl) (by kernel_rfl) (by kernel_rfl) (fun _ _ _ h => h) (Or.inl ⟨by go_simp, ?hy0B⟩) hHeld ?rest0B
      case hy0B => intro w hSw; (try dsimp only at hSw); go_simp; all_goals with_reducible rfl
      try simp only [sA, gA]
      refine' wpAnyH_take (i := 1) (v := ?v1B) rfl (by kernel_rfl) (by kernel_rfl) (by kernel_rfl) (fun _ _ _ h => h) (Or.inl ⟨by go_simp, ?hy1B⟩) hHeld ?rest1B
      case hy1B => intro w hSw; (try dsimp only at hSw); go_simp; all_goals with_reducible rfl
      try simp only [sA, gA]
      refine' wpAnyH_take (i := 2) (v := ?v2B) rfl (by kernel_rfl) (by kernel_rfl) (by kernel_rfl) (fun _ _ _ h => h) (Or.inl ⟨by go_simp, ?hy2B⟩) hHeld ?rest2B
      case hy2B => intro w hSw; (try dsimp only at hSw); go_simp; all_goals with_reducible rfl
      try simp only [sA, gA]
      refine' wpAnyH_take (i := 3) (v := ?v3B) rfl (by kernel_rfl) (by kernel_rfl) (by kernel_rfl) (fun _ _ _ h => h) (Or.inl ⟨by go_simp, ?hy3B⟩) hHeld ?rest3B
      case hy3B => intro w hSw; (try dsimp only at hSw); go_simp; all_goals with_reducible rfl
      try simp only [sA, gA]
      refine' wpAnyH_take (i := 4) (v := ?v4B) rfl (by kernel_rfl) (by kernel_rfl) (by kernel_rfl) (fun _ _ _ h => h) (Or.inl ⟨by go_simp, ?hy4B⟩) hHeld ?rest4B
      case hy4B => intro w hSw; (try dsimp only at hSw); go_simp; all_goals with_reducible rfl
      try simp only [sA, gA]
      refine' wpAnyH_take (i := 5) (v := ?v5B) rfl (by kernel_rfl) (by kernel_rfl) (by kernel_rfl) (fun _ _ _ h => h) (Or.inl ⟨by go_simp, ?hy5B⟩) hHeld ?rest5B
      case hy5B => intro w hSw; (try dsimp only at hSw); go_simp; all_goals with_reducible rfl
      try simp only [sA, gA]
      refine' wpAnyH_take (i := 6) (v := ?v6B) rfl (by kernel_rfl) (by kernel_rfl) (by kernel_rfl) (fun _ _ _ h => h) (Or.inl ⟨by go_simp, ?hy6B⟩) hHeld ?rest6B
      case hy6B => intro w hSw; (try dsimp only at hSw); go_simp; all_goals with_reducible rfl
      try simp only [sA, gA]
      refine' wpAnyH_take (i := 7) (v := ?v7B) rfl (by kernel_rfl) (by kernel_rfl) (by kernel_rfl) (fun _ _ _ h => h) (Or.inl ⟨by go_simp, ?hy7B⟩) hHeld ?rest7B
      case hy7B => intro w hSw; (try dsimp only at hSw); go_simp; all_goals with_reducible rfl
      try simp only [sA, gA]
      refine' wpAnyH_take (i := 8) (v := ?v8B) rfl (by kernel_rfl) (by kernel_rfl) (by kernel_rfl) (fun _ _ _ h => h) (Or.inl ⟨by go_simp, ?hy8B⟩) hHeld ?rest8B
      case hy8B => intro w hSw; (try dsimp only at hSw); go_simp; all_goals with_reducible rfl
      try simp only [sA, gA]
      refine' wpAnyH_take (i := 9) (v := ?v9B) rfl (by kernel_rfl) (by kernel_rfl) (by kernel_rfl) (fun _ _ _ h => h) (Or.inl ⟨by go_simp, ?hy9B⟩) hHeld ?rest9B
      case hy9B => intro w hSw; (try dsimp only at hSw); go_simp; all_goals with_reducible rfl
      try simp only [sA, gA]
      refine wpAnyH_ready (rs := [10]) (by kernel_rfl) (by simp) ?_
      refine AllReadyH.cons rfl (fun K hK => ?_) AllReadyH.nil
      go_simp
      go_at_call 39
      refine (HHX.out _ (HB2.out.drew)).mono ?_
      rintro e w3 ⟨rfl, hB⟩
      have HB23 := Lib.hid ((Below.refl W2.heap.size W2).drew.trans hB)
      clear hB
      go_wp2_with fail
      refine hK.out _ _ ?_ (fun hHeld2 => ?_)
      · exact HS.out _ HB23.out
      clear hK K hHeld
      have hHeld := hHeld2
      clear hHeld2
      try simp only [sA, gA]
      refine wpAnyH_ready (rs := [11]) (by kernel_rfl) (by simp) ?_
      refine AllReadyH.cons rfl (fun K hK => ?_) AllReadyH.nil
      go_simp
      go_at_call 43
      refine (HEQ.out w3).mono ?_
      rintro e w4 ⟨rfl, hB⟩
      have HB24 := Lib.hid (HB23.out.trans (hB.mono HB23.out.size))
      clear hB
      go_wp2_with fail
      refine hK.out _ _ ?_ (fun hHeld2 => ?_)
      · exact HS.out _ HB24.out
      clear hK K hHeld
      have hHeld := hHeld2
      clear hHeld2
      try simp only [sA, gA]
      refine' wpAnyH_take (i := 12) (v := ?v12B) rfl (by kernel_rfl) (by kernel_rfl) (by kernel_rfl) (fun _ _ _ h => h) (Or.inl ⟨by go_simp, ?hy12B⟩) hHeld ?rest12B
      case hy12B => intro w hSw; (try dsimp only at hSw); go_simp; all_goals with_reducible rfl
      try simp only [sA, gA]
      refine' wpAnyH_take (i := 13) (v := ?v13B) rfl (by kernel_rfl) (by kernel_rfl) (by kernel_rfl) (fun _ _ _ h => h) (Or.inl ⟨by go_simp, ?hy13B⟩) hHeld ?rest13B
      case hy13B => intro w hSw; (try dsimp only at hSw); go_simp; all_goals with_reducible rfl
      try simp only [sA, gA]
      refine wpAnyH_done (by kernel_rfl) ?_ _
      clear hHeld
      have HR4 : Hid (Blk w4 (w.heap.size + 1) 32 #[.int .i64 0, .int .i64 0, .int .i64 0, .string ⟨#[]⟩, .int .i64 0, .int .i64 0, .int .u64 0]) := HR2.out.below HB24.out HR2.out.lt
      have HQ4 : Hid (Blk w4 (w.heap.size + 1 + 1) 25 #[.int .i64 0, .string ⟨#[]⟩, .string ⟨#[]⟩]) := HQ2.out.below HB24.out HQ2.out.lt
      have HB4 := Lib.hid (HB2.out.trans (HB24.out.mono HB2.out.size))
      have z0 := HR4.out.cell 0
      have f0 := HR4.out.frozen 0
      have z1 := HR4.out.cell 1
      have f1 := HR4.out.frozen 1
      have z2 := HR4.out.cell 2
      have f2 := HR4.out.frozen 2
      have z3 := HR4.out.cell 3
      have f3 := HR4.out.frozen 3
      have z4 := HR4.out.cell 4
      have f4 := HR4.out.frozen 4
      have z5 := HR4.out.cell 5
      have f5 := HR4.out.frozen 5
      have z6 := HR4.out.cell 6
      have f6 := HR4.out.frozen 6
      have y0 := HQ4.out.cell 0
      have g0 := HQ4.out.frozen 0
      have y1 := HQ4.out.cell 1
      have g1 := HQ4.out.frozen 1
      have y2 := HQ4.out.cell 2
      have g2 := HQ4.out.frozen 2
      go_wp2_with fail
      have hL1 := blk_other3 (g2 := w.heap.size + 1 + 1) (blk7_same HR4.out) (by omega) (.int .i64 0) (.string ⟨#[]⟩) (.string ⟨#[]⟩)
      have hL2 := blk3_same (blk_other7 (g2 := w.heap.size + 1) HQ4.out (by omega) (.int .i64 0) (.int .i64 0) (.int .i64 0) (.string ⟨#[]⟩) (.int .i64 0) (.int .i64 0) (.int .u64 0))
      have hBL := (Below.setCell (p := ⟨w.heap.size + 1 + 1, 2, none⟩) (Below.setCell (p := ⟨w.heap.size + 1 + 1, 1, none⟩) (Below.setCell (p := ⟨w.heap.size + 1 + 1, 0, none⟩) (Below.setCell (p := ⟨w.heap.size + 1, 6, none⟩) (Below.setCell (p := ⟨w.heap.size + 1, 5, none⟩) (Below.setCell (p := ⟨w.heap.size + 1, 4, none⟩) (Below.setCell (p := ⟨w.heap.size + 1, 3, none⟩) (Below.setCell (p := ⟨w.heap.size + 1, 2, none⟩) (Below.setCell (p := ⟨w.heap.size + 1, 1, none⟩) (Below.setCell (p := ⟨w.heap.size + 1, 0, none⟩) HB4.out (Nat.le_succ _) (.int .i64 0)) (Nat.le_succ _) (.int .i64 0)) (Nat.le_succ _) (.int .i64 0)) (Nat.le_succ _) (.string ⟨#[]⟩)) (Nat.le_succ _) (.int .i64 0)) (Nat.le_succ _) (.int .i64 0)) (Nat.le_succ _) (.int .u64 0)) (Nat.le_trans (Nat.le_succ _) (Nat.le_succ _)) (.int .i64 0)) (Nat.le_trans (Nat.le_succ _) (Nat.le_succ _)) (.string ⟨#[]⟩)) (Nat.le_trans (Nat.le_succ _) (Nat.le_succ _)) (.string ⟨#[]⟩))
      rw [hJ.out]
      exact bodyPost_ret (v := .tuple #[.agg zSes, .agg zWel, .int .i64 8]) (results_cct (P := Tryd.prog) (p := 8) (q := 9) (r := 10) rfl _ _ (w.heap.size + 1) (w.heap.size + 1 + 1) 32 25 zSes zWel _ _ rfl hL1 Tryd.underlying32 rfl infoSes rfl hL2 Tryd.underlying25 rfl infoWel) rfl ⟨rfl, hBL⟩
  · rw [if_neg (by decide)] at hJ
    clear HHE
    go_enter Tryd.func13, Tryd.ntmps13
    go_upto_region 1 with fail
    refine world_is (P := fun W => Code.wp _ _ _ _ W) (fun Wa hWa => ?_)
    have HHl : Hid (Blk Wa w.heap.size 23 #[.int .i64 h.role, .string h.nonce, .string h.tag]) := by unfold Hid; rw [← hWa]; exact ((Blk.new w _ _).alloc _).alloc _
    have HR : Hid (Blk Wa (w.heap.size + 1) 32 zSes) := by unfold Hid; rw [← hWa]; exact Blk.alloc (blk_new2 w _ 32 zSes) _
    have HQ : Hid (Blk Wa (w.heap.size + 1 + 1) 25 zWel) := by unfold Hid; rw [← hWa]; exact blk_new3 _ _ _ _ _
    have HBa : Hid (Below w.heap.size w Wa) := by unfold Hid; rw [← hWa]; exact ((Below.refl w.heap.size w).alloc (Nat.le_refl _) _).alloc (by rw [World.size_alloc]; exact Nat.le_succ _) _ |>.alloc (by rw [World.size_alloc, World.size_alloc]; omega) _
    clear hWa
    have c0 := HHl.out.cell 0
    have c1 := HHl.out.cell 1
    have c2 := HHl.out.cell 2
    go_upto_region 2 with (first
      | (go_at_call 42; refine (HST.out _ HBa.out).mono ?_; rintro e w1 ⟨rfl, hB⟩; have HB1 := Lib.hid hB; clear hB)
      | (refine wpList_store_mid rfl 32 _ _ rfl w1.heap.size 0 C.toArray rfl rfl (there_of_blk (o := 0) (Blk.new w1 32 zSes) (by rw [List.size_toArray, hCl.out]; exact Nat.le_refl _)) (by rw [List.size_toArray, hCl.out]; exact infoSes) hone.out ?_)
      | fail)
    try simp only [sA]
    refine world_is (P := fun W => Code.wp _ _ _ _ W) (fun W2 hW2 => ?_)
    have HC : Hid (Blk W2 w1.heap.size 32 C.toArray) := by unfold Hid; rw [← hW2]; exact blk_setWhole (Blk.new w1 32 zSes) C (by rw [hCl.out]; rfl)
    have HB12 : Hid (Below w1.heap.size w1 W2) := by unfold Hid; rw [← hW2]; exact below_setCells (Nat.le_refl _) _ 0 _ ((Below.refl w1.heap.size w1).alloc (Nat.le_refl _) _)
    clear hW2
    have HBa2 := Lib.hid (HB1.out.trans (HB12.out.mono HB1.out.size))
    have HB2 := Lib.hid (HBa.out.trans (HBa2.out.mono HBa.out.size))
    have HR2 := Lib.hid (HR.out.below HBa2.out HR.out.lt)
    have HQ2 := Lib.hid (HQ.out.below HBa2.out HQ.out.lt)
    have HHl2 := Lib.hid (HHl.out.below HBa2.out HHl.out.lt)
    have HS : Hid (∀ wx, Below W2.heap.size W2 wx → wx.cell? ⟨w.heap.size, 0, none⟩ = some (.int .i64 h.role) ∧ wx.cell? ⟨w.heap.size, 1, none⟩ = some (.string h.nonce) ∧ wx.cell? ⟨w.heap.size, 2, none⟩ = some (.string h.tag)) := fun wx hB => by
      have hh := HHl2.out.below hB HHl2.out.lt
      exact ⟨hh.cell 0, hh.cell 1, hh.cell 2⟩
    clear c0 c1 c2 HHl HQ HR HB12 HBa2 HST HBa HB1
    refine wp_region_held_drew (S := (fun w' => w'.cell? ⟨w.heap.size, 0, none⟩ = some (.int .i64 h.role) ∧ w'.cell? ⟨w.heap.size, 1, none⟩ = some (.string h.nonce) ∧ w'.cell? ⟨w.heap.size, 2, none⟩ = some (.string h.tag))) (by kernel_rfl) (HS.out _ (Below.refl W2.heap.size W2).drew) (fun hHeld => ?_)
    refine' wpAnyH_take (i := 0) (v := ?v0C) rfl (by kernel_rfl) (by kernel_rfl) (by kernel_rfl) (fun _ _ _ h => h) (Or.inl ⟨by go_simp, ?hy0C⟩) hHeld ?rest0C
    case hy0C => intro w hSw; (try dsimp only at hSw); go_simp; all_goals with_reducible rfl
    try simp only [sA, gA]
    refine' wpAnyH_take (i := 1) (v := ?v1C) rfl (by kernel_rfl) (by kernel_rfl) (by kernel_rfl) (fun _ _ _ h => h) (Or.inl ⟨by go_simp, ?hy1C⟩) hHeld ?rest1C
    case hy1C => intro w hSw; (try dsimp only at hSw); go_simp; all_goals with_reducible rfl
    try simp only [sA, gA]
    refine' wpAnyH_take (i := 2) (v := ?v2C) rfl (by kernel_rfl) (by kernel_rfl) (by kernel_rfl) (fun _ _ _ h => h) (Or.inl ⟨by go_simp, ?hy2C⟩) hHeld ?rest2C
    case hy2C => intro w hSw; (try dsimp only at hSw); go_simp; all_goals with_reducible rfl
    try simp only [sA, gA]
    refine wpAnyH_take (i := 3) (v := undef) rfl (by kernel_rfl) (by kernel_rfl) (by kernel_rfl) (fun _ _ _ h => h) (Or.inr ⟨by go_simp, rfl⟩) hHeld ?_
    try simp only [sA, gA]
    refine wpAnyH_take (i := 4) (v := undef) rfl (by kernel_rfl) (by kernel_rfl) (by kernel_rfl) (fun _ _ _ h => h) (Or.inr ⟨by go_simp, rfl⟩) hHeld ?_
    try simp only [sA, gA]
    refine wpAnyH_take (i := 5) (v := undef) rfl (by kernel_rfl) (by kernel_rfl) (by kernel_rfl) (fun _ _ _ h => h) (Or.inr ⟨by go_simp, rfl⟩) hHeld ?_
    try simp only [sA, gA]
    refine wpAnyH_take (i := 6) (v := undef) rfl (by kernel_rfl) (by kernel_rfl) (by kernel_rfl) (fun _ _ _ h => h) (Or.inr ⟨by go_simp, rfl⟩) hHeld ?_
    try simp only [sA, gA]
    refine wpAnyH_take (i := 7) (v := undef) rfl (by kernel_rfl) (by kernel_rfl) (by kernel_rfl) (fun _ _ _ h => h) (Or.inr ⟨by go_simp, rfl⟩) hHeld ?_
    try simp only [sA, gA]
    refine wpAnyH_take (i := 8) (v := undef) rfl (by kernel_rfl) (by kernel_rfl) (by kernel_rfl) (fun _ _ _ h => h) (Or.inr ⟨by go_simp, rfl⟩) hHeld ?_
    try simp only [sA, gA]
    refine wpAnyH_take (i := 9) (v := undef) rfl (by kernel_rfl) (by kernel_rfl) (by kernel_rfl) (fun _ _ _ h => h) (Or.inr ⟨by go_simp, rfl⟩) hHeld ?_
    try simp only [sA, gA]
    refine wpAnyH_take (i := 10) (v := undef) rfl (by kernel_rfl) (by kernel_rfl) (by kernel_rfl) (fun _ _ _ h => h) (Or.inr ⟨by go_simp, rfl⟩) hHeld ?_
    try simp only [sA, gA]
    refine wpAnyH_take (i := 11) (v := undef) rfl (by kernel_rfl) (by kernel_rfl) (by kernel_rfl) (fun _ _ _ h => h) (Or.inr ⟨by go_simp, rfl⟩) hHeld ?_
    try simp only [sA, gA]
    refine wpAnyH_take (i := 12) (v := undef) rfl (by kernel_rfl) (by kernel_rfl) (by kernel_rfl) (fun _ _ _ h => h) (Or.inr ⟨by go_simp, rfl⟩) hHeld ?_
    try simp only [sA, gA]
    refine' wpAnyH_take (i := 13) (v := ?v13C) rfl (by kernel_rfl) (by kernel_rfl) (by kernel_rfl) (fun _ _ _ h => h) (Or.inl ⟨by go_simp, ?hy13C⟩) hHeld ?rest13C
    case hy13C => intro w hSw; (try dsimp only at hSw); go_simp; all_goals with_reducible rfl
    try simp only [sA, gA]
    refine wpAnyH_done (by kernel_rfl) ?_ _
    clear hHeld
    have HR4 : Hid (Blk W2 (w.heap.size + 1) 32 #[.int .i64 0, .int .i64 0, .int .i64 0, .string ⟨#[]⟩, .int .i64 0, .int .i64 0, .int .u64 0]) := HR2
    have HQ4 : Hid (Blk W2 (w.heap.size + 1 + 1) 25 #[.int .i64 0, .string ⟨#[]⟩, .string ⟨#[]⟩]) := HQ2
    have z0 := HR4.out.cell 0
    have f0 := HR4.out.frozen 0
    have z1 := HR4.out.cell 1
    have f1 := HR4.out.frozen 1
    have z2 := HR4.out.cell 2
    have f2 := HR4.out.frozen 2
    have z3 := HR4.out.cell 3
    have f3 := HR4.out.frozen 3
    have z4 := HR4.out.cell 4
    have f4 := HR4.out.frozen 4
    have z5 := HR4.out.cell 5
    have f5 := HR4.out.frozen 5
    have z6 := HR4.out.cell 6
    have f6 := HR4.out.frozen 6
    have y0 := HQ4.out.cell 0
    have g0 := HQ4.out.frozen 0
    have y1 := HQ4.out.cell 1
    have g1 := HQ4.out.frozen 1
    have y2 := HQ4.out.cell 2
    have g2 := HQ4.out.frozen 2
    go_wp2_with fail
    have hL1 := blk_other3 (g2 := w.heap.size + 1 + 1) (blk7_same HR4.out) (by omega) (.int .i64 0) (.string ⟨#[]⟩) (.string ⟨#[]⟩)
    have hL2 := blk3_same (blk_other7 (g2 := w.heap.size + 1) HQ4.out (by omega) (.int .i64 0) (.int .i64 0) (.int .i64 0) (.string ⟨#[]⟩) (.int .i64 0) (.int .i64 0) (.int .u64 0))
    have hBL := (Below.setCell (p := ⟨w.heap.size + 1 + 1, 2, none⟩) (Below.setCell (p := ⟨w.heap.size + 1 + 1, 1, none⟩) (Below.setCell (p := ⟨w.heap.size + 1 + 1, 0, none⟩) (Below.setCell (p := ⟨w.heap.size + 1, 6, none⟩) (Below.setCell (p := ⟨w.heap.size + 1, 5, none⟩) (Below.setCell (p := ⟨w.heap.size + 1, 4, none⟩) (Below.setCell (p := ⟨w.heap.size + 1, 3, none⟩) (Below.setCell (p := ⟨w.heap.size + 1, 2, none⟩) (Below.setCell (p := ⟨w.heap.size + 1, 1, none⟩) (Below.setCell (p := ⟨w.heap.size + 1, 0, none⟩) HB2.out (Nat.le_succ _) (.int .i64 0)) (Nat.le_succ _) (.int .i64 0)) (Nat.le_succ _) (.int .i64 0)) (Nat.le_succ _) (.string ⟨#[]⟩)) (Nat.le_succ _) (.int .i64 0)) (Nat.le_succ _) (.int .i64 0)) (Nat.le_succ _) (.int .u64 0)) (Nat.le_trans (Nat.le_succ _) (Nat.le_succ _)) (.int .i64 0)) (Nat.le_trans (Nat.le_succ _) (Nat.le_succ _)) (.string ⟨#[]⟩)) (Nat.le_trans (Nat.le_succ _) (Nat.le_succ _)) (.string ⟨#[]⟩))
    rw [hJ.out]
    exact bodyPost_ret (v := .tuple #[.agg zSes, .agg zWel, .int .i64 1]) (results_cct (P := Tryd.prog) (p := 8) (q := 9) (r := 10) rfl _ _ (w.heap.size + 1) (w.heap.size + 1 + 1) 32 25 zSes zWel _ _ rfl hL1.drew Tryd.underlying32 rfl infoSes rfl hL2.drew Tryd.underlying25 rfl infoWel) rfl ⟨rfl, hBL.drew⟩
end Go.Proofs.YtbhagfdkipgggaaDoor
