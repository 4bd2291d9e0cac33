import Derived.Test.YtpghocekofdpbaaGreatDoorQb03
import Derived.Test.YtpghocekofdpbaaGreatDoorQb31
import Derived.Test.YtpghocekofdpbaaGreatDoorQb00
import Derived.Deep.CutRange
import Derived.Deep.CutBlock
import Derived.Test.YtpghocekofdpbaaGreatDoorQb26
import Derived.Test.YtpghocekofdpbaaGreatDoorQb30
namespace Go.Proofs.YtpghocekofdpbaaGreatDoor
open Go.RowKit Go.Shelf
attribute [local go_sem] Oper.semAt_some
theorem arr16_index (w : World) (g j : Nat) (hj : j < 16) (z : Int) (hz : z = (j : Int)) : (Instr.indexAt 211 (.pointer (some ⟨g, 0, none⟩)) (.int .i64 z)).run Tryz.prog w = .ok (.pointer (some ⟨g, j, none⟩)) w := by
 subst hz
 have d1 : (0 : Int) <= (j : Int) := by omega
 have d2 : (j : Int) < 16 := by omega
 simp [go_sem, d1, d2]
theorem i64_is (n : Nat) (h : n < 9223372036854775808) : IntKind.i64.wrap (n : Int) = (n : Int) := by rw [IntKind.wrap_i64]; omega
theorem i64_sum (a b : Nat) (h : a + b < 9223372036854775808) : IntKind.i64.wrap ((a : Int) + (b : Int)) = (a : Int) + (b : Int) := i64_is (a + b) h
theorem infoA16 : (Tryz.prog.info? 211).map (·.size) = some 16 := by kernel_rfl
theorem infoA16' : ∃ a, Tryz.prog.info? 211 = some a /\ a.size = 16 := Option.map_eq_some_iff.1 infoA16
theorem u32V_one (l : List UInt32) : ∀ v ∈ l.map u32v, v.oneCell' = true := by
 intro v hv
 obtain ⟨x, _, rfl⟩ := List.mem_map.1 hv
 rfl
def z16 : Array Value := Array.replicate 16 (.int .u32 0)
structure RndAt (w wr : World) (S : List UInt32) : Prop where
 st : Blk wr w.heap.size 211 (S.map u32v).toArray
 res : ∃ cs, Blk wr (w.heap.size + 1) 211 cs /\ cs.size = 16
 bel : Below w.heap.size w wr
theorem RndAt.next {w wr w' : World} {S S' : List UInt32} (h : RndAt w wr S) (hB : Blk w' w.heap.size 211 (S'.map u32v).toArray) (hG : wr.grownBy w' (some w.heap.size)) : RndAt w w' S' := by
 obtain ⟨cs, h1, h2⟩ := h.res
 exact ⟨hB, ⟨cs, h1.grown hG (by simp), h2⟩, h.bel.grown hG h.bel.size (fun k e => by cases e; exact Nat.le_refl _)⟩
set_option maxRecDepth 100000 in
set_option maxHeartbeats 3200000 in
theorem rounds_any (w : World) (S : List UInt32) (hS : S.length = 16) :
  Calls Tryz.prog 173 #[.agg (S.map u32v).toArray] w fun e w' => e = .returned (.agg ((rndN S 10).map u32v).toArray) /\ Below w.heap.size w w' := by
 go_enter Tryz.func173, Tryz.ntmps173
 go_upto_region 1 with fail
 refine world_is (P := fun W => Code.wp _ _ _ _ W) (fun W1 hW1 => ?_)
 have H0 : Hid (RndAt w W1 (rndN S 0)) := by
  have b1 := (Below.refl _ w).alloc (Nat.le_refl _) (Obj.cells (S.map u32v).toArray 211)
  have hres : ∃ cs, Blk W1 (w.heap.size + 1) 211 cs /\ cs.size = 16 := by rw [<- hW1]; exact ⟨z16, blk_new2 _ _ _ _, rfl⟩
  refine ⟨?_, hres, ?_⟩
  ·rw [<- hW1]; exact (Blk.new w _ _).alloc _
  ·rw [<- hW1]; exact b1.alloc b1.size _
 have hSH := Lib.hid hS
 clear hW1 hS
 go_wp2_with fail
 go_loopw [5] (fun q wr => ∃ n : Nat, q = .int .i64 n /\ Hid (n <= 10) /\ Hid (RndAt w wr (rndN S n))) (fun q _ => 10 - (intOf q).toNat)
 case atStart => exact ⟨0, rfl, Nat.zero_le _, H0⟩
 case round =>
  clear H0
  obtain ⟨n, rfl, hn, hA⟩ := hrel
  by_cases hlt : n < 10
  ·have d1 : decide (n < 10) = true := decide_eq_true hlt
   have d2 : decide ((n : Int) < 10) = true := decide_eq_true (by omega)
   have hnH := Lib.hid hlt
   obtain ⟨T, hT⟩ : ∃ T, rndN S n = T := ⟨_, rfl⟩
   have hTl : Hid (T.length = 16) := by unfold Hid; rw [<- hT, rndN_len]; exact hSH.out
   have hTH := Lib.hid hT
   rw [hT] at hA
   clear hT
   go_wp2_with fail
   have hA0 : Hid (RndAt w wr (colN T 0)) := hA
   clear hA
   go_loopw [7] (fun q wr => ∃ i : Nat, q = .int .i64 i /\ Hid (i <= 4) /\ Hid (RndAt w wr (colN T i))) (fun q _ => 4 - (intOf q).toNat)
   case atStart => exact ⟨0, rfl, Nat.zero_le _, hA0⟩
   case round =>
    clear hA0
    obtain ⟨i, rfl, hi, hA⟩ := hrel
    by_cases h4 : i < 4
    ·have e1 : decide (i < 4) = true := decide_eq_true h4
     have e2 : decide ((i : Int) < 4) = true := decide_eq_true (by omega)
     have hi0 : Hid (i < 16) := by unfold Hid; omega
     have hi1 : Hid (4 + i < 16) := by unfold Hid; omega
     have hi2 : Hid (8 + i < 16) := by unfold Hid; omega
     have hi3 : Hid (12 + i < 16) := by unfold Hid; omega
     have x0 := fun wx => arr16_index wx w.heap.size i hi0.out (i : Int) rfl
     have x1 := fun wx => arr16_index wx w.heap.size (4 + i) hi1.out (4 + (i : Int)) (by omega)
     have x2 := fun wx => arr16_index wx w.heap.size (8 + i) hi2.out (8 + (i : Int)) (by omega)
     have x3 := fun wx => arr16_index wx w.heap.size (12 + i) hi3.out (12 + (i : Int)) (by omega)
     have y1 : IntKind.i64.wrap (4 + (i : Int)) = 4 + (i : Int) := i64_sum 4 i (by omega)
     have y2 : IntKind.i64.wrap (8 + (i : Int)) = 8 + (i : Int) := i64_sum 8 i (by omega)
     have y3 : IntKind.i64.wrap (12 + (i : Int)) = 12 + (i : Int) := i64_sum 12 i (by omega)
     have hSl : Hid ((colN T i).length = 16) := by unfold Hid; rw [colN_len]; exact hTl.out
     have hB := Lib.hid hA.out.st
     have h4H := Lib.hid h4
     go_wp2_with fail
     refine wp_region_held_drew (S := (fun _ => True)) (by kernel_rfl) trivial (fun hHeld => ?_)
     refine' tk 0 rfl hHeld ?_
     try simp only [sA, gA]
     refine' tk 1 rfl hHeld ?_
     try simp only [sA, gA]
     refine' tk 2 rfl hHeld ?_
     try simp only [sA, gA]
     refine' tk 3 rfl hHeld ?_
     try simp only [sA, gA]
     refine' tk 4 rfl hHeld ?_
     try simp only [sA, gA]
     refine' tk 5 rfl hHeld ?_
     try simp only [sA, gA]
     refine' tk 6 rfl hHeld ?_
     try simp only [sA, gA]
     refine' tk 7 rfl hHeld ?_
     try simp only [sA, gA]
     refine' tk 8 rfl hHeld ?_
     try simp only [sA, gA]
     refine' tk 9 rfl hHeld ?_
     try simp only [sA, gA]
     refine' tk 10 rfl hHeld ?_
     try simp only [sA, gA]
     refine td 11 rfl (fun K hK => ?_)
     go_simp
     go_at_call 188
     refine (quarter_any _ w.heap.size i (4 + i) (8 + i) (12 + i) 211 _ hSl.out hi0.out hi1.out hi2.out hi3.out (hB.out.drew)).mono ?_
     rintro e w9 ⟨rfl, hB9, hG9⟩
     have HB9 := Lib.hid hB9
     have HG9 := Lib.hid (grown_tr (grown_drew' wr _) hG9)
     clear hB9 hG9
     go_wp2_with fail
     refine hK.out _ _ ?_ (fun hHeld2 => ?_)
     ·exact trivial
     clear hK K hHeld
     have hHeld := hHeld2
     clear hHeld2
     try simp only [sA, gA]
     refine wpAnyH_done (by kernel_rfl) ?_ _
     clear hHeld
     go_wp2_with fail
     refine ⟨⟨i + 1, by go_num, h4H.out, hA.out.next HB9.out HG9.out⟩, ?_⟩
     have := h4H.out
     simp [intOf]
     omega
    ·have e1 : decide (i < 4) = false := decide_eq_false h4
     have e2 : decide ((i : Int) < 4) = false := decide_eq_false (by omega)
     have hi4 : i = 4 := Nat.le_antisymm hi (Nat.le_of_not_lt h4)
     have hA1 : Hid (RndAt w wr (diaN (colN T 4) 0)) := by rw [hi4] at hA; exact hA
     have hUl : Hid ((colN T 4).length = 16) := by unfold Hid; rw [colN_len]; exact hTl.out
     have hfin : Hid (rndN S (n + 1) = diaN (colN T 4) 4) := by unfold Hid; rw [<- hTH.out]; rfl
     generalize colN T 4 = U at *
     clear hi4 hA
     go_wp2_with fail
     go_loopw [23] (fun q wr => ∃ i : Nat, q = .int .i64 i /\ Hid (i <= 4) /\ Hid (RndAt w wr (diaN U i))) (fun q _ => 4 - (intOf q).toNat)
     case atStart => exact ⟨0, rfl, Nat.zero_le _, hA1⟩
     case round =>
      clear hA1 h4 e1 e2 hi
      obtain ⟨t, rfl, ht, hA⟩ := hrel
      by_cases h4 : t < 4
      ·have e1 : decide (t < 4) = true := decide_eq_true h4
       have e2 : decide ((t : Int) < 4) = true := decide_eq_true (by omega)
       obtain ⟨j1, hj1⟩ : ∃ j, (t + 1) % 4 = j := ⟨_, rfl⟩
       obtain ⟨j2, hj2⟩ : ∃ j, (t + 2) % 4 = j := ⟨_, rfl⟩
       obtain ⟨j3, hj3⟩ : ∃ j, (t + 3) % 4 = j := ⟨_, rfl⟩
       have hi0 : Hid (t < 16) := by unfold Hid; omega
       have hi1 : Hid (4 + j1 < 16) := by unfold Hid; omega
       have hi2 : Hid (8 + j2 < 16) := by unfold Hid; omega
       have hi3 : Hid (12 + j3 < 16) := by unfold Hid; omega
       have m1 : ((t : Int) + 1).tmod 4 = (j1 : Int) := by rw [Int.tmod_eq_emod_of_nonneg (by omega)]; omega
       have m2 : ((t : Int) + 2).tmod 4 = (j2 : Int) := by rw [Int.tmod_eq_emod_of_nonneg (by omega)]; omega
       have m3 : ((t : Int) + 3).tmod 4 = (j3 : Int) := by rw [Int.tmod_eq_emod_of_nonneg (by omega)]; omega
       have n1 : IntKind.i64.wrap ((t : Int) + 1) = (t : Int) + 1 := i64_sum t 1 (by omega)
       have n2 : IntKind.i64.wrap ((t : Int) + 2) = (t : Int) + 2 := i64_sum t 2 (by omega)
       have n3 : IntKind.i64.wrap ((t : Int) + 3) = (t : Int) + 3 := i64_sum t 3 (by omega)
       have y1 : IntKind.i64.wrap (4 + (j1 : Int)) = 4 + (j1 : Int) := i64_sum 4 j1 (by have := hi1.out; omega)
       have y2 : IntKind.i64.wrap (8 + (j2 : Int)) = 8 + (j2 : Int) := i64_sum 8 j2 (by have := hi2.out; omega)
       have y3 : IntKind.i64.wrap (12 + (j3 : Int)) = 12 + (j3 : Int) := i64_sum 12 j3 (by have := hi3.out; omega)
       have x0 := fun wx => arr16_index wx w.heap.size t hi0.out (t : Int) rfl
       have x1 := fun wx => arr16_index wx w.heap.size (4 + j1) hi1.out (4 + (j1 : Int)) (by omega)
       have x2 := fun wx => arr16_index wx w.heap.size (8 + j2) hi2.out (8 + (j2 : Int)) (by omega)
       have x3 := fun wx => arr16_index wx w.heap.size (12 + j3) hi3.out (12 + (j3 : Int)) (by omega)
       have hSl : Hid ((diaN U t).length = 16) := by unfold Hid; rw [diaN_len]; exact hUl.out
       have hsn : Hid (diaN U (t + 1) = qrt (diaN U t) t (4 + j1) (8 + j2) (12 + j3)) := by unfold Hid; rw [<- hj1, <- hj2, <- hj3]; rfl
       have hB := Lib.hid hA.out.st
       have h4H := Lib.hid h4
       clear hj1 hj2 hj3
       go_wp2_with fail
       refine wp_region_held_drew (S := (fun _ => True)) (by kernel_rfl) trivial (fun hHeld => ?_)
       refine' tk 0 rfl hHeld ?_
       try simp only [sA, gA]
       refine' tk 1 rfl hHeld ?_
       try simp only [sA, gA]
       refine' tk 2 rfl hHeld ?_
       try simp only [sA, gA]
       refine' tk 3 rfl hHeld ?_
       try simp only [sA, gA]
       refine' tk 4 rfl hHeld ?_
       try simp only [sA, gA]
       refine' tk 5 rfl hHeld ?_
       try simp only [sA, gA]
       refine' tk 6 rfl hHeld ?_
       try simp only [sA, gA]
       refine' tk 7 rfl hHeld ?_
       try simp only [sA, gA]
       refine' tk 8 rfl hHeld ?_
       try simp only [sA, gA]
       refine' tk 9 rfl hHeld ?_
       try simp only [sA, gA]
       refine' tk 10 rfl hHeld ?_
       try simp only [sA, gA]
       refine' tk 11 rfl hHeld ?_
       try simp only [sA, gA]
       refine' tk 12 rfl hHeld ?_
       try simp only [sA, gA]
       refine' tk 13 rfl hHeld ?_
       try simp only [sA, gA]
       refine' tk 14 rfl hHeld ?_
       try simp only [sA, gA]
       refine' tk 15 rfl hHeld ?_
       try simp only [sA, gA]
       refine' tk 16 rfl hHeld ?_
       try simp only [sA, gA]
       refine td 17 rfl (fun K hK => ?_)
       go_simp
       go_at_call 188
       refine (quarter_any _ w.heap.size t (4 + j1) (8 + j2) (12 + j3) 211 _ hSl.out hi0.out hi1.out hi2.out hi3.out (hB.out.drew)).mono ?_
       rintro e w9 ⟨rfl, hB9, hG9⟩
       have HB9 := Lib.hid hB9
       have HG9 := Lib.hid (grown_tr (grown_drew' wr _) hG9)
       clear hB9 hG9
       go_wp2_with fail
       refine hK.out _ _ ?_ (fun hHeld2 => ?_)
       ·exact trivial
       clear hK K hHeld
       have hHeld := hHeld2
       clear hHeld2
       try simp only [sA, gA]
       refine wpAnyH_done (by kernel_rfl) ?_ _
       clear hHeld
       go_wp2_with fail
       have hA9 := hA.out.next HB9.out HG9.out
       rw [<- hsn.out] at hA9
       refine ⟨⟨t + 1, by go_num, h4H.out, hA9⟩, ?_⟩
       have := h4H.out
       simp [intOf]
       omega
      ·have e1 : decide (t < 4) = false := decide_eq_false h4
       have e2 : decide ((t : Int) < 4) = false := decide_eq_false (by omega)
       have ht4 : t = 4 := Nat.le_antisymm ht (Nat.le_of_not_lt h4)
       have hA2 : Hid (RndAt w wr (rndN S (n + 1))) := by rw [ht4] at hA; unfold Hid; rw [hfin.out]; exact hA
       clear ht4 hA
       go_wp2_with fail
       refine ⟨⟨n + 1, by go_num, hnH.out, hA2⟩, ?_⟩
       have := hnH.out
       simp [intOf]
       omega
  ·have d1 : decide (n < 10) = false := decide_eq_false hlt
   have d2 : decide ((n : Int) < 10) = false := decide_eq_false (by omega)
   have hn10 : n = 10 := Nat.le_antisymm hn (Nat.le_of_not_lt hlt)
   have hA1 : Hid (RndAt w wr (rndN S 10)) := by rw [hn10] at hA; exact hA
   have hRl : Hid (((rndN S 10).map u32v).length = 16) := by unfold Hid; rw [List.length_map, rndN_len]; exact hSH.out
   have hRo : Hid (∀ v ∈ (rndN S 10).map u32v, v.oneCell' = true) := u32V_one _
   have hst := hA1.out.st
   obtain ⟨cs, hr, hrs⟩ := hA1.out.res
   have hrsH := Lib.hid hrs
   have hrH := Lib.hid hr
   have hbel := Lib.hid hA1.out.bel
   clear hn10 hA hA1 hr hrs
   generalize hD : (rndN S 10).map u32v = D at *
   have hDH := Lib.hid hD
   have hrg := range_of_blk hst
   clear hD hst
   go_wp2_with (first | (refine wpList_load_mid rfl 211 _ rfl w.heap.size 0 rfl D _ hrg Tryz.underlying211 rfl ?hI1 ?_) | (refine wpList_store_mid rfl 211 _ _ rfl (w.heap.size + 1) 0 D.toArray rfl rfl ?hI2 ?hI3 ?hI4 ?_) | fail)
   case hI1 => rw [hRl.out]; exact infoA16'
   case hI2 => rw [hRl.out]; exact there_of_blk (o := 0) hrH.out (by rw [hrsH.out]; exact Nat.le_refl _)
   case hI3 => rw [hRl.out]; exact infoA16'
   case hI4 => exact hRo.out
   have hL := blk_setWhole hrH.out D (by rw [hRl.out, hrsH.out])
   have hBL := below_setCells (g := w.heap.size + 1) (Nat.le_succ _) D 0 _ hbel.out
   rw [hDH.out]
   exact bodyPost_ret (results_c (P := Tryz.prog) rfl _ _ (w.heap.size + 1) 211 D.toArray _ rfl hL Tryz.underlying211 rfl (by rw [List.size_toArray, hRl.out]; exact infoA16)) rfl ⟨rfl, hBL⟩
end Go.Proofs.YtpghocekofdpbaaGreatDoor
namespace Go.Proofs.YtpghocekofdpbaaGreatDoor
open Go.RowKit Go.Shelf
attribute [local go_sem] Oper.semAt_some
structure StAt (w wr : World) (S : List UInt32) : Prop where
 st : Blk wr w.heap.size 211 (S.map u32v).toArray
 bel : Below w.heap.size w wr
theorem StAt.put {w wr : World} {S : List UInt32} (h : StAt w wr S) (a : Nat) (v : UInt32) : StAt w (wr.setCell ⟨w.heap.size, a, none⟩ (u32v v)) (S.set a v) :=
 ⟨blkW_set h.st a v, h.bel.setCell (p := ⟨w.heap.size, a, none⟩) (Nat.le_refl _) _⟩
theorem StAt.drew {w wr : World} {S : List UInt32} (h : StAt w wr S) : StAt w wr.drew S := ⟨h.st.drew, h.bel.drew⟩
set_option maxRecDepth 100000 in
set_option maxHeartbeats 1600000 in
theorem state_any (w : World) (key nonce : ByteArray) (c : UInt32) (hk : key.size = 32) (hn : nonce.size = 12) :
  Calls Tryz.prog 152 #[.string key, u32v c, .string nonce] w fun e w' => e = .returned (.tuple #[.agg ((stateL (bl key) c (bl nonce)).map u32v).toArray, .int .i64 0]) /\ Below w.heap.size w w' := by
 have hkH := Lib.hid hk
 have hnH := Lib.hid hn
 go_enter Tryz.func152, Tryz.ntmps152
 go_upto_region 1 with fail
 refine world_is (P := fun W => Code.wp _ _ _ _ W) (fun W1 hW1 => ?_)
 have hB1 : Hid (Blk W1 w.heap.size 211 z16) := by unfold Hid; rw [<- hW1]; exact Blk.new w _ _
 have hBel1 : Hid (Below w.heap.size w W1) := by unfold Hid; rw [<- hW1]; exact (Below.refl _ w).alloc (Nat.le_refl _) _
 clear hW1
 have hth := Lib.hid (there_of_blk (o := 0) (n := 16) hB1.out (by decide))
 have hone := Lib.hid (all_oneCell_toArray (u32V_one (state0 c)))
 go_upto_region 4 with (first | (refine wpList_store_mid rfl 211 _ _ rfl w.heap.size 0 ((state0 c).map u32v).toArray rfl rfl hth.out infoA16 hone.out ?_) | fail)
 try simp only [Act.put]
 refine world_is (P := fun W => Code.wp _ _ _ _ W) (fun W2 hW2 => ?_)
 have hS0 : Hid (StAt w W2 (fillK (bl key) (state0 c) 0)) := by
  refine ⟨?_, ?_⟩
  ·rw [<- hW2]; exact blk_setWhole hB1.out ((state0 c).map u32v) rfl
  ·rw [<- hW2]; exact below_setCells (Nat.le_refl _) _ 0 _ hBel1.out
 clear hW2 hB1 hBel1 hth hone
 go_wp2_with fail
 go_loopw [21] (fun q wr => ∃ t : Nat, q = .int .i64 t /\ Hid (t <= 8) /\ Hid (StAt w wr (fillK (bl key) (state0 c) t))) (fun q _ => 8 - (intOf q).toNat)
 case atStart => exact ⟨0, rfl, Nat.zero_le _, hS0⟩
 case round =>
  clear hS0
  obtain ⟨t, rfl, ht, hA⟩ := hrel
  by_cases hlt : t < 8
  ·have d1 : decide (t < 8) = true := decide_eq_true hlt
   have d2 : decide ((t : Int) < 8) = true := decide_eq_true (by omega)
   have x1 := fun wx => arr16_index wx w.heap.size (4 + t) (by omega) (4 + (t : Int)) (by omega)
   have e1 : bl (key.extract (4 * t) 32) = (bl key).drop (4 * t) := by
    have h := bl_extract key (4 * t) (by omega)
    rw [hk] at h
    exact h
   have HG : Hid (∀ wx, Calls Tryz.prog 172 #[.string (key.extract (4 * t) 32)] wx fun e w' => e = .returned (u32v (getW ((bl key).drop (4 * t)))) /\ w' = wx.drew) := fun wx => by
    have h := get_any wx (key.extract (4 * t) 32) (by rw [<- bl_len, e1, List.length_drop, bl_len, hk]; omega)
    rw [e1] at h
    exact h
   have hfr := hA.out.st.frozen (4 + t)
   have hce := blkW_cell hA.out.st (a := 4 + t) (by rw [fillK_len]; show 4 + t < 16; omega)
   have hN : Hid (StAt w (wr.setCell ⟨w.heap.size, 4 + t, none⟩ (u32v (getW ((bl key).drop (4 * t))))).drew (fillK (bl key) (state0 c) (t + 1))) := (hA.out.put (4 + t) _).drew
   have hltH := Lib.hid hlt
   clear e1
   go_wp2_with (first | (go_at_call 172; refine (HG.out _).mono ?_; rintro e w9 ⟨rfl, rfl⟩) | fail)
   refine ⟨⟨t + 1, by go_num, hltH.out, hN⟩, ?_⟩
   have := hltH.out
   simp [intOf]
   omega
  ·have d1 : decide (t < 8) = false := decide_eq_false hlt
   have d2 : decide ((t : Int) < 8) = false := decide_eq_false (by omega)
   have e8 : t = 8 := Nat.le_antisymm ht (Nat.le_of_not_lt hlt)
   have hS1 : Hid (StAt w wr (fillN (bl nonce) (fillK (bl key) (state0 c) 8) 0)) := by rw [e8] at hA; exact hA
   have hfin : Hid (stateL (bl key) c (bl nonce) = fillN (bl nonce) (fillK (bl key) (state0 c) 8) 3) := rfl
   have hUl : Hid ((fillK (bl key) (state0 c) 8).length = 16) := by unfold Hid; rw [fillK_len]; rfl
   generalize fillK (bl key) (state0 c) 8 = U at *
   clear e8 hA
   go_wp2_with fail
   go_loopw [33] (fun q wr => ∃ i : Nat, q = .int .i64 i /\ Hid (i <= 3) /\ Hid (StAt w wr (fillN (bl nonce) U i))) (fun q _ => 3 - (intOf q).toNat)
   case atStart => exact ⟨0, rfl, Nat.zero_le _, hS1⟩
   case round =>
    clear hS1 ht hlt d1 d2
    obtain ⟨i, rfl, hi, hA⟩ := hrel
    by_cases hlt : i < 3
    ·have d1 : decide (i < 3) = true := decide_eq_true hlt
     have d2 : decide ((i : Int) < 3) = true := decide_eq_true (by omega)
     have x1 := fun wx => arr16_index wx w.heap.size (13 + i) (by omega) (13 + (i : Int)) (by omega)
     have e1 : bl (nonce.extract (4 * i) 12) = (bl nonce).drop (4 * i) := by
      have h := bl_extract nonce (4 * i) (by omega)
      rw [hn] at h
      exact h
     have HG : Hid (∀ wx, Calls Tryz.prog 172 #[.string (nonce.extract (4 * i) 12)] wx fun e w' => e = .returned (u32v (getW ((bl nonce).drop (4 * i)))) /\ w' = wx.drew) := fun wx => by
      have h := get_any wx (nonce.extract (4 * i) 12) (by rw [<- bl_len, e1, List.length_drop, bl_len, hn]; omega)
      rw [e1] at h
      exact h
     have hfr := hA.out.st.frozen (13 + i)
     have hce := blkW_cell hA.out.st (a := 13 + i) (by rw [fillN_len, hUl.out]; omega)
     have hN : Hid (StAt w (wr.setCell ⟨w.heap.size, 13 + i, none⟩ (u32v (getW ((bl nonce).drop (4 * i))))).drew (fillN (bl nonce) U (i + 1))) := (hA.out.put (13 + i) _).drew
     have hltH := Lib.hid hlt
     clear e1
     go_wp2_with (first | (go_at_call 172; refine (HG.out _).mono ?_; rintro e w9 ⟨rfl, rfl⟩) | fail)
     refine ⟨⟨i + 1, by go_num, hltH.out, hN⟩, ?_⟩
     have := hltH.out
     simp [intOf]
     omega
    ·have d1 : decide (i < 3) = false := decide_eq_false hlt
     have d2 : decide ((i : Int) < 3) = false := decide_eq_false (by omega)
     have e3 : i = 3 := Nat.le_antisymm hi (Nat.le_of_not_lt hlt)
     have hA1 : Hid (StAt w wr (stateL (bl key) c (bl nonce))) := by rw [e3] at hA; unfold Hid; rw [hfin.out]; exact hA
     have hRl : Hid (((stateL (bl key) c (bl nonce)).map u32v).length = 16) := by unfold Hid; rw [List.length_map, stateL_len]
     have hRo : Hid (∀ v ∈ (stateL (bl key) c (bl nonce)).map u32v, v.oneCell' = true) := u32V_one _
     have hst := hA1.out.st
     have hbel := Lib.hid hA1.out.bel
     clear e3 hA hA1 hfin
     generalize hD : (stateL (bl key) c (bl nonce)).map u32v = D at *
     have hDH := Lib.hid hD
     have hrg := range_of_blk hst
     have hstH := Lib.hid hst
     clear hD hst
     go_wp2_with (first | (refine wpList_load_mid rfl 211 _ rfl w.heap.size 0 rfl D _ hrg Tryz.underlying211 rfl ?hI1 ?_) | (refine wpList_store_mid rfl 211 _ _ rfl w.heap.size 0 D.toArray rfl rfl ?hI2 ?hI3 ?hI4 ?_) | fail)
     case hI1 => rw [hRl.out]; exact infoA16'
     case hI2 => rw [hRl.out]; exact there_of_blk (o := 0) hstH.out (by rw [List.size_toArray, hRl.out]; exact Nat.le_refl _)
     case hI3 => rw [hRl.out]; exact infoA16'
     case hI4 => exact hRo.out
     have hL := blk_setWhole hstH.out D (by rw [List.size_toArray])
     have hBL := below_setCells (g := w.heap.size) (Nat.le_refl _) D 0 _ hbel.out
     rw [hDH.out]
     exact bodyPost_ret (v := .tuple #[.agg D.toArray, .int .i64 0]) (results_ct (p := 6) (q := 7) rfl _ _ w.heap.size 211 D.toArray _ rfl hL Tryz.underlying211 rfl (by rw [List.size_toArray, hRl.out]; exact infoA16)) rfl ⟨rfl, hBL⟩
end Go.Proofs.YtpghocekofdpbaaGreatDoor
namespace Go.Proofs.YtpghocekofdpbaaGreatDoor
open Go.RowKit Go.Shelf
attribute [local go_sem] Oper.semAt_some w_add w_add'
theorem make64b (w : World) : (Instr.makeSlice 66 (.int .i64 0) (.int .i64 64)).run Tryz.prog w = .ok (.slice (some ⟨w.heap.size, 0, none⟩) 0 64) (w.alloc (.cells (Array.replicate 64 (.int .u8 0)) 5)) := by kernel_rfl
theorem brow_made (w : World) : BRow (w.alloc (.cells (Array.replicate 64 (.int .u8 0)) 5)) w.heap.size (.slice (some ⟨w.heap.size, 0, none⟩) 0 64) [] :=
 World.ownsRow_made w (Array.replicate 64 (.int .u8 0)) 64 (Nat.le_refl _) (by decide) (by simp)
theorem idx16_run (w : World) (S : List UInt32) (t : Nat) (h : t < 16) (hS : S.length = 16) : (Instr.index 211 (.agg (S.map u32v).toArray) (.int .i64 t)).run Tryz.prog w = .ok (u32v (S.getD t 0)) w := by
 obtain ⟨i0, hi, hz0, hz1, hz2⟩ := info_parts infoU32
 have e : (S.map u32v).toArray[t]? = some (u32v (S.getD t 0)) := by
  rw [List.getElem?_toArray, List.getElem?_map, List.getD_eq_getElem?_getD, List.getElem?_eq_getElem (by omega : t < S.length)]
  rfl
 have hs : (0 : Int) <= (t : Int) /\ (t : Int) < ((16 : Nat) : Int) := ⟨by omega, by omega⟩
 generalize (S.map u32v).toArray = V at *
 unfold Instr.index
 simp [run_underlying Tryz.underlying211, go_sem, sizeOf, typeInfo, hi, hz1, h, part, e]
set_option maxRecDepth 100000 in
set_option maxHeartbeats 1600000 in
theorem block_any (w : World) (key nonce : ByteArray) (c : UInt32) (hk : key.size = 32) (hn : nonce.size = 12) :
  Calls Tryz.prog 153 #[.string key, u32v c, .string nonce] w fun e w' => e = .returned (.tuple #[.string (txt (blockL (bl key) c (bl nonce))), .int .i64 0]) /\ Below w.heap.size w w' := by
 have HST := Lib.hid (state_any w key nonce c hk hn)
 have hSl : Hid ((stateL (bl key) c (bl nonce)).length = 16) := stateL_len _ _ _
 have hfin : Hid (blockL (bl key) c (bl nonce) = outTo (stateL (bl key) c (bl nonce)) 16) := rfl
 clear hk hn
 generalize stateL (bl key) c (bl nonce) = S at *
 have hDl : Hid ((S.map u32v).length = 16) := by unfold Hid; rw [List.length_map]; exact hSl.out
 have hDo : Hid (∀ v ∈ S.map u32v, v.oneCell' = true) := u32V_one _
 have hone := Lib.hid (all_oneCell_toArray hDo.out)
 go_enter Tryz.func153, Tryz.ntmps153
 go_upto_region 2 with (first | (go_at_call 152; refine HST.out.mono ?_; rintro e w1 ⟨rfl, hB1⟩; have HB1 := Lib.hid hB1; clear hB1) | (refine wpList_store_mid rfl 211 _ _ rfl w1.heap.size 0 (S.map u32v).toArray rfl rfl (there_of_blk (o := 0) (Blk.new w1 211 z16) (by rw [List.size_toArray, hDl.out]; exact Nat.le_refl _)) (by rw [List.size_toArray, hDl.out]; exact infoA16) hone.out ?_) | fail)
 try simp only [Act.put, zq]
 refine world_is (P := fun W => Code.wp _ _ _ _ W) (fun W2 hW2 => ?_)
 have hst : Hid (Blk W2 w1.heap.size 211 (S.map u32v).toArray) := by unfold Hid; rw [<- hW2]; exact blk_setWhole (Blk.new w1 211 z16) (S.map u32v) (by rw [hDl.out]; rfl)
 have hbel : Hid (Below w.heap.size w W2) := by unfold Hid; rw [<- hW2]; exact below_setCells HB1.out.size _ 0 _ (HB1.out.alloc HB1.out.size _)
 have hge : Hid (w.heap.size <= w1.heap.size) := HB1.out.size
 obtain ⟨sb, hsb⟩ : ∃ sb, w1.heap.size = sb := ⟨_, rfl⟩
 rw [hsb] at hst hge ⊢
 clear hW2 hsb HB1 HST hone
 have hmk := make64b
 have hrg := range_of_blk hst.out
 have hrgA : ∀ o, (W2.alloc o).rangeAt sb 0 (S.map u32v) := fun o => by
  have h := range_of_blk (hst.out.alloc o)
  exact h
 have HR : Hid (Calls Tryz.prog 173 #[.agg (S.map u32v).toArray] (W2.alloc (.cells (Array.replicate 64 (.int .u8 0)) 5)) fun e w' => e = .returned (.agg ((rndN S 10).map u32v).toArray) /\ Below (W2.alloc (.cells (Array.replicate 64 (.int .u8 0)) 5)).heap.size (W2.alloc (.cells (Array.replicate 64 (.int .u8 0)) 5)) w') := rounds_any _ S hSl.out
 have hrow0 := Lib.hid (brow_made W2)
 have hst0 := Lib.hid (hst.out.alloc (.cells (Array.replicate 64 (.int .u8 0)) 5))
 have hbel0 := Lib.hid (hbel.out.alloc hbel.out.size (.cells (Array.replicate 64 (.int .u8 0)) 5))
 have hlts := Lib.hid hst.out.lt
 have hbs : Hid (w.heap.size <= W2.heap.size) := hbel.out.size
 have hbase0 : Hid (W2.heap.size <= (W2.alloc (.cells (Array.replicate 64 (.int .u8 0)) 5)).heap.size) := by unfold Hid; rw [World.size_alloc]; exact Nat.le_succ _
 clear hst hbel
 go_upto_block 1 with (first | (go_at_call 173; refine HR.out.mono ?_; rintro e w4 ⟨rfl, hB4⟩; have hrow4 := Lib.hid (hrow0.out.below hB4); have hst4 := Lib.hid (hst0.out.below hB4 hst0.out.lt); have hbel4 := Lib.hid (hbel0.out.trans (hB4.mono hbel0.out.size)); have hbase4 := Lib.hid (Nat.le_trans hbase0.out hB4.size); clear hB4) | (refine wpList_load_mid rfl 211 _ rfl sb 0 rfl (S.map u32v) _ (hrgA _) Tryz.underlying211 rfl (by rw [hDl.out]; exact infoA16) ?_) | fail)
 clear hrow0 hst0 hbel0 hbase0 HR hrg hrgA hmk
 go_loopw [10, 26] (fun p q wr => ∃ i : Nat, q = .int .i64 i /\ Hid (i <= 16) /\ Hid (BRow wr W2.heap.size p (outTo S i)) /\ Hid (Blk wr sb 211 (S.map u32v).toArray) /\ Hid (Below w.heap.size w wr) /\ Hid (W2.heap.size <= wr.heap.size)) (fun _ q _ => 16 - (intOf q).toNat)
 case atStart => exact ⟨0, rfl, Nat.zero_le _, hrow4, hst4, hbel4, hbase4⟩
 case round =>
  clear hrow4 hst4 hbel4 hbase4
  obtain ⟨i, rfl, hi, hR, hst, hbel, hbase⟩ := hrel
  by_cases hlt : i < 16
  ·have d1 : decide (i < 16) = true := decide_eq_true hlt
   have d2 : decide ((i : Int) < 16) = true := decide_eq_true (by omega)
   have x0 := fun wx => arr16_index wx sb i hlt (i : Int) rfl
   have x1 := fun wx => idx16_run wx (rndN S 10) i hlt (by rw [rndN_len]; exact hSl.out)
   have c0 := blkW_cell hst.out (a := i) (by rw [hSl.out]; exact hlt)
   obtain ⟨X, hX⟩ : ∃ X, (rndN S 10).getD i 0 = X := ⟨_, rfl⟩
   obtain ⟨Y, hY⟩ : ∃ Y, S.getD i 0 = Y := ⟨_, rfl⟩
   have hsn := outTo_succ S i
   rw [hX, hY] at hsn
   rw [hX] at x1
   rw [hY] at c0
   have HP := Lib.hid (put_any wr W2.heap.size u10 (outTo S i) (wadd X Y) hR.out hbase.out (by rw [outTo_len]; omega))
   have hsnH := Lib.hid hsn
   have hltH := Lib.hid hlt
   clear hX hY hsn
   go_wp2_with (first | (go_at_call 174; refine HP.out.mono ?_; rintro e w9 ⟨v9, rfl, hP9⟩; rw [<- hsnH.out] at hP9; have HP9 := Lib.hid hP9; clear hP9) | fail)
   refine ⟨⟨i + 1, by go_num, hltH.out, HP9.out.row, hst.out.below (HP9.out.bel _ wr (Nat.le_refl _) hbase.out (Below.refl _ _)) hlts.out, HP9.out.bel _ _ hbs.out hbase.out hbel.out, Nat.le_trans hbase.out HP9.out.grown.size⟩, ?_⟩
   have := hltH.out
   simp [intOf]
   omega
  ·have d1 : decide (i < 16) = false := decide_eq_false hlt
   have d2 : decide ((i : Int) < 16) = false := decide_eq_false (by omega)
   have e16 : i = 16 := Nat.le_antisymm hi (Nat.le_of_not_lt hlt)
   have hcv : (convert 66 9 u10).run Tryz.prog wr = .ok (.string (txt (blockL (bl key) c (bl nonce)))) wr := by
    have h := conv_row hR.out
    rw [e16] at h
    rw [hfin.out]
    exact h
   clear e16 hlt hfin
   generalize hT : txt (blockL (bl key) c (bl nonce)) = T at *
   have hTH := Lib.hid hT
   clear hT
   go_wp2_with fail
   go_ret2
   exact ⟨by rw [hTH.out]; rfl, hbel.out⟩
end Go.Proofs.YtpghocekofdpbaaGreatDoor
namespace Go.Proofs.YtpghocekofdpbaaGreatDoor
open Go.RowKit Go.Shelf
def XAt (w : World) (g : Nat) (L : List UInt8) : Prop := ∃ cs t fz, w.heap[g]? = some (.cells cs t fz) /\ L.length <= fz.1 /\ ∀ (j : Nat) (x : UInt8), L[j]? = some x -> cs[j]? = some (byteV x)
section
variable {w w' : World} {g : Nat} {L : List UInt8}
theorem XAt.lt (h : XAt w g L) : g < w.heap.size := by
 obtain ⟨cs, t, fz, h1, _⟩ := h
 exact (Array.getElem?_eq_some_iff.1 h1).1
theorem XAt.cell (h : XAt w g L) (j : Nat) (x : UInt8) (hx : L[j]? = some x) : w.cell? ⟨g, j, none⟩ = some (byteV x) := by
 obtain ⟨cs, t, fz, h1, _, h3⟩ := h
 have := h3 j x hx
 simp [World.cell?, h1, this]
theorem XAt.frozen (h : XAt w g L) (j : Nat) (hj : j < L.length) : w.frozen? ⟨g, j, none⟩ = false := by
 obtain ⟨cs, t, fz, h1, h2, _⟩ := h
 simp [World.frozen?, h1]
 omega
theorem XAt.bytesAt (h : XAt w g L) : BytesAt w g 0 L := ⟨h.lt, fun i x hx => by rw [Nat.zero_add]; exact h.cell i x hx⟩
theorem XAt.below (h : XAt w g L) (hB : Below w.heap.size w w') : XAt w' g L := by
 have hl := h.lt
 obtain ⟨cs, t, fz, h1, h2, h3⟩ := h
 exact ⟨cs, t, fz, (hB.block g hl).trans h1, h2, h3⟩
theorem XAt.set_ (h : XAt w g L) (j : Nat) (hj : j < L.length) (y : UInt8) : XAt (w.setCell ⟨g, j, none⟩ (byteV y)) g (L.set j y) := by
 obtain ⟨cs, t, fz, h1, h2, h3⟩ := h
 have hc : j < cs.size := by
  have := h3 j L[j] (List.getElem?_eq_getElem hj)
  exact (Array.getElem?_eq_some_iff.1 this).1
 refine ⟨cs.setIfInBounds j (byteV y), t, fz, ?_, by rw [List.length_set]; exact h2, fun i x hx => ?_⟩
 ·simp [World.setCell, Array.getElem?_modify, h1]
 ·rw [Array.getElem?_setIfInBounds]
  by_cases e : j = i
  ·subst e
   rw [List.getElem?_set_self hj] at hx
   cases hx
   rw [if_pos rfl, if_pos hc]
  ·rw [List.getElem?_set_ne e] at hx
   rw [if_neg e]
   exact h3 i x hx
end
theorem turn_list {L1 L2 : List UInt8} {i : Nat} (hl : L1.length = L2.length) (x : UInt8) (hx : L1[i]? = some x) : (L1.take i ++ L2.drop i).set i x = L1.take (i + 1) ++ L2.drop (i + 1) := by
 have hi : i < L1.length := (List.getElem?_eq_some_iff.1 hx).1
 have hl2 : (L1.take i).length = i := by rw [List.length_take]; omega
 rw [List.set_append_right _ _ (Nat.le_of_eq hl2), hl2, Nat.sub_self, List.drop_eq_getElem_cons (by omega : i < L2.length), List.set_cons_zero, List.take_add_one, hx, List.append_assoc]
 rfl
theorem turn_at {L1 L2 : List UInt8} {i : Nat} (hl : L1.length = L2.length) (x : UInt8) (hx : L2[i]? = some x) : (L1.take i ++ L2.drop i)[i]? = some x := by
 have hi : i < L2.length := (List.getElem?_eq_some_iff.1 hx).1
 rw [List.getElem?_append_right (by rw [List.length_take]; omega), List.length_take, Nat.min_eq_left (by omega), Nat.sub_self, List.getElem?_drop, Nat.add_zero, hx]
theorem conv_textX (w : World) (x : ByteArray) : ∃ c w', (convert 9 66 (.string x)).run Tryz.prog w = .ok (.slice (some ⟨w.heap.size, 0, none⟩) x.size c) w' /\ XAt w' w.heap.size (bl x) /\ Below w.heap.size w w' /\ w'.heap.size = w.heap.size + 1 := by
 refine ⟨_, _, Lib.run_convert_string_bytes (P := Tryz.prog) w 9 66 5 x Tryz.underlying9 Tryz.underlying66 Tryz.underlying5, ⟨_, _, _, Lib.bytesWorld_at_new w 5 x, ?_, ?_⟩, Lib.bytesWorld_below _ _ _, Lib.bytesWorld_size _ _ _⟩
 ·unfold Lib.bytesCells bl
  rw [Array.size_append, Array.size_map, Array.length_toList]
  omega
 ·intro j y hy
  have hj : j < x.data.size := by
   have := (List.getElem?_eq_some_iff.1 hy).1
   unfold bl at this
   rw [Array.length_toList] at this
   exact this
  unfold Lib.bytesCells
  rw [Array.getElem?_append_left (by rw [Array.size_map]; exact hj), Array.getElem?_map]
  unfold bl at hy
  rw [Array.getElem?_toList] at hy
  rw [hy]
  rfl
end Go.Proofs.YtpghocekofdpbaaGreatDoor
namespace Go.Proofs.YtpghocekofdpbaaGreatDoor
open Go.RowKit Go.Shelf
attribute [local go_sem] Oper.semAt_some w_add w_add' b_xor_fin
theorem xorL_at (k : List UInt8) (c : UInt32) (n t : List UInt8) (i : Nat) (x : UInt8) (h : t[i]? = some x) : (xorL k c n t)[i]? = some (bxor x ((blockL k (ctrN c (i / 64)) n).getD (i % 64) 0)) := by
 unfold xorL
 rw [List.getElem?_mapIdx, h]
 rfl
theorem bytes_index (w : World) (g n c t : Nat) (h : t < n) : (Instr.indexAt 66 (.slice (some ⟨g, 0, none⟩) n c) (.int .i64 t)).run Tryz.prog w = .ok (.pointer (some ⟨g, t, none⟩)) w := by
 have d1 : (0 : Int) <= (t : Int) := by omega
 have d2 : (t : Int) < (n : Int) := by omega
 simp [go_sem, d1, d2]
set_option maxRecDepth 100000 in
set_option maxHeartbeats 3200000 in
theorem xor_any (w : World) (key nonce text : ByteArray) (c : UInt32) (hk : key.size = 32) (hn : nonce.size = 12) (ht : text.size < 10000000000) :
  Calls Tryz.prog 122 #[.string key, u32v c, .string nonce, .string text] w fun e w' => e = .returned (.tuple #[.string (txt (xorL (bl key) c (bl nonce) (bl text))), .int .i64 0]) /\ Below w.heap.size w w' := by
 have HST := Lib.hid (state_any w key nonce c hk hn)
 have HBL : Hid (∀ wx C, Calls Tryz.prog 153 #[.string key, u32v C, .string nonce] wx fun e w' => e = .returned (.tuple #[.string (txt (blockL (bl key) C (bl nonce))), .int .i64 0]) /\ Below wx.heap.size wx w') := fun wx C => block_any wx key nonce C hk hn
 have hSl : Hid ((stateL (bl key) c (bl nonce)).length = 16) := stateL_len _ _ _
 clear hk hn
 generalize stateL (bl key) c (bl nonce) = S at *
 have hDl : Hid ((S.map u32v).length = 16) := by unfold Hid; rw [List.length_map]; exact hSl.out
 have hone := Lib.hid (all_oneCell_toArray (u32V_one S))
 go_enter Tryz.func122, Tryz.ntmps122
 go_upto_region 4 with (first | (go_at_call 152; refine HST.out.mono ?_; rintro e w1 ⟨rfl, hB1⟩; have HB1 := Lib.hid hB1; clear hB1) | (refine wpList_store_mid rfl 211 _ _ rfl w1.heap.size 0 (S.map u32v).toArray rfl rfl (there_of_blk (o := 0) (Blk.new w1 211 z16) (by rw [List.size_toArray, hDl.out]; exact Nat.le_refl _)) (by rw [List.size_toArray, hDl.out]; exact infoA16) hone.out ?_) | fail)
 try simp only [sA]
 refine world_is (P := fun W => Code.wp _ _ _ _ W) (fun W2 hW2 => ?_)
 have hbel : Hid (Below w.heap.size w W2) := by unfold Hid; rw [<- hW2]; exact below_setCells HB1.out.size _ 0 _ (HB1.out.alloc HB1.out.size _)
 clear hW2 HB1 HST hone hDl hSl
 obtain ⟨cc, W3, hcv, hX, hB3, hs3⟩ := conv_textX W2 text
 have hbel3 := Lib.hid (hbel.out.trans (hB3.mono hbel.out.size))
 have hXH : Hid (XAt W3 W2.heap.size ((xorL (bl key) c (bl nonce) (bl text)).take 0 ++ (bl text).drop 0)) := hX
 have hge : Hid (w.heap.size <= W2.heap.size) := hbel.out.size
 clear hX hB3 hs3
 obtain ⟨n, hn⟩ : ∃ n, text.size = n := ⟨_, rfl⟩
 rw [hn] at hcv ht
 have hnH := Lib.hid hn
 go_wp2_with fail
 obtain ⟨ob, hob⟩ : ∃ ob, W2.heap.size = ob := ⟨_, rfl⟩
 rw [hob] at hXH hge ⊢
 have hl2 : Hid ((bl text).length = n) := by unfold Hid; rw [bl_len]; exact hn
 have hl1 : Hid ((xorL (bl key) c (bl nonce) (bl text)).length = n) := by unfold Hid; rw [xorL_len]; exact hl2.out
 have hat : Hid (∀ i x, (bl text)[i]? = some x -> (xorL (bl key) c (bl nonce) (bl text))[i]? = some (bxor x ((blockL (bl key) (ctrN c (i / 64)) (bl nonce)).getD (i % 64) 0))) := fun i x h => xorL_at _ _ _ _ i x h
 generalize hL1 : xorL (bl key) c (bl nonce) (bl text) = L1 at *
 generalize hL2 : bl text = L2 at *
 have hL2H := Lib.hid hL2
 have hL1H := Lib.hid hL1
 clear hob hL1 hn hcv hL2
 go_loopw [1, 13, 29] (fun cv bv q wr => ∃ (t : Nat) (b : ByteArray), q = .int .i64 t /\ cv = u32v (ctrN c ((t + 63) / 64)) /\ bv = .string b /\ Hid (t <= n) /\ Hid (t % 64 ≠ 0 -> bl b = blockL (bl key) (ctrN c (t / 64)) (bl nonce)) /\ Hid (XAt wr ob (L1.take t ++ L2.drop t)) /\ Hid (Below w.heap.size w wr)) (fun _ _ q _ => n - (intOf q).toNat)
 case atStart => exact ⟨0, ⟨#[]⟩, rfl, rfl, rfl, Nat.zero_le _, fun h => absurd rfl h, hXH, hbel3⟩
 case round =>
  clear hXH hbel3
  obtain ⟨t, b, rfl, rfl, rfl, htn, hb, hX, hB⟩ := hrel
  by_cases hlt : t < n
  ·have d1 : decide (t < n) = true := decide_eq_true hlt
   have d2 : decide ((t : Int) < (n : Int)) = true := decide_eq_true (by omega)
   obtain ⟨r, hr⟩ : ∃ r, t % 64 = r := ⟨_, rfl⟩
   have m1 : (t : Int) % 64 = (r : Int) := by omega
   have hrl : r < 64 := by omega
   have hltH := Lib.hid hlt
   have hrH := Lib.hid hr
   obtain ⟨C, hC⟩ : ∃ C, ctrN c ((t + 63) / 64) = C := ⟨_, rfl⟩
   have hCH := Lib.hid hC
   rw [hC]
   clear hr hC
   go_upto_if 34 with fail
   go_cut [1, 13] from 32 to 43 (fun cv bv wx => ∃ (b2 : ByteArray), cv = u32v (ctrN c ((t + 1 + 63) / 64)) /\ bv = .string b2 /\ Hid (bl b2 = blockL (bl key) (ctrN c (t / 64)) (bl nonce)) /\ Hid (Below wr.heap.size wr wx))
   case first =>
    by_cases h0 : r = 0
    ·have e0 : ((r : Int) == 0) = true := by rw [h0]; rfl
     have hC2 : Hid (ctrN c (t / 64) = C) := by
      have h1 := hrH.out
      have h2 := hCH.out
      unfold Hid
      rw [<- h2]
      congr 1
      omega
     have hC3 : Hid (wadd C 1 = ctrN c ((t + 1 + 63) / 64)) := by
      have h1 := hrH.out
      unfold Hid
      rw [show (t + 1 + 63) / 64 = t / 64 + 1 by omega]
      show wadd C 1 = wadd (ctrN c (t / 64)) 1
      rw [hC2.out]
     have ha := w_add C 1
     have ha' := w_add' C 1
     go_wp2_with (first | (go_at_call 153; refine (HBL.out _ C).mono ?_; rintro e w9 ⟨rfl, hB9⟩; have HB9 := Lib.hid hB9; clear hB9) | fail)
     have hv : Value.int IntKind.u32 (((C.toNat : Int) + 1) % 4294967296) = u32v (ctrN c ((t + 1 + 63) / 64)) := by
      rw [<- hC3.out]
      exact congrArg _ (w_add' C 1)
     have hb2 : Hid (bl (txt (blockL (bl key) C (bl nonce))) = blockL (bl key) (ctrN c (t / 64)) (bl nonce)) := by unfold Hid; rw [hC2.out]; rfl
     go_meet
     exact ⟨_, hv, rfl, hb2, HB9⟩
    ·have e0 : ((r : Int) == 0) = false := by rw [beq_eq_false_iff_ne]; omega
     have hC3 : Hid (C = ctrN c ((t + 1 + 63) / 64)) := by
      have h1 := hrH.out
      have h2 := hCH.out
      unfold Hid
      rw [<- h2]
      congr 1
      omega
     have hb2 : Hid (bl b = blockL (bl key) (ctrN c (t / 64)) (bl nonce)) := hb.out (by rw [hrH.out]; exact h0)
     go_wp2_with fail
     have hv : u32v C = u32v (ctrN c ((t + 1 + 63) / 64)) := by rw [<- hC3.out]
     go_meet
     exact ⟨_, hv, rfl, hb2, (Below.refl wr.heap.size wr)⟩
   case rest =>
    obtain ⟨b2, rfl, rfl, hb2, hB2⟩ := hcut
    have hXc := Lib.hid (hX.out.below hB2.out)
    have hBc := Lib.hid (hB.out.trans (hB2.out.mono hB.out.size))
    clear hX hB hb hB2
    obtain ⟨y, hy⟩ : ∃ y, L2[t]? = some y := ⟨_, List.getElem?_eq_getElem (by rw [hl2.out]; exact hlt)⟩
    have cy : wc.cell? ⟨ob, t, none⟩ = some (.int .u8 (y.toNat : Int)) := hXc.out.cell t y (turn_at (by rw [hl1.out, hl2.out]) y hy)
    have fy := hXc.out.frozen t (by rw [List.length_append, List.length_take, List.length_drop, hl1.out, hl2.out]; omega)
    obtain ⟨z, hz⟩ : ∃ z, (bl b2)[r]? = some z := ⟨_, List.getElem?_eq_getElem (by rw [hb2.out, blockL_len]; exact hrl)⟩
    have hti := fun wx => text_index wx b2 r z hz
    have hbi := fun wx => bytes_index wx ob n cc t hlt
    have m2 : (t : Int).tmod 64 = (r : Int) := by rw [Int.tmod_eq_emod_of_nonneg (by omega)]; exact m1
    have hxz : L1[t]? = some (bxor y z) := by
     rw [hat.out t y hy, hrH.out, <- hb2.out, List.getD_eq_getElem?_getD, hz]
     rfl
    have hXn : Hid (XAt (wc.setCell ⟨ob, t, none⟩ (byteV (bxor y z))) ob (L1.take (t + 1) ++ L2.drop (t + 1))) := by
     have h := hXc.out.set_ t (by rw [List.length_append, List.length_take, List.length_drop, hl1.out, hl2.out]; omega) (bxor y z)
     rw [turn_list (by rw [hl1.out, hl2.out]) _ hxz] at h
     exact h
    have hBn := Lib.hid (hBc.out.setCell (p := ⟨ob, t, none⟩) hge.out (byteV (bxor y z)) |>.drew)
    have hbn : Hid ((t + 1) % 64 ≠ 0 -> bl b2 = blockL (bl key) (ctrN c ((t + 1) / 64)) (bl nonce)) := fun h => by
     rw [hb2.out]
     have := hrH.out
     rw [show (t + 1) / 64 = t / 64 by omega]
    have hxf := b_xor_fin y z
    clear hy hz hxz hXc hBc hb2
    go_wp2_with fail
    refine wp_region_last (S := (fun w' => w'.cell? ⟨ob, t, none⟩ = some (.int .u8 (y.toNat : Int)))) 10 (by kernel_rfl) cy (fun hHeld => ?_)
    refine' wkt (i := 0) (v := ?v0A) rfl (Or.inl ⟨by rfl, ?hy0A⟩) hHeld ?rest0A
    case hy0A => intro w hSw; (try dsimp only at hSw); go_simp; all_goals with_reducible rfl
    try simp only [sA, gA]
    refine' wkt (i := 1) (v := ?v1A) rfl (Or.inl ⟨by rfl, ?hy1A⟩) hHeld ?rest1A
    case hy1A => intro w hSw; (try dsimp only at hSw); go_simp; all_goals with_reducible rfl
    try simp only [sA, gA]
    refine' wkt (i := 2) (v := ?v2A) rfl (Or.inl ⟨by rfl, ?hy2A⟩) hHeld ?rest2A
    case hy2A => intro w hSw; (try dsimp only at hSw); go_simp; all_goals with_reducible rfl
    try simp only [sA, gA]
    refine' wkt (i := 3) (v := ?v3A) rfl (Or.inl ⟨by rfl, ?hy3A⟩) hHeld ?rest3A
    case hy3A => intro w hSw; (try dsimp only at hSw); go_simp; all_goals with_reducible rfl
    try simp only [sA, gA]
    refine' wkt (i := 4) (v := ?v4A) rfl (Or.inl ⟨by rfl, ?hy4A⟩) hHeld ?rest4A
    case hy4A => intro w hSw; (try dsimp only at hSw); go_simp; all_goals with_reducible rfl
    try simp only [sA, gA]
    refine' wkt (i := 5) (v := ?v5A) rfl (Or.inl ⟨by rfl, ?hy5A⟩) hHeld ?rest5A
    case hy5A => intro w hSw; (try dsimp only at hSw); go_simp; all_goals with_reducible rfl
    try simp only [sA, gA]
    refine' wkt (i := 6) (v := ?v6A) rfl (Or.inl ⟨by rfl, ?hy6A⟩) hHeld ?rest6A
    case hy6A => intro w hSw; (try dsimp only at hSw); go_simp; all_goals with_reducible rfl
    try simp only [sA, gA]
    refine' wkt (i := 7) (v := ?v7A) rfl (Or.inl ⟨by rfl, ?hy7A⟩) hHeld ?rest7A
    case hy7A => intro w hSw; (try dsimp only at hSw); go_simp; all_goals with_reducible rfl
    try simp only [sA, gA]
    refine' wkt (i := 8) (v := ?v8A) rfl (Or.inl ⟨by rfl, ?hy8A⟩) hHeld ?rest8A
    case hy8A => intro w hSw; (try dsimp only at hSw); go_simp; all_goals with_reducible rfl
    try simp only [sA, gA]
    refine' wkt (i := 9) (v := ?v9A) rfl (Or.inl ⟨by rfl, ?hy9A⟩) hHeld ?rest9A
    case hy9A => intro w hSw; (try dsimp only at hSw); go_simp; all_goals with_reducible rfl
    try simp only [sA, gA]
    refine wpAnyK_ready (rs := [10]) (by kernel_rfl) (by simp) ?_
    refine AllReadyK.last rfl (fun K hK => ?_)
    go_simp
    refine hK.out _ _ ?_
    clear hK K
    try simp only [sA, gA]
    refine wpAnyK_done (by kernel_rfl) ?_ _
    clear hHeld
    go_wp2_with fail
    refine ⟨⟨t + 1, b2, by go_num, rfl, rfl, hltH.out, hbn, hXn, hBn⟩, ?_⟩
    have := hltH.out
    simp [intOf]
    omega
  ·have d1 : decide (t < n) = false := decide_eq_false hlt
   have d2 : decide ((t : Int) < (n : Int)) = false := decide_eq_false (by omega)
   have en : t = n := Nat.le_antisymm htn (Nat.le_of_not_lt hlt)
   have hcv : (convert 66 9 (.slice (some ⟨ob, 0, none⟩) n cc)).run Tryz.prog wr = .ok (.string (txt L1)) wr := by
    have h := hX.out
    rw [en, List.take_of_length_le (Nat.le_of_eq hl1.out), List.drop_of_length_le (Nat.le_of_eq hl2.out), List.append_nil] at h
    have h2 := conv_bytes (c := cc) h.bytesAt
    rw [hl1.out] at h2
    exact h2
   clear en hlt hX
   go_wp2_with fail
   go_ret2
   exact ⟨by rw [hL2H.out, hL1H.out]; rfl, hB.out⟩
end Go.Proofs.YtpghocekofdpbaaGreatDoor
namespace Go.Proofs.YtpghocekofdpbaaGreatDoor
def encK (k : List UInt8) : List UInt8 := macL k [101, 110, 99]
def macK (k : List UInt8) : List UInt8 := macL k [109, 97, 99]
def nonceL (m ad t : List UInt8) : List UInt8 := (macL m ([110, 111, 110, 99, 101] ++ bytesL ad ++ t)).take 12
def tagL (m n ad c : List UInt8) : List UInt8 := (macL m ([116, 97, 103] ++ n ++ bytesL ad ++ c)).take 16
theorem nonceL_len (m ad t : List UInt8) : (nonceL m ad t).length = 12 := by unfold nonceL; rw [List.length_take, macL_len]; rfl
theorem tagL_len (m n ad c : List UInt8) : (tagL m n ad c).length = 16 := by unfold tagL; rw [List.length_take, macL_len]; rfl
def sealL (k ad t : List UInt8) : List UInt8 :=
 let n := nonceL (macK k) ad t
 let c := xorL (encK k) 1 n t
 n ++ c ++ tagL (macK k) n ad c
theorem sealL_len (k ad t : List UInt8) : (sealL k ad t).length = t.length + 28 := by
 unfold sealL
 simp only [List.length_append, nonceL_len, tagL_len, xorL_len]
 omega
def openL (k ad b : List UInt8) : List UInt8 × Nat :=
 if b.length < 28 then ([], 5) else
 let n := b.take 12
 let c := (b.drop 12).take (b.length - 28)
 if tagL (macK k) n ad c = b.drop (b.length - 16) then
  let t := xorL (encK k) 1 n c
  if nonceL (macK k) ad t = n then (t, 0) else ([], 8)
 else ([], 8)
theorem open_seal (k ad t : List UInt8) : openL k ad (sealL k ad t) = (t, 0) := by
 unfold openL
 have hl := sealL_len k ad t
 rw [if_neg (by omega)]
 have hn := nonceL_len (macK k) ad t
 have e1 : (sealL k ad t).take 12 = nonceL (macK k) ad t := by
  unfold sealL
  simp only [List.append_assoc]
  rw [List.take_append_of_le_length (by omega), List.take_of_length_le (by omega)]
 have e2 : (sealL k ad t).drop 12 = xorL (encK k) 1 (nonceL (macK k) ad t) t ++ tagL (macK k) (nonceL (macK k) ad t) ad (xorL (encK k) 1 (nonceL (macK k) ad t) t) := by
  unfold sealL
  simp only [List.append_assoc]
  rw [List.drop_append_of_le_length (by omega), List.drop_of_length_le (by omega), List.nil_append]
 have e3 : ((sealL k ad t).drop 12).take ((sealL k ad t).length - 28) = xorL (encK k) 1 (nonceL (macK k) ad t) t := by
  rw [e2, hl, Nat.add_sub_cancel, List.take_append_of_le_length (by rw [xorL_len]; exact Nat.le_refl _), List.take_of_length_le (by rw [xorL_len]; exact Nat.le_refl _)]
 have e4 : (sealL k ad t).drop ((sealL k ad t).length - 16) = tagL (macK k) (nonceL (macK k) ad t) ad (xorL (encK k) 1 (nonceL (macK k) ad t) t) := by
  have h : (sealL k ad t).length - 16 = 12 + t.length := by omega
  rw [h, <- List.drop_drop, e2, List.drop_append_of_le_length (by rw [xorL_len]; exact Nat.le_refl _), List.drop_of_length_le (by rw [xorL_len]; exact Nat.le_refl _), List.nil_append]
 simp only [e1, e3, e4, if_true, xorL_twice]
end Go.Proofs.YtpghocekofdpbaaGreatDoor
