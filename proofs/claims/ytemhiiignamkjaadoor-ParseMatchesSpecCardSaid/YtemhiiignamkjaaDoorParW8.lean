/-
  Layer 12 (parse): the least of the names that are wrong.
-/
import Derived.Test.YtemhiiignamkjaaDoorParW7
import Derived.Test.YtemhiiignamkjaaDoorNI
namespace Go.Proofs.YtemhiiignamkjaaDoor
open Go.RowKit LexP ParP
attribute [local go_sem] Oper.semAt_some

set_option maxRecDepth 100000 in
set_option maxHeartbeats 4000000 in
theorem lessC_any (S T : Tok) (w : World) (_hS : S.pos ≤ 1000000) (_hT : T.pos ≤ 1000000) : Calls Tryd.prog 25 #[tokAgg S, tokAgg T] w fun e w' => e = .returned (.int .i64 (Lib.compareInt (S.pos : Int) (T.pos : Int))) ∧ Below w.heap.size w w' := by
  unfold tokAgg
  have hc := Lib.hid (fun wx => Tryd.cmp_Compare_int (S.pos : Int) (T.pos : Int) wx)
  go_enter Tryd.func25, Tryd.ntmps25
  go_wp2_with (go_at_call 26; refine (hc.out _).mono ?_; rintro e w' ⟨rfl, rfl⟩)
  go_ret
  exact ⟨rfl, ((Below.refl _ w).alloc (Nat.le_refl _) _).alloc (by rw [World.size_alloc]; exact Nat.le_succ _) _⟩

theorem minTok_mem (m : Tok) : ∀ (r : List Tok) (l : List Tok), (∀ y ∈ r, y ∈ l) → m ∈ l → minTok m r ∈ l := by
  intro r
  induction r generalizing m with
  | nil => intro l _ h; exact h
  | cons x r ih =>
    intro l h hm
    unfold minTok
    refine ih _ l (fun y hy => h y (List.mem_cons_of_mem _ hy)) ?_
    split
    · exact h x List.mem_cons_self
    · exact hm
set_option maxRecDepth 100000 in
set_option maxHeartbeats 12800000 in
theorem minTok_any (w : World) (b o c : Nat) (t0 : Tok) (r : List Tok) (hl : r.length ≤ 100000) (hpos : ∀ t ∈ t0 :: r, t.pos ≤ 1000000) (hbl : b < w.heap.size)
    (hc : ∀ i T, (t0 :: r)[i]? = some T → w.cell? ⟨b, o + i * 4, none⟩ = some (.int .i64 T.kind) ∧ w.cell? ⟨b, o + i * 4 + 1, none⟩ = some (.string T.text) ∧ w.cell? ⟨b, o + i * 4 + 2, none⟩ = some (.int .i64 T.n) ∧ w.cell? ⟨b, o + i * 4 + 3, none⟩ = some (.int .i64 T.pos)) :
    Calls Tryd.prog 24 #[.slice (some ⟨b, o, none⟩) (r.length + 1) c, .func (.func 25) #[] #[]] w fun e w' => e = .returned (tokAgg (minTok t0 r)) ∧ Below w.heap.size w w' := by
  obtain ⟨L, hL⟩ : ∃ L, r.length + 1 = L := ⟨_, rfl⟩
  rw [hL]
  have hLH := Lib.hid hL
  have HC := Lib.hid hc
  have HP := Lib.hid hpos
  have hLb : L ≤ 100001 := by omega
  have d1 : decide ((L : Int) < 1) = false := decide_eq_false (by omega)
  have d0 : decide (L < 1) = false := decide_eq_false (by omega)
  obtain ⟨c0, c1, c2, c3⟩ := hc 0 t0 rfl
  simp only [Nat.zero_mul, Nat.add_zero] at c0 c1 c2 c3
  have q0 : (0 : Int) < (L : Int) := by omega
  clear hc hpos hl hL
  go_enter Tryd.func24, Tryd.ntmps24
  go_upto_region 4 with fail
  refine world_is (P := fun W => Code.wp _ _ _ _ W) (fun W1 hW1 => ?_)
  have hB1 : Below w.heap.size w W1 := by rw [← hW1]; exact ((Below.refl _ w).alloc (Nat.le_refl _) _).alloc (by rw [World.size_alloc]; exact Nat.le_succ _) _
  have RA1 : Hid (Blk W1 w.heap.size 47 #[.int .i64 0, .string ⟨#[]⟩, .int .i64 0, .int .i64 0]) := by unfold Hid; rw [← hW1]; exact (Blk.new _ _ _).alloc _
  have MB1 : Hid (Blk W1 (w.heap.size + 1) 47 #[.int .i64 t0.kind, .string t0.text, .int .i64 t0.n, .int .i64 t0.pos]) := by
    unfold Hid
    rw [← hW1]
    have h := Blk.new (w.alloc (.cells #[.int .i64 0, .string ⟨#[]⟩, .int .i64 0, .int .i64 0] 47)) 47 #[.int .i64 t0.kind, .string t0.text, .int .i64 t0.n, .int .i64 t0.pos]
    rw [World.size_alloc] at h
    exact h
  have L1 := Lib.hid hB1
  obtain ⟨ra, era⟩ : ∃ x, w.heap.size = x := ⟨_, rfl⟩
  obtain ⟨mb, emb⟩ : ∃ x, ra + 1 = x := ⟨_, rfl⟩
  rw [era] at RA1 MB1 ⊢
  rw [emb] at MB1 ⊢
  have hra : Hid (w.heap.size ≤ ra) := Nat.le_of_eq era
  have hmb : Hid (w.heap.size ≤ mb) := by unfold Hid; omega
  have hrm : ra ≠ mb := by omega
  have hbra : b ≠ ra := by omega
  have hbmb : b ≠ mb := by omega
  clear hW1 hB1 c0 c1 c2 c3 era emb
  go_wp2_with fail
  go_loopw [6] (fun v6 wr => ∃ (i : Nat) (m : Tok), v6 = .int .i64 i ∧ 1 ≤ i ∧ i ≤ L ∧ Hid (m = minTok t0 (r.take (i - 1))) ∧ Hid (Blk wr ra 47 #[.int .i64 0, .string ⟨#[]⟩, .int .i64 0, .int .i64 0]) ∧ Hid (Blk wr mb 47 #[.int .i64 m.kind, .string m.text, .int .i64 m.n, .int .i64 m.pos]) ∧ Hid (Below w.heap.size w wr)) (fun v6 _ => L - (intOf v6).toNat)
  case atStart => exact ⟨1, t0, rfl, Nat.le_refl _, by omega, rfl, RA1.out, MB1.out, L1.out⟩
  case round =>
    clear RA1 MB1 L1
    obtain ⟨i, m, rfl, hi1, hi, hm, RA, MB, LR⟩ := hrel
    by_cases hlt : i < L
    · have e1 : decide (i < L) = true := decide_eq_true hlt
      have e2 : decide ((i : Int) < (L : Int)) = true := decide_eq_true (by omega)
      obtain ⟨x, hx⟩ : ∃ x, (t0 :: r)[i]? = some x := ⟨_, List.getElem?_eq_getElem (by rw [List.length_cons, hLH.out]; exact hlt)⟩
      obtain ⟨c0, c1, c2, c3⟩ := HC.out i x hx
      have cel : ∀ (j : Nat) (u : Value), w.cell? ⟨b, j, none⟩ = some u → wr.cell? ⟨b, j, none⟩ = some u := fun j u h => (LR.out.cell (p := ⟨b, j, none⟩) hbl).trans h
      have x0 := cel _ _ c0
      have x1 := cel _ _ c1
      have x2 := cel _ _ c2
      have x3 := cel _ _ c3
      have m0 : wr.cell? ⟨mb, 0, none⟩ = some (.int .i64 m.kind) := MB.out.cell 0
      have m1 : wr.cell? ⟨mb, 1, none⟩ = some (.string m.text) := MB.out.cell 1
      have m2 : wr.cell? ⟨mb, 2, none⟩ = some (.int .i64 m.n) := MB.out.cell 2
      have m3 : wr.cell? ⟨mb, 3, none⟩ = some (.int .i64 m.pos) := MB.out.cell 3
      have hr1 : r[i - 1]? = some x := by
        obtain ⟨j, rfl⟩ : ∃ j, i = j + 1 := ⟨i - 1, by omega⟩
        simpa using hx
      have hmin : Hid (minTok t0 (r.take (i + 1 - 1)) = if x.pos < m.pos then x else m) := by
        unfold Hid
        rw [show i + 1 - 1 = i - 1 + 1 by omega, take_snoc hr1, minTok_snoc, ← hm.out]
      have hmm : m ∈ t0 :: r := by
        rw [hm.out]
        exact minTok_mem t0 _ _ (fun y hy => List.mem_cons_of_mem _ (List.mem_of_mem_take hy)) List.mem_cons_self
      have hxp := HP.out x (List.mem_of_getElem? hx)
      have hmp := HP.out m hmm
      have hLC := Lib.hid (fun W => lessC_any x m W hxp hmp)
      have q1 : (0 : Int) ≤ (i : Int) := by omega
      have q2 : (i : Int) < (L : Int) := by omega
      have hbw : b < wr.heap.size := Nat.lt_of_lt_of_le hbl LR.out.size
      have hmbl : mb < wr.heap.size := MB.out.lt
      have hltH := Lib.hid hlt
      have hi1H := Lib.hid hi1
      obtain ⟨z, hz⟩ : ∃ z, Lib.compareInt (x.pos : Int) (m.pos : Int) = z := ⟨_, rfl⟩
      rw [hz] at hLC
      have hzH := Lib.hid hz
      clear c0 c1 c2 c3 cel hx hr1 hmm hxp hmp hlt hi1 hz hm
      go_upto_region 7 with fail
      go_region_held3 (fun w' => w'.cell? ⟨b, o + i * 4, none⟩ = some (.int .i64 x.kind) ∧ w'.cell? ⟨b, o + i * 4 + 1, none⟩ = some (.string x.text) ∧ w'.cell? ⟨b, o + i * 4 + 2, none⟩ = some (.int .i64 x.n) ∧ w'.cell? ⟨b, o + i * 4 + 3, none⟩ = some (.int .i64 x.pos) ∧ w'.cell? ⟨mb, 0, none⟩ = some (.int .i64 m.kind) ∧ w'.cell? ⟨mb, 1, none⟩ = some (.string m.text) ∧ w'.cell? ⟨mb, 2, none⟩ = some (.int .i64 m.n) ∧ w'.cell? ⟨mb, 3, none⟩ = some (.int .i64 m.pos)) (go_keep)
        (first | (go_at_call 25; refine (hLC.out _).mono ?_; rintro e w1 ⟨rfl, hB1⟩; have s0 := (hB1.cell (p := ⟨b, o + i * 4, none⟩) hbw).trans x0; have s1 := (hB1.cell (p := ⟨b, o + i * 4 + 1, none⟩) hbw).trans x1; have s2 := (hB1.cell (p := ⟨b, o + i * 4 + 2, none⟩) hbw).trans x2; have s3 := (hB1.cell (p := ⟨b, o + i * 4 + 3, none⟩) hbw).trans x3; have s4 := (hB1.cell (p := ⟨mb, 0, none⟩) hmbl).trans m0; have s5 := (hB1.cell (p := ⟨mb, 1, none⟩) hmbl).trans m1; have s6 := (hB1.cell (p := ⟨mb, 2, none⟩) hmbl).trans m2; have s7 := (hB1.cell (p := ⟨mb, 3, none⟩) hmbl).trans m3))
      have hB1' : Below wr.heap.size wr w1 := ⟨hB1.os, hB1.tape, hB1.output, hB1.size, hB1.block⟩
      have RA2 := Lib.hid (RA.out.below hB1' RA.out.lt)
      have MB2 := Lib.hid (MB.out.below hB1' MB.out.lt)
      have L2 := Lib.hid (LR.out.trans (hB1'.mono LR.out.size))
      clear hB1 hB1' RA MB LR x0 x1 x2 x3 m0 m1 m2 m3 s4 s5 s6 s7
      by_cases hless : x.pos < m.pos
      · have hzm : z = -1 := by rw [← hzH.out, Lib.compareInt, if_pos (by omega)]
        have hmin2 : Hid (x = minTok t0 (r.take (i + 1 - 1))) := by unfold Hid; rw [hmin.out, if_pos hless]
        subst hzm
        have f0 := MB2.out.frozen 0
        have f1 := MB2.out.frozen 1
        have f2 := MB2.out.frozen 2
        have f3 := MB2.out.frozen 3
        have m0 : w1.cell? ⟨mb, 0, none⟩ = some (.int .i64 m.kind) := MB2.out.cell 0
        have m1 : w1.cell? ⟨mb, 1, none⟩ = some (.string m.text) := MB2.out.cell 1
        have m2 : w1.cell? ⟨mb, 2, none⟩ = some (.int .i64 m.n) := MB2.out.cell 2
        have m3 : w1.cell? ⟨mb, 3, none⟩ = some (.int .i64 m.pos) := MB2.out.cell 3
        clear hless hmin
        go_upto_region 6 with fail
        refine world_is (P := fun W => Code.wp _ _ _ _ W) (fun W3 hW3 => ?_)
        have MB3 : Hid (Blk W3 mb 47 #[.int .i64 x.kind, .string x.text, .int .i64 x.n, .int .i64 x.pos]) := by unfold Hid; rw [← hW3]; exact (((MB2.out.set_ 0 _).set_ 1 _).set_ 2 _).set_ 3 _
        have RA3 : Hid (Blk W3 ra 47 #[.int .i64 0, .string ⟨#[]⟩, .int .i64 0, .int .i64 0]) := by unfold Hid; rw [← hW3]; exact (((RA2.out.other (a := ⟨mb, 0, none⟩) hrm _).other (a := ⟨mb, 1, none⟩) hrm _).other (a := ⟨mb, 2, none⟩) hrm _).other (a := ⟨mb, 3, none⟩) hrm _
        have L3 : Hid (Below w.heap.size w W3) := by unfold Hid; rw [← hW3]; exact (((L2.out.setCell (p := ⟨mb, 0, none⟩) hmb.out _).setCell (p := ⟨mb, 1, none⟩) hmb.out _).setCell (p := ⟨mb, 2, none⟩) hmb.out _).setCell (p := ⟨mb, 3, none⟩) hmb.out _
        clear hW3 MB2 RA2 L2 f0 f1 f2 f3 m0 m1 m2 m3
        go_wp2_with fail
        go_roundw
        case rel => exact ⟨i + 1, x, by go_num, Nat.succ_le_succ (Nat.zero_le _), hltH.out, hmin2.out, RA3.out, MB3.out, L3.out⟩
        case measure => have := hltH.out; simp [intOf]; omega
      · have hzm : decide (z < 0) = false := by
          rw [← hzH.out, Lib.compareInt, if_neg (by omega)]
          split <;> rfl
        have hzn : ¬ z < 0 := of_decide_eq_false hzm
        have hmin2 : Hid (m = minTok t0 (r.take (i + 1 - 1))) := by unfold Hid; rw [hmin.out, if_neg hless]
        clear hless hmin
        go_wp2_with fail
        go_roundw
        case rel => exact ⟨i + 1, m, by go_num, Nat.succ_le_succ (Nat.zero_le _), hltH.out, hmin2.out, RA2.out, MB2.out, L2.out⟩
        case measure => have := hltH.out; simp [intOf]; omega
    · have e1 : decide (i < L) = false := decide_eq_false hlt
      have e2 : decide ((i : Int) < (L : Int)) = false := decide_eq_false (by omega)
      have hall : Hid (m = minTok t0 r) := by
        unfold Hid
        rw [hm.out, List.take_of_length_le (by have := hLH.out; omega)]
      have m0 : wr.cell? ⟨mb, 0, none⟩ = some (.int .i64 m.kind) := MB.out.cell 0
      have m1 : wr.cell? ⟨mb, 1, none⟩ = some (.string m.text) := MB.out.cell 1
      have m2 : wr.cell? ⟨mb, 2, none⟩ = some (.int .i64 m.n) := MB.out.cell 2
      have m3 : wr.cell? ⟨mb, 3, none⟩ = some (.int .i64 m.pos) := MB.out.cell 3
      have r0 : wr.cell? ⟨ra, 0, none⟩ = some (.int .i64 0) := RA.out.cell 0
      have r1 : wr.cell? ⟨ra, 1, none⟩ = some (.string ⟨#[]⟩) := RA.out.cell 1
      have r2 : wr.cell? ⟨ra, 2, none⟩ = some (.int .i64 0) := RA.out.cell 2
      have r3 : wr.cell? ⟨ra, 3, none⟩ = some (.int .i64 0) := RA.out.cell 3
      have g0 := RA.out.frozen 0
      have g1 := RA.out.frozen 1
      have g2 := RA.out.frozen 2
      have g3 := RA.out.frozen 3
      clear hlt hm
      go_wp2_with fail
      rw [← hall.out]
      exact bodyPost_ret (results_c (P := Tryd.prog) rfl _ _ ra 47 #[.int .i64 m.kind, .string m.text, .int .i64 m.n, .int .i64 m.pos] _ rfl ((((RA.out.set_ 0 _).set_ 1 _).set_ 2 _).set_ 3 _) Tryd.underlying47 rfl (by kernel_rfl)) rfl ⟨rfl, (((LR.out.setCell (p := ⟨ra, 0, none⟩) hra.out _).setCell (p := ⟨ra, 1, none⟩) hra.out _).setCell (p := ⟨ra, 2, none⟩) hra.out _).setCell (p := ⟨ra, 3, none⟩) hra.out _⟩
end Go.Proofs.YtemhiiignamkjaaDoor
