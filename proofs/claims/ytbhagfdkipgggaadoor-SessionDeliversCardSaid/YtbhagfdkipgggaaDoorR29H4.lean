/-
  Layer 29 (session), the specification: Send and Receive.
-/
import Derived.Test.YtbhagfdkipgggaaDoorMB
import Derived.Test.YtbhagfdkipgggaaDoorR04W2
import Derived.Test.YtbhagfdkipgggaaDoorMQ
import Derived.Test.YtbhagfdkipgggaaDoorML
namespace Go.Proofs.YtbhagfdkipgggaaDoor
open Go.RowKit Go.Shelf
attribute [local go_sem] Oper.semAt_some
def sldC (s : Ses) (m : Msg) (t : ByteArray) (e : Nat) : List Value := sesC s ++ msgC m ++ [.string t, .int .i64 (e : Int)]
def sldV (s : Ses) (m : Msg) (t : ByteArray) (e : Nat) : Value := .agg (sldC s m t e).toArray
theorem sldC_one (s : Ses) (m : Msg) (t : ByteArray) (e : Nat) : ∀ v ∈ sldC s m t e, v.oneCell' = true := by
  intro v hv
  unfold sldC sesC msgC at hv
  simp only [List.cons_append, List.nil_append, List.mem_cons, List.not_mem_nil, or_false] at hv
  rcases hv with rfl | rfl | rfl | rfl | rfl | rfl | rfl | rfl | rfl | rfl | rfl | rfl <;> rfl
theorem infoSld : (Tryd.prog.info? 46).map (·.size) = some 12 := by kernel_rfl
def zSld : Array Value := #[.int .i64 0, .int .i64 0, .int .i64 0, .string ⟨#[]⟩, .int .i64 0, .int .i64 0, .int .u64 0, .int .i64 0, .int .i64 0, .string ⟨#[]⟩, .string ⟨#[]⟩, .int .i64 0]
theorem rctx_any (w : World) (a b c : Int) (ha : 0 ≤ a ∧ a < 9223372036854775808) (hb : 0 ≤ b ∧ b < 9223372036854775808) (hc : 0 ≤ c ∧ c < 9223372036854775808) :
    Calls Tryd.prog 50 #[.int .i64 a, .int .i64 b, .int .i64 c] w fun e w' => e = .returned (.string (ctxP a b c)) ∧ Below w.heap.size w w' := by
  have h := rcontext_any w a.toNat b.toNat c.toNat (by omega) (by omega) (by omega)
  rw [Int.toNat_of_nonneg ha.1, Int.toNat_of_nonneg hb.1, Int.toNat_of_nonneg hc.1] at h
  exact h
set_option maxRecDepth 100000 in
set_option maxHeartbeats 3200000 in
theorem rsend_any (w : World) (s : Ses) (t : ByteArray) (hs : s.Fits) (ht : t.size ≤ 1000000) (hK : KAt w 0) :
    Calls Tryd.prog 18 #[sesV s, .string t] w fun e w' => e = .returned (sldV (sendP s t).1 (sendP s t).2.1 noT (sendP s t).2.2) ∧ Below w.heap.size w w' := by
  have HV : Hid (∀ wx, Below w.heap.size w wx → Calls Tryd.prog 22 #[sesV s] wx fun e w' => e = .returned (.bool (validP s)) ∧ Below wx.heap.size wx w') := fun wx _ => rvalid_any wx s hs
  by_cases hv : validP s = true
  · obtain ⟨p1, p2, _, _, p5, p6, p7, p8, _, _⟩ := valid_parts hv
    rw [hv] at HV
    by_cases hsp : s.sent = 4294967296
    · have hJ : sendP s t = (noSes, noMsg, 22) := by unfold sendP; rw [if_pos hv, if_pos hsp]
      rw [hJ]
      clear hJ hK hs
      have x3 : (s.sent == 4294967296) = true := by rw [hsp]; rfl
      clear hsp hv p1 p2 p5 p6 p7 p8
      obtain ⟨id, role, side, key, sent, top, seen⟩ := s
      unfold sesV sesC at HV
      unfold sesV sesC sldV sldC
      dsimp only at *
      go_enter Tryd.func18, Tryd.ntmps18
      go_upto_region 1 with fail
      refine world_is (P := fun W => Code.wp _ _ _ _ W) (fun W1 hW1 => ?_)
      have HS1 : Hid (Blk W1 w.heap.size 32 #[.int .i64 id, .int .i64 role, .int .i64 side, .string key, .int .i64 sent, .int .i64 top, .int .u64 (seen : Int)]) := by unfold Hid; rw [← hW1]; exact (Blk.new w _ _).alloc _
      have HR1 : Hid (Blk W1 (w.heap.size + 1) 46 zSld) := by unfold Hid; rw [← hW1]; exact blk_new2 _ _ _ _
      have HB1 : Hid (Below w.heap.size w W1) := by unfold Hid; rw [← hW1]; exact ((Below.refl w.heap.size w).alloc (Nat.le_refl _) _).alloc (by rw [World.size_alloc]; exact Nat.le_succ _) _
      clear hW1
      have c0 := HS1.out.cell 0
      have c1 := HS1.out.cell 1
      have c2 := HS1.out.cell 2
      have c3 := HS1.out.cell 3
      have c4 := HS1.out.cell 4
      have c5 := HS1.out.cell 5
      have c6 := HS1.out.cell 6
      go_wp2_with (first | (go_at_call 22; refine (HV.out _ HB1.out).mono ?_; rintro e w2 ⟨rfl, hB⟩; have HB2 := Lib.hid (HB1.out.trans (hB.mono HB1.out.size)); have HS2 := Lib.hid (HS1.out.below hB HS1.out.lt); have HR2 := Lib.hid (HR1.out.below hB HR1.out.lt); have q4 := HS2.out.cell 4; clear hB) | (refine wpList_store_mid rfl 46 _ _ rfl (w.heap.size + 1) 0 #[.int .i64 0, .int .i64 0, .int .i64 0, .string ⟨#[]⟩, .int .i64 0, .int .i64 0, .int .u64 0, .int .i64 0, .int .i64 0, .string ⟨#[]⟩, .string ⟨#[]⟩, .int .i64 22] rfl rfl (there_of_blk (o := 0) HR2.out (Nat.le_refl _)) infoSld (all_oneCell_toArray (sldC_one noSes noMsg noT 22)) ?_) | fail)
      have hL := blk_setWhole HR2.out (#[.int .i64 0, .int .i64 0, .int .i64 0, .string ⟨#[]⟩, .int .i64 0, .int .i64 0, .int .u64 0, .int .i64 0, .int .i64 0, .string ⟨#[]⟩, .string ⟨#[]⟩, .int .i64 22] : Array Value).toList rfl
      have hBL := below_setCells (g := (w.heap.size + 1)) (Nat.le_succ _) (#[.int .i64 0, .int .i64 0, .int .i64 0, .string ⟨#[]⟩, .int .i64 0, .int .i64 0, .int .u64 0, .int .i64 0, .int .i64 0, .string ⟨#[]⟩, .string ⟨#[]⟩, .int .i64 22] : Array Value).toList 0 _ HB2.out
      exact bodyPost_ret (v := .agg #[.int .i64 0, .int .i64 0, .int .i64 0, .string ⟨#[]⟩, .int .i64 0, .int .i64 0, .int .u64 0, .int .i64 0, .int .i64 0, .string ⟨#[]⟩, .string ⟨#[]⟩, .int .i64 22]) (results_c (P := Tryd.prog) rfl _ _ (w.heap.size + 1) 46 #[.int .i64 0, .int .i64 0, .int .i64 0, .string ⟨#[]⟩, .int .i64 0, .int .i64 0, .int .u64 0, .int .i64 0, .int .i64 0, .string ⟨#[]⟩, .string ⟨#[]⟩, .int .i64 22] _ rfl hL Tryd.underlying46 rfl infoSld) rfl ⟨rfl, hBL⟩
    · have hJ : sendP s t = ({ s with sent := s.sent + 1 }, ⟨s.id, s.sent + 1, sealP s t⟩, 0) := by unfold sendP; rw [if_pos hv, if_neg hsp]
      rw [hJ]
      clear hJ
      have HC : Hid (∀ wx, Below w.heap.size w wx → Calls Tryd.prog 50 #[.int .i64 s.id, .int .i64 s.side, .int .i64 (s.sent + 1)] wx fun e w' => e = .returned (.string (ctxP s.id s.side (s.sent + 1))) ∧ Below wx.heap.size wx w') := fun wx _ => rctx_any wx s.id s.side (s.sent + 1) (by omega) (by omega) (by omega)
      have HE : Hid (∀ wx, Below w.heap.size w wx → Calls Tryd.prog 49 #[.string s.key, .string (ctxP s.id s.side (s.sent + 1)), .string t] wx fun e w' => e = .returned (.tuple #[.string (sealP s t), .int .i64 0]) ∧ Below wx.heap.size wx w') := fun wx hB => rseal_any wx s.key _ t p6 (ctxP_size _ _ _) ht (hK.below hB)
      obtain ⟨X, hX⟩ : ∃ X, sealP s t = X := ⟨_, rfl⟩
      obtain ⟨CT, hCT⟩ : ∃ C, ctxP s.id s.side (s.sent + 1) = C := ⟨_, rfl⟩
      rw [hX] at HE ⊢
      rw [hCT] at HE HC
      have x1 : wrap64 (s.sent + 1) = s.sent + 1 := by rw [wrap64]; omega
      have x2 : IntKind.i64.wrap (s.sent + 1) = s.sent + 1 := by rw [IntKind.wrap_i64]; omega
      have x3 : (s.sent == 4294967296) = false := by rw [beq_eq_false_iff_ne]; exact hsp
      clear hX hCT hK hs p1 p2 p5 p6 p7 p8 hsp hv ht
      obtain ⟨id, role, side, key, sent, top, seen⟩ := s
      unfold sesV sesC at HV
      unfold sesV sesC sldV sldC
      dsimp only at *
      go_enter Tryd.func18, Tryd.ntmps18
      go_upto_region 1 with fail
      refine world_is (P := fun W => Code.wp _ _ _ _ W) (fun W1 hW1 => ?_)
      have HS1 : Hid (Blk W1 w.heap.size 32 #[.int .i64 id, .int .i64 role, .int .i64 side, .string key, .int .i64 sent, .int .i64 top, .int .u64 (seen : Int)]) := by unfold Hid; rw [← hW1]; exact (Blk.new w _ _).alloc _
      have HR1 : Hid (Blk W1 (w.heap.size + 1) 46 zSld) := by unfold Hid; rw [← hW1]; exact blk_new2 _ _ _ _
      have HB1 : Hid (Below w.heap.size w W1) := by unfold Hid; rw [← hW1]; exact ((Below.refl w.heap.size w).alloc (Nat.le_refl _) _).alloc (by rw [World.size_alloc]; exact Nat.le_succ _) _
      clear hW1
      have c0 := HS1.out.cell 0
      have c1 := HS1.out.cell 1
      have c2 := HS1.out.cell 2
      have c3 := HS1.out.cell 3
      have c4 := HS1.out.cell 4
      have c5 := HS1.out.cell 5
      have c6 := HS1.out.cell 6
      go_upto_region 6 with (first | (go_at_call 22; refine (HV.out _ HB1.out).mono ?_; rintro e w2 ⟨rfl, hB⟩; have HB2 := Lib.hid (HB1.out.trans (hB.mono HB1.out.size)); have HS2 := Lib.hid (HS1.out.below hB HS1.out.lt); have HR2 := Lib.hid (HR1.out.below hB HR1.out.lt); have q4 := HS2.out.cell 4; clear hB) | fail)
      have q0 := HS2.out.cell 0
      have qf := HS2.out.frozen 4
      clear c0 c1 c2 c3 c4 c5 c6
      go_upto_region 7 with fail
      refine world_is (P := fun W => Code.wp _ _ _ _ W) (fun W3 hW3 => ?_)
      have HS3 : Hid (Blk W3 w.heap.size 32 #[.int .i64 id, .int .i64 role, .int .i64 side, .string key, .int .i64 (sent + 1), .int .i64 top, .int .u64 (seen : Int)]) := by unfold Hid; rw [← hW3]; have h := HS2.out.set_ 4 (.int .i64 (sent + 1)); simpa only [List.setIfInBounds_toArray, List.set_cons_zero, List.set_cons_succ] using h
      have HR3 : Hid (Blk W3 (w.heap.size + 1) 46 zSld) := by unfold Hid; rw [← hW3]; exact HR2.out.other (by show w.heap.size + 1 ≠ w.heap.size; omega) _
      have HB3 : Hid (Below w.heap.size w W3) := by unfold Hid; rw [← hW3]; exact HB2.out.setCell (p := ⟨w.heap.size, 4, none⟩) (Nat.le_refl _) _
      clear hW3 q0 q4 qf HS2 HR2 HB2 HS1 HR1 HB1 HV
      have HH : Hid (∀ wx, Below W3.heap.size W3 wx → wx.cell? ⟨w.heap.size, 3, none⟩ = some (.string key) ∧ wx.cell? ⟨w.heap.size, 0, none⟩ = some (.int .i64 id) ∧ wx.cell? ⟨w.heap.size, 2, none⟩ = some (.int .i64 side) ∧ wx.cell? ⟨w.heap.size, 4, none⟩ = some (.int .i64 (sent + 1))) := fun wx hB => ⟨(HS3.out.below hB HS3.out.lt).cell 3, (HS3.out.below hB HS3.out.lt).cell 0, (HS3.out.below hB HS3.out.lt).cell 2, (HS3.out.below hB HS3.out.lt).cell 4⟩
      refine wp_region_held_drew (S := (fun wx => wx.cell? ⟨w.heap.size, 3, none⟩ = some (.string key) ∧ wx.cell? ⟨w.heap.size, 0, none⟩ = some (.int .i64 id) ∧ wx.cell? ⟨w.heap.size, 2, none⟩ = some (.int .i64 side) ∧ wx.cell? ⟨w.heap.size, 4, none⟩ = some (.int .i64 (sent + 1)))) (by kernel_rfl) (HH.out _ (Below.refl _ W3).drew) (fun hHeld => ?_)
      refine' wpAnyH_take (i := 0) (v := ?v0A) rfl (by kernel_rfl) (by kernel_rfl) (by kernel_rfl) (fun _ _ _ h => h) (Or.inl ⟨by rfl, ?hy0A⟩) hHeld ?rest0A
      case hy0A => intro w hSw; (try dsimp only at hSw); go_simp; all_goals with_reducible rfl
      try simp only [sA, gA]
      refine' wpAnyH_take (i := 1) (v := ?v1A) rfl (by kernel_rfl) (by kernel_rfl) (by kernel_rfl) (fun _ _ _ h => h) (Or.inl ⟨by rfl, ?hy1A⟩) hHeld ?rest1A
      case hy1A => intro w hSw; (try dsimp only at hSw); go_simp; all_goals with_reducible rfl
      try simp only [sA, gA]
      refine' wpAnyH_take (i := 2) (v := ?v2A) rfl (by kernel_rfl) (by kernel_rfl) (by kernel_rfl) (fun _ _ _ h => h) (Or.inl ⟨by rfl, ?hy2A⟩) hHeld ?rest2A
      case hy2A => intro w hSw; (try dsimp only at hSw); go_simp; all_goals with_reducible rfl
      try simp only [sA, gA]
      refine' wpAnyH_take (i := 3) (v := ?v3A) rfl (by kernel_rfl) (by kernel_rfl) (by kernel_rfl) (fun _ _ _ h => h) (Or.inl ⟨by rfl, ?hy3A⟩) hHeld ?rest3A
      case hy3A => intro w hSw; (try dsimp only at hSw); go_simp; all_goals with_reducible rfl
      try simp only [sA, gA]
      refine' wpAnyH_take (i := 4) (v := ?v4A) rfl (by kernel_rfl) (by kernel_rfl) (by kernel_rfl) (fun _ _ _ h => h) (Or.inl ⟨by rfl, ?hy4A⟩) hHeld ?rest4A
      case hy4A => intro w hSw; (try dsimp only at hSw); go_simp; all_goals with_reducible rfl
      try simp only [sA, gA]
      refine' wpAnyH_take (i := 5) (v := ?v5A) rfl (by kernel_rfl) (by kernel_rfl) (by kernel_rfl) (fun _ _ _ h => h) (Or.inl ⟨by rfl, ?hy5A⟩) hHeld ?rest5A
      case hy5A => intro w hSw; (try dsimp only at hSw); go_simp; all_goals with_reducible rfl
      try simp only [sA, gA]
      refine' wpAnyH_take (i := 6) (v := ?v6A) rfl (by kernel_rfl) (by kernel_rfl) (by kernel_rfl) (fun _ _ _ h => h) (Or.inl ⟨by rfl, ?hy6A⟩) hHeld ?rest6A
      case hy6A => intro w hSw; (try dsimp only at hSw); go_simp; all_goals with_reducible rfl
      try simp only [sA, gA]
      refine' wpAnyH_take (i := 7) (v := ?v7A) rfl (by kernel_rfl) (by kernel_rfl) (by kernel_rfl) (fun _ _ _ h => h) (Or.inl ⟨by rfl, ?hy7A⟩) hHeld ?rest7A
      case hy7A => intro w hSw; (try dsimp only at hSw); go_simp; all_goals with_reducible rfl
      try simp only [sA, gA]
      refine' wpAnyH_take (i := 9) (v := ?v9A) rfl (by kernel_rfl) (by kernel_rfl) (by kernel_rfl) (fun _ _ _ h => h) (Or.inl ⟨by rfl, ?hy9A⟩) hHeld ?rest9A
      case hy9A => intro w hSw; (try dsimp only at hSw); go_simp; all_goals with_reducible rfl
      try simp only [sA, gA]
      refine wpAnyH_ready (rs := [8]) (by kernel_rfl) (by simp) ?_
      refine AllReadyH.cons rfl (fun K hK => ?_) AllReadyH.nil
      go_simp
      go_at_call 50
      refine (HC.out _ HB3.out.drew).mono ?_
      rintro e w4 ⟨rfl, hB⟩
      have HB4 := Lib.hid (HB3.out.drew.trans (hB.mono HB3.out.size))
      have HD4 := Lib.hid ((Below.refl W3.heap.size W3).drew.trans hB)
      clear hB
      go_wp2_with fail
      refine hK.out _ _ ?_ (fun hHeld2 => ?_)
      · exact HH.out _ HD4.out
      clear hK K hHeld
      have hHeld := hHeld2
      clear hHeld2
      try simp only [sA, gA]
      refine wpAnyH_ready (rs := [10]) (by kernel_rfl) (by simp) ?_
      refine AllReadyH.cons rfl (fun K hK => ?_) AllReadyH.nil
      go_simp
      go_at_call 49
      refine (HE.out _ HB4.out).mono ?_
      rintro e w5 ⟨rfl, hB⟩
      have HB5 := Lib.hid (HB4.out.trans (hB.mono HB4.out.size))
      have HD5 := Lib.hid (HD4.out.trans (hB.mono HD4.out.size))
      clear hB
      go_wp2_with fail
      refine hK.out _ _ ?_ (fun hHeld2 => ?_)
      · exact HH.out _ HD5.out
      clear hK K hHeld
      have hHeld := hHeld2
      clear hHeld2
      try simp only [sA, gA]
      refine' wpAnyH_take (i := 11) (v := ?v11A) rfl (by kernel_rfl) (by kernel_rfl) (by kernel_rfl) (fun _ _ _ h => h) (Or.inl ⟨by rfl, ?hy11A⟩) hHeld ?rest11A
      case hy11A => intro w hSw; (try dsimp only at hSw); go_simp; all_goals with_reducible rfl
      try simp only [sA, gA]
      refine' wpAnyH_take (i := 12) (v := ?v12A) rfl (by kernel_rfl) (by kernel_rfl) (by kernel_rfl) (fun _ _ _ h => h) (Or.inl ⟨by rfl, ?hy12A⟩) hHeld ?rest12A
      case hy12A => intro w hSw; (try dsimp only at hSw); go_simp; all_goals with_reducible rfl
      try simp only [sA, gA]
      refine' wpAnyH_take (i := 13) (v := ?v13A) rfl (by kernel_rfl) (by kernel_rfl) (by kernel_rfl) (fun _ _ _ h => h) (Or.inl ⟨by rfl, ?hy13A⟩) hHeld ?rest13A
      case hy13A => intro w hSw; (try dsimp only at hSw); go_simp; all_goals with_reducible rfl
      try simp only [sA, gA]
      refine' wpAnyH_take (i := 14) (v := ?v14A) rfl (by kernel_rfl) (by kernel_rfl) (by kernel_rfl) (fun _ _ _ h => h) (Or.inl ⟨by rfl, ?hy14A⟩) hHeld ?rest14A
      case hy14A => intro w hSw; (try dsimp only at hSw); go_simp; all_goals with_reducible rfl
      try simp only [sA, gA]
      refine' wpAnyH_take (i := 15) (v := ?v15A) rfl (by kernel_rfl) (by kernel_rfl) (by kernel_rfl) (fun _ _ _ h => h) (Or.inl ⟨by rfl, ?hy15A⟩) hHeld ?rest15A
      case hy15A => intro w hSw; (try dsimp only at hSw); go_simp; all_goals with_reducible rfl
      try simp only [sA, gA]
      refine wpAnyH_done (by kernel_rfl) ?_ _
      clear hHeld
      have HS5 := Lib.hid (HS3.out.below HD5.out HS3.out.lt)
      have HR5 := Lib.hid (HR3.out.below HD5.out HR3.out.lt)
      clear HS3 HR3 HB3 HB4 HD4 HD5 HH
      have c0 := HS5.out.cell 0
      have c1 := HS5.out.cell 1
      have c2 := HS5.out.cell 2
      have c3 := HS5.out.cell 3
      have c4 := HS5.out.cell 4
      have c5 := HS5.out.cell 5
      have c6 := HS5.out.cell 6
      go_wp2_with (first | (refine wpList_store_mid rfl 46 _ _ rfl (w.heap.size + 1) 0 #[.int .i64 id, .int .i64 role, .int .i64 side, .string key, .int .i64 (sent + 1), .int .i64 top, .int .u64 (seen : Int), .int .i64 id, .int .i64 (sent + 1), .string X, .string ⟨#[]⟩, .int .i64 0] rfl rfl (there_of_blk (o := 0) HR5.out (Nat.le_refl _)) infoSld (all_oneCell_toArray (sldC_one ⟨id, role, side, key, sent + 1, top, seen⟩ ⟨id, sent + 1, X⟩ noT 0)) ?_) | fail)
      have hL := blk_setWhole HR5.out (#[.int .i64 id, .int .i64 role, .int .i64 side, .string key, .int .i64 (sent + 1), .int .i64 top, .int .u64 (seen : Int), .int .i64 id, .int .i64 (sent + 1), .string X, .string ⟨#[]⟩, .int .i64 0] : Array Value).toList rfl
      have hBL := below_setCells (g := (w.heap.size + 1)) (Nat.le_succ _) (#[.int .i64 id, .int .i64 role, .int .i64 side, .string key, .int .i64 (sent + 1), .int .i64 top, .int .u64 (seen : Int), .int .i64 id, .int .i64 (sent + 1), .string X, .string ⟨#[]⟩, .int .i64 0] : Array Value).toList 0 _ HB5.out
      exact bodyPost_ret (v := .agg #[.int .i64 id, .int .i64 role, .int .i64 side, .string key, .int .i64 (sent + 1), .int .i64 top, .int .u64 (seen : Int), .int .i64 id, .int .i64 (sent + 1), .string X, .string ⟨#[]⟩, .int .i64 0]) (results_c (P := Tryd.prog) rfl _ _ (w.heap.size + 1) 46 #[.int .i64 id, .int .i64 role, .int .i64 side, .string key, .int .i64 (sent + 1), .int .i64 top, .int .u64 (seen : Int), .int .i64 id, .int .i64 (sent + 1), .string X, .string ⟨#[]⟩, .int .i64 0] _ rfl hL Tryd.underlying46 rfl infoSld) rfl ⟨rfl, hBL⟩
  · have hv' : validP s = false := Bool.eq_false_iff.2 hv
    rw [hv'] at HV
    have hJ : sendP s t = (noSes, noMsg, 1) := by unfold sendP; rw [if_neg hv]
    rw [hJ]
    clear hJ hK hs
    clear hv hv'
    obtain ⟨id, role, side, key, sent, top, seen⟩ := s
    unfold sesV sesC at HV
    unfold sesV sesC sldV sldC
    dsimp only at *
    go_enter Tryd.func18, Tryd.ntmps18
    go_upto_region 1 with fail
    refine world_is (P := fun W => Code.wp _ _ _ _ W) (fun W1 hW1 => ?_)
    have HS1 : Hid (Blk W1 w.heap.size 32 #[.int .i64 id, .int .i64 role, .int .i64 side, .string key, .int .i64 sent, .int .i64 top, .int .u64 (seen : Int)]) := by unfold Hid; rw [← hW1]; exact (Blk.new w _ _).alloc _
    have HR1 : Hid (Blk W1 (w.heap.size + 1) 46 zSld) := by unfold Hid; rw [← hW1]; exact blk_new2 _ _ _ _
    have HB1 : Hid (Below w.heap.size w W1) := by unfold Hid; rw [← hW1]; exact ((Below.refl w.heap.size w).alloc (Nat.le_refl _) _).alloc (by rw [World.size_alloc]; exact Nat.le_succ _) _
    clear hW1
    have c0 := HS1.out.cell 0
    have c1 := HS1.out.cell 1
    have c2 := HS1.out.cell 2
    have c3 := HS1.out.cell 3
    have c4 := HS1.out.cell 4
    have c5 := HS1.out.cell 5
    have c6 := HS1.out.cell 6
    go_wp2_with (first | (go_at_call 22; refine (HV.out _ HB1.out).mono ?_; rintro e w2 ⟨rfl, hB⟩; have HB2 := Lib.hid (HB1.out.trans (hB.mono HB1.out.size)); have HS2 := Lib.hid (HS1.out.below hB HS1.out.lt); have HR2 := Lib.hid (HR1.out.below hB HR1.out.lt); have q4 := HS2.out.cell 4; clear hB) | (refine wpList_store_mid rfl 46 _ _ rfl (w.heap.size + 1) 0 #[.int .i64 0, .int .i64 0, .int .i64 0, .string ⟨#[]⟩, .int .i64 0, .int .i64 0, .int .u64 0, .int .i64 0, .int .i64 0, .string ⟨#[]⟩, .string ⟨#[]⟩, .int .i64 1] rfl rfl (there_of_blk (o := 0) HR2.out (Nat.le_refl _)) infoSld (all_oneCell_toArray (sldC_one noSes noMsg noT 1)) ?_) | fail)
    have hL := blk_setWhole HR2.out (#[.int .i64 0, .int .i64 0, .int .i64 0, .string ⟨#[]⟩, .int .i64 0, .int .i64 0, .int .u64 0, .int .i64 0, .int .i64 0, .string ⟨#[]⟩, .string ⟨#[]⟩, .int .i64 1] : Array Value).toList rfl
    have hBL := below_setCells (g := (w.heap.size + 1)) (Nat.le_succ _) (#[.int .i64 0, .int .i64 0, .int .i64 0, .string ⟨#[]⟩, .int .i64 0, .int .i64 0, .int .u64 0, .int .i64 0, .int .i64 0, .string ⟨#[]⟩, .string ⟨#[]⟩, .int .i64 1] : Array Value).toList 0 _ HB2.out
    exact bodyPost_ret (v := .agg #[.int .i64 0, .int .i64 0, .int .i64 0, .string ⟨#[]⟩, .int .i64 0, .int .i64 0, .int .u64 0, .int .i64 0, .int .i64 0, .string ⟨#[]⟩, .string ⟨#[]⟩, .int .i64 1]) (results_c (P := Tryd.prog) rfl _ _ (w.heap.size + 1) 46 #[.int .i64 0, .int .i64 0, .int .i64 0, .string ⟨#[]⟩, .int .i64 0, .int .i64 0, .int .u64 0, .int .i64 0, .int .i64 0, .string ⟨#[]⟩, .string ⟨#[]⟩, .int .i64 1] _ rfl hL Tryd.underlying46 rfl infoSld) rfl ⟨rfl, hBL⟩
set_option maxRecDepth 100000 in
set_option maxHeartbeats 6400000 in
theorem rreceive_any (w : World) (s : Ses) (m : Msg) (hs : s.Fits) (hm : m.text.size ≤ 1000000) (hmn : -9223372036854775808 ≤ m.num ∧ m.num < 9223372036854775808) (hK : KAt w 0) :
    Calls Tryd.prog 20 #[sesV s, msgV m] w fun e w' => e = .returned (sldV (receiveP s m).1 noMsg (receiveP s m).2.1 (receiveP s m).2.2) ∧ Below w.heap.size w w' := by
  have HV : Hid (∀ wx, Below w.heap.size w wx → Calls Tryd.prog 22 #[sesV s] wx fun e w' => e = .returned (.bool (validP s)) ∧ Below wx.heap.size wx w') := fun wx _ => rvalid_any wx s hs
  have HF : Hid (∀ wx, Below w.heap.size w wx → Calls Tryd.prog 26 #[sesV s, .int .i64 m.num] wx fun e w' => e = .returned (.bool (freshP s m.num)) ∧ Below wx.heap.size wx w') := fun wx _ => rfresh_any wx s m.num hs hmn
  by_cases hv : validP s = true
  · obtain ⟨p1, p2, _, _, p5, p6, p7, p8, _, _⟩ := valid_parts hv
    rw [hv] at HV
    by_cases hms : m.sess = s.id
    · by_cases hfr : freshP s m.num = true
      · obtain ⟨f1, f2⟩ := fresh_parts hfr
        rw [hfr] at HF
        have HC : Hid (∀ wx, Below w.heap.size w wx → Calls Tryd.prog 50 #[.int .i64 s.id, .int .i64 (3 - s.side), .int .i64 m.num] wx fun e w' => e = .returned (.string (ctxP s.id (3 - s.side) m.num)) ∧ Below wx.heap.size wx w') := fun wx _ => rctx_any wx s.id (3 - s.side) m.num (by omega) (by omega) (by omega)
        have HE : Hid (∀ wx, Below w.heap.size w wx → Calls Tryd.prog 52 #[.string s.key, .string (ctxP s.id (3 - s.side) m.num), .string m.text] wx fun e w' => e = .returned (.tuple #[.string (txt (openP s m).1), .int .i64 ((openP s m).2 : Nat)]) ∧ Below wx.heap.size wx w') := fun wx hB => ropen_any wx s.key _ m.text p6 (ctxP_size _ _ _) hm (hK.below hB)
        have HMK : Hid (∀ wx, Calls Tryd.prog 24 #[sesV s, .int .i64 m.num] wx fun e w' => e = .returned (sesV (markP s m.num)) ∧ Below wx.heap.size wx w') := fun wx => rmark_any wx s m.num hs hmn
        have x1 : wrap64 (3 - s.side) = 3 - s.side := by rw [wrap64]; omega
        have x2 : IntKind.i64.wrap (3 - s.side) = 3 - s.side := by rw [IntKind.wrap_i64]; omega
        have x3 : (m.sess != s.id) = false := by rw [hms]; exact bne_self_eq_false _
        have hJ : receiveP s m = if (openP s m).2 = 0 then (markP s m.num, txt (openP s m).1, 0) else (noSes, noT, (openP s m).2) := by unfold receiveP; rw [if_pos hv, if_pos hms, if_pos hfr]
        have hkk := open_kinds (bl s.key) (bl (ctxP s.id (3 - s.side) m.num)) (bl m.text)
        have hkk2 : (openP s m).2 = 0 ∨ (openP s m).2 = 5 ∨ (openP s m).2 = 8 := hkk
        rw [hJ]
        obtain ⟨CT, hCT⟩ : ∃ C, ctxP s.id (3 - s.side) m.num = C := ⟨_, rfl⟩
        rw [hCT] at HE HC
        clear hJ hCT hkk hK hs p1 p2 p5 p6 p7 p8 f1 f2 hv hm hmn hms hfr
        generalize markP s m.num = Q at *
        generalize openP s m = OP at *
        obtain ⟨Ot, E⟩ := OP
        dsimp only at HE hkk2 ⊢
        obtain ⟨X, hX⟩ : ∃ X, txt Ot = X := ⟨_, rfl⟩
        rw [hX] at HE ⊢
        clear hX
        obtain ⟨a0, a1, a2, a3, a4, a5, a6⟩ := Q
        unfold sesV sesC at HMK
        rcases hkk2 with rfl | rfl | rfl
        · rw [if_pos rfl]
          obtain ⟨id, role, side, key, sent, top, seen⟩ := s
          obtain ⟨ms, mn, mt⟩ := m
          unfold sesV sesC at HV HF
          unfold sesV sesC msgV msgC sldV sldC
          dsimp only at *
          go_enter Tryd.func20, Tryd.ntmps20
          go_upto_region 1 with fail
          refine world_is (P := fun W => Code.wp _ _ _ _ W) (fun W1 hW1 => ?_)
          have HS1 : Hid (Blk W1 w.heap.size 32 #[.int .i64 id, .int .i64 role, .int .i64 side, .string key, .int .i64 sent, .int .i64 top, .int .u64 (seen : Int)]) := by unfold Hid; rw [← hW1]; exact ((Blk.new w _ _).alloc _).alloc _
          have HM1 : Hid (Blk W1 (w.heap.size + 1) 42 #[.int .i64 ms, .int .i64 mn, .string mt]) := by unfold Hid; rw [← hW1]; exact (blk_new2 _ _ _ _).alloc _
          have HR1 : Hid (Blk W1 (w.heap.size + 1 + 1) 46 zSld) := by unfold Hid; rw [← hW1]; exact blk_new3 _ _ _ _ _
          have HB1 : Hid (Below w.heap.size w W1) := by unfold Hid; rw [← hW1]; exact ((Below.refl w.heap.size w).alloc (Nat.le_refl _) _).alloc (by rw [World.size_alloc]; exact Nat.le_succ _) _ |>.alloc (by rw [World.size_alloc, World.size_alloc]; omega) _
          clear hW1
          have c0 := HS1.out.cell 0
          have c1 := HS1.out.cell 1
          have c2 := HS1.out.cell 2
          have c3 := HS1.out.cell 3
          have c4 := HS1.out.cell 4
          have c5 := HS1.out.cell 5
          have c6 := HS1.out.cell 6
          go_upto_region 9 with (first | (go_at_call 22; refine (HV.out _ HB1.out).mono ?_; rintro e w2 ⟨rfl, hB⟩; have HB2 := Lib.hid (HB1.out.trans (hB.mono HB1.out.size)); have HS2 := Lib.hid (HS1.out.below hB HS1.out.lt); have HM2 := Lib.hid (HM1.out.below hB HM1.out.lt); have HR2 := Lib.hid (HR1.out.below hB HR1.out.lt); have q0 := HS2.out.cell 0; have m0 := HM2.out.cell 0; have m1 := HM2.out.cell 1; have q1 := HS2.out.cell 1; have q2 := HS2.out.cell 2; have q3 := HS2.out.cell 3; have q4 := HS2.out.cell 4; have q5 := HS2.out.cell 5; have q6 := HS2.out.cell 6; clear hB) | (go_at_call 26; refine (HF.out _ HB2.out).mono ?_; rintro e w3 ⟨rfl, hB⟩; have HB3 := Lib.hid (HB2.out.trans (hB.mono HB2.out.size)); have HS3 := Lib.hid (HS2.out.below hB HS2.out.lt); have HM3 := Lib.hid (HM2.out.below hB HM2.out.lt); have HR3 := Lib.hid (HR2.out.below hB HR2.out.lt); clear hB) | fail)
          clear c0 c1 c2 c3 c4 c5 c6 q0 q1 q2 q3 q4 q5 q6 m0 m1 HS2 HM2 HR2 HB2 HS1 HM1 HR1 HB1 HV HF
          have HH : Hid (∀ wx, Below w3.heap.size w3 wx → wx.cell? ⟨w.heap.size, 3, none⟩ = some (.string key) ∧ wx.cell? ⟨w.heap.size, 0, none⟩ = some (.int .i64 id) ∧ wx.cell? ⟨w.heap.size, 2, none⟩ = some (.int .i64 side) ∧ wx.cell? ⟨w.heap.size + 1, 1, none⟩ = some (.int .i64 mn) ∧ wx.cell? ⟨w.heap.size + 1, 2, none⟩ = some (.string mt)) := fun wx hB => ⟨(HS3.out.below hB HS3.out.lt).cell 3, (HS3.out.below hB HS3.out.lt).cell 0, (HS3.out.below hB HS3.out.lt).cell 2, (HM3.out.below hB HM3.out.lt).cell 1, (HM3.out.below hB HM3.out.lt).cell 2⟩
          refine wp_region_held_drew (S := (fun wx => wx.cell? ⟨w.heap.size, 3, none⟩ = some (.string key) ∧ wx.cell? ⟨w.heap.size, 0, none⟩ = some (.int .i64 id) ∧ wx.cell? ⟨w.heap.size, 2, none⟩ = some (.int .i64 side) ∧ wx.cell? ⟨w.heap.size + 1, 1, none⟩ = some (.int .i64 mn) ∧ wx.cell? ⟨w.heap.size + 1, 2, none⟩ = some (.string mt))) (by kernel_rfl) (HH.out _ (Below.refl _ w3).drew) (fun hHeld => ?_)
          refine' wpAnyH_take (i := 0) (v := ?v0A) rfl (by kernel_rfl) (by kernel_rfl) (by kernel_rfl) (fun _ _ _ h => h) (Or.inl ⟨by rfl, ?hy0A⟩) hHeld ?rest0A
          case hy0A => intro w hSw; (try dsimp only at hSw); go_simp; all_goals with_reducible rfl
          try simp only [sA, gA]
          refine' wpAnyH_take (i := 1) (v := ?v1A) rfl (by kernel_rfl) (by kernel_rfl) (by kernel_rfl) (fun _ _ _ h => h) (Or.inl ⟨by rfl, ?hy1A⟩) hHeld ?rest1A
          case hy1A => intro w hSw; (try dsimp only at hSw); go_simp; all_goals with_reducible rfl
          try simp only [sA, gA]
          refine' wpAnyH_take (i := 2) (v := ?v2A) rfl (by kernel_rfl) (by kernel_rfl) (by kernel_rfl) (fun _ _ _ h => h) (Or.inl ⟨by rfl, ?hy2A⟩) hHeld ?rest2A
          case hy2A => intro w hSw; (try dsimp only at hSw); go_simp; all_goals with_reducible rfl
          try simp only [sA, gA]
          refine' wpAnyH_take (i := 3) (v := ?v3A) rfl (by kernel_rfl) (by kernel_rfl) (by kernel_rfl) (fun _ _ _ h => h) (Or.inl ⟨by rfl, ?hy3A⟩) hHeld ?rest3A
          case hy3A => intro w hSw; (try dsimp only at hSw); go_simp; all_goals with_reducible rfl
          try simp only [sA, gA]
          refine' wpAnyH_take (i := 4) (v := ?v4A) rfl (by kernel_rfl) (by kernel_rfl) (by kernel_rfl) (fun _ _ _ h => h) (Or.inl ⟨by rfl, ?hy4A⟩) hHeld ?rest4A
          case hy4A => intro w hSw; (try dsimp only at hSw); go_simp; all_goals with_reducible rfl
          try simp only [sA, gA]
          refine' wpAnyH_take (i := 5) (v := ?v5A) rfl (by kernel_rfl) (by kernel_rfl) (by kernel_rfl) (fun _ _ _ h => h) (Or.inl ⟨by rfl, ?hy5A⟩) hHeld ?rest5A
          case hy5A => intro w hSw; (try dsimp only at hSw); go_simp; all_goals with_reducible rfl
          try simp only [sA, gA]
          refine' wpAnyH_take (i := 6) (v := ?v6A) rfl (by kernel_rfl) (by kernel_rfl) (by kernel_rfl) (fun _ _ _ h => h) (Or.inl ⟨by rfl, ?hy6A⟩) hHeld ?rest6A
          case hy6A => intro w hSw; (try dsimp only at hSw); go_simp; all_goals with_reducible rfl
          try simp only [sA, gA]
          refine' wpAnyH_take (i := 7) (v := ?v7A) rfl (by kernel_rfl) (by kernel_rfl) (by kernel_rfl) (fun _ _ _ h => h) (Or.inl ⟨by rfl, ?hy7A⟩) hHeld ?rest7A
          case hy7A => intro w hSw; (try dsimp only at hSw); go_simp; all_goals with_reducible rfl
          try simp only [sA, gA]
          refine' wpAnyH_take (i := 8) (v := ?v8A) rfl (by kernel_rfl) (by kernel_rfl) (by kernel_rfl) (fun _ _ _ h => h) (Or.inl ⟨by rfl, ?hy8A⟩) hHeld ?rest8A
          case hy8A => intro w hSw; (try dsimp only at hSw); go_simp; all_goals with_reducible rfl
          try simp only [sA, gA]
          refine' wpAnyH_take (i := 10) (v := ?v10A) rfl (by kernel_rfl) (by kernel_rfl) (by kernel_rfl) (fun _ _ _ h => h) (Or.inl ⟨by rfl, ?hy10A⟩) hHeld ?rest10A
          case hy10A => intro w hSw; (try dsimp only at hSw); go_simp; all_goals with_reducible rfl
          try simp only [sA, gA]
          refine' wpAnyH_take (i := 11) (v := ?v11A) rfl (by kernel_rfl) (by kernel_rfl) (by kernel_rfl) (fun _ _ _ h => h) (Or.inl ⟨by rfl, ?hy11A⟩) hHeld ?rest11A
          case hy11A => intro w hSw; (try dsimp only at hSw); go_simp; all_goals with_reducible rfl
          try simp only [sA, gA]
          refine wpAnyH_ready (rs := [9]) (by kernel_rfl) (by simp) ?_
          refine AllReadyH.cons rfl (fun K hK => ?_) AllReadyH.nil
          go_simp
          go_at_call 50
          refine (HC.out _ HB3.out.drew).mono ?_
          rintro e w4 ⟨rfl, hB⟩
          have HB4 := Lib.hid (HB3.out.drew.trans (hB.mono HB3.out.size))
          have HD4 := Lib.hid ((Below.refl w3.heap.size w3).drew.trans hB)
          clear hB
          go_wp2_with fail
          refine hK.out _ _ ?_ (fun hHeld2 => ?_)
          · exact HH.out _ HD4.out
          clear hK K hHeld
          have hHeld := hHeld2
          clear hHeld2
          try simp only [sA, gA]
          refine wpAnyH_ready (rs := [12]) (by kernel_rfl) (by simp) ?_
          refine AllReadyH.cons rfl (fun K hK => ?_) AllReadyH.nil
          go_simp
          go_at_call 52
          refine (HE.out _ HB4.out).mono ?_
          rintro e w5 ⟨rfl, hB⟩
          have HB5 := Lib.hid (HB4.out.trans (hB.mono HB4.out.size))
          have HD5 := Lib.hid (HD4.out.trans (hB.mono HD4.out.size))
          clear hB
          go_wp2_with fail
          refine hK.out _ _ ?_ (fun hHeld2 => ?_)
          · exact HH.out _ HD5.out
          clear hK K hHeld
          have hHeld := hHeld2
          clear hHeld2
          try simp only [sA, gA]
          refine' wpAnyH_take (i := 13) (v := ?v13A) rfl (by kernel_rfl) (by kernel_rfl) (by kernel_rfl) (fun _ _ _ h => h) (Or.inl ⟨by rfl, ?hy13A⟩) hHeld ?rest13A
          case hy13A => intro w hSw; (try dsimp only at hSw); go_simp; all_goals with_reducible rfl
          try simp only [sA, gA]
          refine' wpAnyH_take (i := 14) (v := ?v14A) rfl (by kernel_rfl) (by kernel_rfl) (by kernel_rfl) (fun _ _ _ h => h) (Or.inl ⟨by rfl, ?hy14A⟩) hHeld ?rest14A
          case hy14A => intro w hSw; (try dsimp only at hSw); go_simp; all_goals with_reducible rfl
          try simp only [sA, gA]
          refine' wpAnyH_take (i := 15) (v := ?v15A) rfl (by kernel_rfl) (by kernel_rfl) (by kernel_rfl) (fun _ _ _ h => h) (Or.inl ⟨by rfl, ?hy15A⟩) hHeld ?rest15A
          case hy15A => intro w hSw; (try dsimp only at hSw); go_simp; all_goals with_reducible rfl
          try simp only [sA, gA]
          refine' wpAnyH_take (i := 16) (v := ?v16A) rfl (by kernel_rfl) (by kernel_rfl) (by kernel_rfl) (fun _ _ _ h => h) (Or.inl ⟨by rfl, ?hy16A⟩) hHeld ?rest16A
          case hy16A => intro w hSw; (try dsimp only at hSw); go_simp; all_goals with_reducible rfl
          try simp only [sA, gA]
          refine' wpAnyH_take (i := 17) (v := ?v17A) rfl (by kernel_rfl) (by kernel_rfl) (by kernel_rfl) (fun _ _ _ h => h) (Or.inl ⟨by rfl, ?hy17A⟩) hHeld ?rest17A
          case hy17A => intro w hSw; (try dsimp only at hSw); go_simp; all_goals with_reducible rfl
          try simp only [sA, gA]
          refine wpAnyH_done (by kernel_rfl) ?_ _
          clear hHeld
          have HS5 := Lib.hid (HS3.out.below HD5.out HS3.out.lt)
          have HM5 := Lib.hid (HM3.out.below HD5.out HM3.out.lt)
          have HR5 := Lib.hid (HR3.out.below HD5.out HR3.out.lt)
          clear HS3 HM3 HR3 HB3 HB4 HD4 HD5 HH
          have c0 := HS5.out.cell 0; have c1 := HS5.out.cell 1; have c2 := HS5.out.cell 2; have c3 := HS5.out.cell 3; have c4 := HS5.out.cell 4; have c5 := HS5.out.cell 5; have c6 := HS5.out.cell 6; have m1 := HM5.out.cell 1
          go_wp2_with (first | (go_at_call 24; refine (HMK.out _).mono ?_; rintro e w6 ⟨rfl, hB⟩; have HR6 := Lib.hid (HR5.out.below hB HR5.out.lt); have HB6 := Lib.hid (HB5.out.trans (hB.mono HB5.out.size)); clear hB) | (refine wpList_store_mid rfl 46 _ _ rfl (w.heap.size + 1 + 1) 0 #[.int .i64 a0, .int .i64 a1, .int .i64 a2, .string a3, .int .i64 a4, .int .i64 a5, .int .u64 (a6 : Int), .int .i64 0, .int .i64 0, .string ⟨#[]⟩, .string X, .int .i64 0] rfl rfl (there_of_blk (o := 0) HR6.out (Nat.le_refl _)) infoSld (all_oneCell_toArray (sldC_one ⟨a0, a1, a2, a3, a4, a5, a6⟩ noMsg X 0)) ?_) | fail)
          have hL := blk_setWhole HR6.out (#[.int .i64 a0, .int .i64 a1, .int .i64 a2, .string a3, .int .i64 a4, .int .i64 a5, .int .u64 (a6 : Int), .int .i64 0, .int .i64 0, .string ⟨#[]⟩, .string X, .int .i64 0] : Array Value).toList rfl
          have hBL := below_setCells (g := (w.heap.size + 1 + 1)) (by omega) (#[.int .i64 a0, .int .i64 a1, .int .i64 a2, .string a3, .int .i64 a4, .int .i64 a5, .int .u64 (a6 : Int), .int .i64 0, .int .i64 0, .string ⟨#[]⟩, .string X, .int .i64 0] : Array Value).toList 0 _ HB6.out
          exact bodyPost_ret (v := .agg #[.int .i64 a0, .int .i64 a1, .int .i64 a2, .string a3, .int .i64 a4, .int .i64 a5, .int .u64 (a6 : Int), .int .i64 0, .int .i64 0, .string ⟨#[]⟩, .string X, .int .i64 0]) (results_c (P := Tryd.prog) rfl _ _ (w.heap.size + 1 + 1) 46 #[.int .i64 a0, .int .i64 a1, .int .i64 a2, .string a3, .int .i64 a4, .int .i64 a5, .int .u64 (a6 : Int), .int .i64 0, .int .i64 0, .string ⟨#[]⟩, .string X, .int .i64 0] _ rfl hL Tryd.underlying46 rfl infoSld) rfl ⟨rfl, hBL⟩
        · rw [if_neg (by decide)]
          obtain ⟨id, role, side, key, sent, top, seen⟩ := s
          obtain ⟨ms, mn, mt⟩ := m
          unfold sesV sesC at HV HF
          unfold sesV sesC msgV msgC sldV sldC
          dsimp only at *
          go_enter Tryd.func20, Tryd.ntmps20
          go_upto_region 1 with fail
          refine world_is (P := fun W => Code.wp _ _ _ _ W) (fun W1 hW1 => ?_)
          have HS1 : Hid (Blk W1 w.heap.size 32 #[.int .i64 id, .int .i64 role, .int .i64 side, .string key, .int .i64 sent, .int .i64 top, .int .u64 (seen : Int)]) := by unfold Hid; rw [← hW1]; exact ((Blk.new w _ _).alloc _).alloc _
          have HM1 : Hid (Blk W1 (w.heap.size + 1) 42 #[.int .i64 ms, .int .i64 mn, .string mt]) := by unfold Hid; rw [← hW1]; exact (blk_new2 _ _ _ _).alloc _
          have HR1 : Hid (Blk W1 (w.heap.size + 1 + 1) 46 zSld) := by unfold Hid; rw [← hW1]; exact blk_new3 _ _ _ _ _
          have HB1 : Hid (Below w.heap.size w W1) := by unfold Hid; rw [← hW1]; exact ((Below.refl w.heap.size w).alloc (Nat.le_refl _) _).alloc (by rw [World.size_alloc]; exact Nat.le_succ _) _ |>.alloc (by rw [World.size_alloc, World.size_alloc]; omega) _
          clear hW1
          have c0 := HS1.out.cell 0
          have c1 := HS1.out.cell 1
          have c2 := HS1.out.cell 2
          have c3 := HS1.out.cell 3
          have c4 := HS1.out.cell 4
          have c5 := HS1.out.cell 5
          have c6 := HS1.out.cell 6
          go_upto_region 9 with (first | (go_at_call 22; refine (HV.out _ HB1.out).mono ?_; rintro e w2 ⟨rfl, hB⟩; have HB2 := Lib.hid (HB1.out.trans (hB.mono HB1.out.size)); have HS2 := Lib.hid (HS1.out.below hB HS1.out.lt); have HM2 := Lib.hid (HM1.out.below hB HM1.out.lt); have HR2 := Lib.hid (HR1.out.below hB HR1.out.lt); have q0 := HS2.out.cell 0; have m0 := HM2.out.cell 0; have m1 := HM2.out.cell 1; have q1 := HS2.out.cell 1; have q2 := HS2.out.cell 2; have q3 := HS2.out.cell 3; have q4 := HS2.out.cell 4; have q5 := HS2.out.cell 5; have q6 := HS2.out.cell 6; clear hB) | (go_at_call 26; refine (HF.out _ HB2.out).mono ?_; rintro e w3 ⟨rfl, hB⟩; have HB3 := Lib.hid (HB2.out.trans (hB.mono HB2.out.size)); have HS3 := Lib.hid (HS2.out.below hB HS2.out.lt); have HM3 := Lib.hid (HM2.out.below hB HM2.out.lt); have HR3 := Lib.hid (HR2.out.below hB HR2.out.lt); clear hB) | fail)
          clear c0 c1 c2 c3 c4 c5 c6 q0 q1 q2 q3 q4 q5 q6 m0 m1 HS2 HM2 HR2 HB2 HS1 HM1 HR1 HB1 HV HF
          have HH : Hid (∀ wx, Below w3.heap.size w3 wx → wx.cell? ⟨w.heap.size, 3, none⟩ = some (.string key) ∧ wx.cell? ⟨w.heap.size, 0, none⟩ = some (.int .i64 id) ∧ wx.cell? ⟨w.heap.size, 2, none⟩ = some (.int .i64 side) ∧ wx.cell? ⟨w.heap.size + 1, 1, none⟩ = some (.int .i64 mn) ∧ wx.cell? ⟨w.heap.size + 1, 2, none⟩ = some (.string mt)) := fun wx hB => ⟨(HS3.out.below hB HS3.out.lt).cell 3, (HS3.out.below hB HS3.out.lt).cell 0, (HS3.out.below hB HS3.out.lt).cell 2, (HM3.out.below hB HM3.out.lt).cell 1, (HM3.out.below hB HM3.out.lt).cell 2⟩
          refine wp_region_held_drew (S := (fun wx => wx.cell? ⟨w.heap.size, 3, none⟩ = some (.string key) ∧ wx.cell? ⟨w.heap.size, 0, none⟩ = some (.int .i64 id) ∧ wx.cell? ⟨w.heap.size, 2, none⟩ = some (.int .i64 side) ∧ wx.cell? ⟨w.heap.size + 1, 1, none⟩ = some (.int .i64 mn) ∧ wx.cell? ⟨w.heap.size + 1, 2, none⟩ = some (.string mt))) (by kernel_rfl) (HH.out _ (Below.refl _ w3).drew) (fun hHeld => ?_)
          refine' wpAnyH_take (i := 0) (v := ?v0B) rfl (by kernel_rfl) (by kernel_rfl) (by kernel_rfl) (fun _ _ _ h => h) (Or.inl ⟨by rfl, ?hy0B⟩) hHeld ?rest0B
          case hy0B => intro w hSw; (try dsimp only at hSw); go_simp; all_goals with_reducible rfl
          try simp only [sA, gA]
          refine' wpAnyH_take (i := 1) (v := ?v1B) rfl (by kernel_rfl) (by kernel_rfl) (by kernel_rfl) (fun _ _ _ h => h) (Or.inl ⟨by rfl, ?hy1B⟩) hHeld ?rest1B
          case hy1B => intro w hSw; (try dsimp only at hSw); go_simp; all_goals with_reducible rfl
          try simp only [sA, gA]
          refine' wpAnyH_take (i := 2) (v := ?v2B) rfl (by kernel_rfl) (by kernel_rfl) (by kernel_rfl) (fun _ _ _ h => h) (Or.inl ⟨by rfl, ?hy2B⟩) hHeld ?rest2B
          case hy2B => intro w hSw; (try dsimp only at hSw); go_simp; all_goals with_reducible rfl
          try simp only [sA, gA]
          refine' wpAnyH_take (i := 3) (v := ?v3B) rfl (by kernel_rfl) (by kernel_rfl) (by kernel_rfl) (fun _ _ _ h => h) (Or.inl ⟨by rfl, ?hy3B⟩) hHeld ?rest3B
          case hy3B => intro w hSw; (try dsimp only at hSw); go_simp; all_goals with_reducible rfl
          try simp only [sA, gA]
          refine' wpAnyH_take (i := 4) (v := ?v4B) rfl (by kernel_rfl) (by kernel_rfl) (by kernel_rfl) (fun _ _ _ h => h) (Or.inl ⟨by rfl, ?hy4B⟩) hHeld ?rest4B
          case hy4B => intro w hSw; (try dsimp only at hSw); go_simp; all_goals with_reducible rfl
          try simp only [sA, gA]
          refine' wpAnyH_take (i := 5) (v := ?v5B) rfl (by kernel_rfl) (by kernel_rfl) (by kernel_rfl) (fun _ _ _ h => h) (Or.inl ⟨by rfl, ?hy5B⟩) hHeld ?rest5B
          case hy5B => intro w hSw; (try dsimp only at hSw); go_simp; all_goals with_reducible rfl
          try simp only [sA, gA]
          refine' wpAnyH_take (i := 6) (v := ?v6B) rfl (by kernel_rfl) (by kernel_rfl) (by kernel_rfl) (fun _ _ _ h => h) (Or.inl ⟨by rfl, ?hy6B⟩) hHeld ?rest6B
          case hy6B => intro w hSw; (try dsimp only at hSw); go_simp; all_goals with_reducible rfl
          try simp only [sA, gA]
          refine' wpAnyH_take (i := 7) (v := ?v7B) rfl (by kernel_rfl) (by kernel_rfl) (by kernel_rfl) (fun _ _ _ h => h) (Or.inl ⟨by rfl, ?hy7B⟩) hHeld ?rest7B
          case hy7B => intro w hSw; (try dsimp only at hSw); go_simp; all_goals with_reducible rfl
          try simp only [sA, gA]
          refine' wpAnyH_take (i := 8) (v := ?v8B) rfl (by kernel_rfl) (by kernel_rfl) (by kernel_rfl) (fun _ _ _ h => h) (Or.inl ⟨by rfl, ?hy8B⟩) hHeld ?rest8B
          case hy8B => intro w hSw; (try dsimp only at hSw); go_simp; all_goals with_reducible rfl
          try simp only [sA, gA]
          refine' wpAnyH_take (i := 10) (v := ?v10B) rfl (by kernel_rfl) (by kernel_rfl) (by kernel_rfl) (fun _ _ _ h => h) (Or.inl ⟨by rfl, ?hy10B⟩) hHeld ?rest10B
          case hy10B => intro w hSw; (try dsimp only at hSw); go_simp; all_goals with_reducible rfl
          try simp only [sA, gA]
          refine' wpAnyH_take (i := 11) (v := ?v11B) rfl (by kernel_rfl) (by kernel_rfl) (by kernel_rfl) (fun _ _ _ h => h) (Or.inl ⟨by rfl, ?hy11B⟩) hHeld ?rest11B
          case hy11B => intro w hSw; (try dsimp only at hSw); go_simp; all_goals with_reducible rfl
          try simp only [sA, gA]
          refine wpAnyH_ready (rs := [9]) (by kernel_rfl) (by simp) ?_
          refine AllReadyH.cons rfl (fun K hK => ?_) AllReadyH.nil
          go_simp
          go_at_call 50
          refine (HC.out _ HB3.out.drew).mono ?_
          rintro e w4 ⟨rfl, hB⟩
          have HB4 := Lib.hid (HB3.out.drew.trans (hB.mono HB3.out.size))
          have HD4 := Lib.hid ((Below.refl w3.heap.size w3).drew.trans hB)
          clear hB
          go_wp2_with fail
          refine hK.out _ _ ?_ (fun hHeld2 => ?_)
          · exact HH.out _ HD4.out
          clear hK K hHeld
          have hHeld := hHeld2
          clear hHeld2
          try simp only [sA, gA]
          refine wpAnyH_ready (rs := [12]) (by kernel_rfl) (by simp) ?_
          refine AllReadyH.cons rfl (fun K hK => ?_) AllReadyH.nil
          go_simp
          go_at_call 52
          refine (HE.out _ HB4.out).mono ?_
          rintro e w5 ⟨rfl, hB⟩
          have HB5 := Lib.hid (HB4.out.trans (hB.mono HB4.out.size))
          have HD5 := Lib.hid (HD4.out.trans (hB.mono HD4.out.size))
          clear hB
          go_wp2_with fail
          refine hK.out _ _ ?_ (fun hHeld2 => ?_)
          · exact HH.out _ HD5.out
          clear hK K hHeld
          have hHeld := hHeld2
          clear hHeld2
          try simp only [sA, gA]
          refine' wpAnyH_take (i := 13) (v := ?v13B) rfl (by kernel_rfl) (by kernel_rfl) (by kernel_rfl) (fun _ _ _ h => h) (Or.inl ⟨by rfl, ?hy13B⟩) hHeld ?rest13B
          case hy13B => intro w hSw; (try dsimp only at hSw); go_simp; all_goals with_reducible rfl
          try simp only [sA, gA]
          refine' wpAnyH_take (i := 14) (v := ?v14B) rfl (by kernel_rfl) (by kernel_rfl) (by kernel_rfl) (fun _ _ _ h => h) (Or.inl ⟨by rfl, ?hy14B⟩) hHeld ?rest14B
          case hy14B => intro w hSw; (try dsimp only at hSw); go_simp; all_goals with_reducible rfl
          try simp only [sA, gA]
          refine' wpAnyH_take (i := 15) (v := ?v15B) rfl (by kernel_rfl) (by kernel_rfl) (by kernel_rfl) (fun _ _ _ h => h) (Or.inl ⟨by rfl, ?hy15B⟩) hHeld ?rest15B
          case hy15B => intro w hSw; (try dsimp only at hSw); go_simp; all_goals with_reducible rfl
          try simp only [sA, gA]
          refine' wpAnyH_take (i := 16) (v := ?v16B) rfl (by kernel_rfl) (by kernel_rfl) (by kernel_rfl) (fun _ _ _ h => h) (Or.inl ⟨by rfl, ?hy16B⟩) hHeld ?rest16B
          case hy16B => intro w hSw; (try dsimp only at hSw); go_simp; all_goals with_reducible rfl
          try simp only [sA, gA]
          refine' wpAnyH_take (i := 17) (v := ?v17B) rfl (by kernel_rfl) (by kernel_rfl) (by kernel_rfl) (fun _ _ _ h => h) (Or.inl ⟨by rfl, ?hy17B⟩) hHeld ?rest17B
          case hy17B => intro w hSw; (try dsimp only at hSw); go_simp; all_goals with_reducible rfl
          try simp only [sA, gA]
          refine wpAnyH_done (by kernel_rfl) ?_ _
          clear hHeld
          have HS5 := Lib.hid (HS3.out.below HD5.out HS3.out.lt)
          have HM5 := Lib.hid (HM3.out.below HD5.out HM3.out.lt)
          have HR5 := Lib.hid (HR3.out.below HD5.out HR3.out.lt)
          clear HS3 HM3 HR3 HB3 HB4 HD4 HD5 HH
          go_wp2_with (first | (refine wpList_store_mid rfl 46 _ _ rfl (w.heap.size + 1 + 1) 0 #[.int .i64 0, .int .i64 0, .int .i64 0, .string ⟨#[]⟩, .int .i64 0, .int .i64 0, .int .u64 0, .int .i64 0, .int .i64 0, .string ⟨#[]⟩, .string ⟨#[]⟩, .int .i64 5] rfl rfl (there_of_blk (o := 0) HR5.out (Nat.le_refl _)) infoSld (all_oneCell_toArray (sldC_one noSes noMsg noT 5)) ?_) | fail)
          have hL := blk_setWhole HR5.out (#[.int .i64 0, .int .i64 0, .int .i64 0, .string ⟨#[]⟩, .int .i64 0, .int .i64 0, .int .u64 0, .int .i64 0, .int .i64 0, .string ⟨#[]⟩, .string ⟨#[]⟩, .int .i64 5] : Array Value).toList rfl
          have hBL := below_setCells (g := (w.heap.size + 1 + 1)) (by omega) (#[.int .i64 0, .int .i64 0, .int .i64 0, .string ⟨#[]⟩, .int .i64 0, .int .i64 0, .int .u64 0, .int .i64 0, .int .i64 0, .string ⟨#[]⟩, .string ⟨#[]⟩, .int .i64 5] : Array Value).toList 0 _ HB5.out
          exact bodyPost_ret (v := .agg #[.int .i64 0, .int .i64 0, .int .i64 0, .string ⟨#[]⟩, .int .i64 0, .int .i64 0, .int .u64 0, .int .i64 0, .int .i64 0, .string ⟨#[]⟩, .string ⟨#[]⟩, .int .i64 5]) (results_c (P := Tryd.prog) rfl _ _ (w.heap.size + 1 + 1) 46 #[.int .i64 0, .int .i64 0, .int .i64 0, .string ⟨#[]⟩, .int .i64 0, .int .i64 0, .int .u64 0, .int .i64 0, .int .i64 0, .string ⟨#[]⟩, .string ⟨#[]⟩, .int .i64 5] _ rfl hL Tryd.underlying46 rfl infoSld) rfl ⟨rfl, hBL⟩
        · rw [if_neg (by decide)]
          obtain ⟨id, role, side, key, sent, top, seen⟩ := s
          obtain ⟨ms, mn, mt⟩ := m
          unfold sesV sesC at HV HF
          unfold sesV sesC msgV msgC sldV sldC
          dsimp only at *
          go_enter Tryd.func20, Tryd.ntmps20
          go_upto_region 1 with fail
          refine world_is (P := fun W => Code.wp _ _ _ _ W) (fun W1 hW1 => ?_)
          have HS1 : Hid (Blk W1 w.heap.size 32 #[.int .i64 id, .int .i64 role, .int .i64 side, .string key, .int .i64 sent, .int .i64 top, .int .u64 (seen : Int)]) := by unfold Hid; rw [← hW1]; exact ((Blk.new w _ _).alloc _).alloc _
          have HM1 : Hid (Blk W1 (w.heap.size + 1) 42 #[.int .i64 ms, .int .i64 mn, .string mt]) := by unfold Hid; rw [← hW1]; exact (blk_new2 _ _ _ _).alloc _
          have HR1 : Hid (Blk W1 (w.heap.size + 1 + 1) 46 zSld) := by unfold Hid; rw [← hW1]; exact blk_new3 _ _ _ _ _
          have HB1 : Hid (Below w.heap.size w W1) := by unfold Hid; rw [← hW1]; exact ((Below.refl w.heap.size w).alloc (Nat.le_refl _) _).alloc (by rw [World.size_alloc]; exact Nat.le_succ _) _ |>.alloc (by rw [World.size_alloc, World.size_alloc]; omega) _
          clear hW1
          have c0 := HS1.out.cell 0
          have c1 := HS1.out.cell 1
          have c2 := HS1.out.cell 2
          have c3 := HS1.out.cell 3
          have c4 := HS1.out.cell 4
          have c5 := HS1.out.cell 5
          have c6 := HS1.out.cell 6
          go_upto_region 9 with (first | (go_at_call 22; refine (HV.out _ HB1.out).mono ?_; rintro e w2 ⟨rfl, hB⟩; have HB2 := Lib.hid (HB1.out.trans (hB.mono HB1.out.size)); have HS2 := Lib.hid (HS1.out.below hB HS1.out.lt); have HM2 := Lib.hid (HM1.out.below hB HM1.out.lt); have HR2 := Lib.hid (HR1.out.below hB HR1.out.lt); have q0 := HS2.out.cell 0; have m0 := HM2.out.cell 0; have m1 := HM2.out.cell 1; have q1 := HS2.out.cell 1; have q2 := HS2.out.cell 2; have q3 := HS2.out.cell 3; have q4 := HS2.out.cell 4; have q5 := HS2.out.cell 5; have q6 := HS2.out.cell 6; clear hB) | (go_at_call 26; refine (HF.out _ HB2.out).mono ?_; rintro e w3 ⟨rfl, hB⟩; have HB3 := Lib.hid (HB2.out.trans (hB.mono HB2.out.size)); have HS3 := Lib.hid (HS2.out.below hB HS2.out.lt); have HM3 := Lib.hid (HM2.out.below hB HM2.out.lt); have HR3 := Lib.hid (HR2.out.below hB HR2.out.lt); clear hB) | fail)
          clear c0 c1 c2 c3 c4 c5 c6 q0 q1 q2 q3 q4 q5 q6 m0 m1 HS2 HM2 HR2 HB2 HS1 HM1 HR1 HB1 HV HF
          have HH : Hid (∀ wx, Below w3.heap.size w3 wx → wx.cell? ⟨w.heap.size, 3, none⟩ = some (.string key) ∧ wx.cell? ⟨w.heap.size, 0, none⟩ = some (.int .i64 id) ∧ wx.cell? ⟨w.heap.size, 2, none⟩ = some (.int .i64 side) ∧ wx.cell? ⟨w.heap.size + 1, 1, none⟩ = some (.int .i64 mn) ∧ wx.cell? ⟨w.heap.size + 1, 2, none⟩ = some (.string mt)) := fun wx hB => ⟨(HS3.out.below hB HS3.out.lt).cell 3, (HS3.out.below hB HS3.out.lt).cell 0, (HS3.out.below hB HS3.out.lt).cell 2, (HM3.out.below hB HM3.out.lt).cell 1, (HM3.out.below hB HM3.out.lt).cell 2⟩
          refine wp_region_held_drew (S := (fun wx => wx.cell? ⟨w.heap.size, 3, none⟩ = some (.string key) ∧ wx.cell? ⟨w.heap.size, 0, none⟩ = some (.int .i64 id) ∧ wx.cell? ⟨w.heap.size, 2, none⟩ = some (.int .i64 side) ∧ wx.cell? ⟨w.heap.size + 1, 1, none⟩ = some (.int .i64 mn) ∧ wx.cell? ⟨w.heap.size + 1, 2, none⟩ = some (.string mt))) (by kernel_rfl) (HH.out _ (Below.refl _ w3).drew) (fun hHeld => ?_)
          refine' wpAnyH_take (i := 0) (v := ?v0C) rfl (by kernel_rfl) (by kernel_rfl) (by kernel_rfl) (fun _ _ _ h => h) (Or.inl ⟨by rfl, ?hy0C⟩) hHeld ?rest0C
          case hy0C => intro w hSw; (try dsimp only at hSw); go_simp; all_goals with_reducible rfl
          try simp only [sA, gA]
          refine' wpAnyH_take (i := 1) (v := ?v1C) rfl (by kernel_rfl) (by kernel_rfl) (by kernel_rfl) (fun _ _ _ h => h) (Or.inl ⟨by rfl, ?hy1C⟩) hHeld ?rest1C
          case hy1C => intro w hSw; (try dsimp only at hSw); go_simp; all_goals with_reducible rfl
          try simp only [sA, gA]
          refine' wpAnyH_take (i := 2) (v := ?v2C) rfl (by kernel_rfl) (by kernel_rfl) (by kernel_rfl) (fun _ _ _ h => h) (Or.inl ⟨by rfl, ?hy2C⟩) hHeld ?rest2C
          case hy2C => intro w hSw; (try dsimp only at hSw); go_simp; all_goals with_reducible rfl
          try simp only [sA, gA]
          refine' wpAnyH_take (i := 3) (v := ?v3C) rfl (by kernel_rfl) (by kernel_rfl) (by kernel_rfl) (fun _ _ _ h => h) (Or.inl ⟨by rfl, ?hy3C⟩) hHeld ?rest3C
          case hy3C => intro w hSw; (try dsimp only at hSw); go_simp; all_goals with_reducible rfl
          try simp only [sA, gA]
          refine' wpAnyH_take (i := 4) (v := ?v4C) rfl (by kernel_rfl) (by kernel_rfl) (by kernel_rfl) (fun _ _ _ h => h) (Or.inl ⟨by rfl, ?hy4C⟩) hHeld ?rest4C
          case hy4C => intro w hSw; (try dsimp only at hSw); go_simp; all_goals with_reducible rfl
          try simp only [sA, gA]
          refine' wpAnyH_take (i := 5) (v := ?v5C) rfl (by kernel_rfl) (by kernel_rfl) (by kernel_rfl) (fun _ _ _ h => h) (Or.inl ⟨by rfl, ?hy5C⟩) hHeld ?rest5C
          case hy5C => intro w hSw; (try dsimp only at hSw); go_simp; all_goals with_reducible rfl
          try simp only [sA, gA]
          refine' wpAnyH_take (i := 6) (v := ?v6C) rfl (by kernel_rfl) (by kernel_rfl) (by kernel_rfl) (fun _ _ _ h => h) (Or.inl ⟨by rfl, ?hy6C⟩) hHeld ?rest6C
          case hy6C => intro w hSw; (try dsimp only at hSw); go_simp; all_goals with_reducible rfl
          try simp only [sA, gA]
          refine' wpAnyH_take (i := 7) (v := ?v7C) rfl (by kernel_rfl) (by kernel_rfl) (by kernel_rfl) (fun _ _ _ h => h) (Or.inl ⟨by rfl, ?hy7C⟩) hHeld ?rest7C
          case hy7C => intro w hSw; (try dsimp only at hSw); go_simp; all_goals with_reducible rfl
          try simp only [sA, gA]
          refine' wpAnyH_take (i := 8) (v := ?v8C) rfl (by kernel_rfl) (by kernel_rfl) (by kernel_rfl) (fun _ _ _ h => h) (Or.inl ⟨by rfl, ?hy8C⟩) hHeld ?rest8C
          case hy8C => intro w hSw; (try dsimp only at hSw); go_simp; all_goals with_reducible rfl
          try simp only [sA, gA]
          refine' wpAnyH_take (i := 10) (v := ?v10C) rfl (by kernel_rfl) (by kernel_rfl) (by kernel_rfl) (fun _ _ _ h => h) (Or.inl ⟨by rfl, ?hy10C⟩) hHeld ?rest10C
          case hy10C => intro w hSw; (try dsimp only at hSw); go_simp; all_goals with_reducible rfl
          try simp only [sA, gA]
          refine' wpAnyH_take (i := 11) (v := ?v11C) rfl (by kernel_rfl) (by kernel_rfl) (by kernel_rfl) (fun _ _ _ h => h) (Or.inl ⟨by rfl, ?hy11C⟩) hHeld ?rest11C
          case hy11C => intro w hSw; (try dsimp only at hSw); go_simp; all_goals with_reducible rfl
          try simp only [sA, gA]
          refine wpAnyH_ready (rs := [9]) (by kernel_rfl) (by simp) ?_
          refine AllReadyH.cons rfl (fun K hK => ?_) AllReadyH.nil
          go_simp
          go_at_call 50
          refine (HC.out _ HB3.out.drew).mono ?_
          rintro e w4 ⟨rfl, hB⟩
          have HB4 := Lib.hid (HB3.out.drew.trans (hB.mono HB3.out.size))
          have HD4 := Lib.hid ((Below.refl w3.heap.size w3).drew.trans hB)
          clear hB
          go_wp2_with fail
          refine hK.out _ _ ?_ (fun hHeld2 => ?_)
          · exact HH.out _ HD4.out
          clear hK K hHeld
          have hHeld := hHeld2
          clear hHeld2
          try simp only [sA, gA]
          refine wpAnyH_ready (rs := [12]) (by kernel_rfl) (by simp) ?_
          refine AllReadyH.cons rfl (fun K hK => ?_) AllReadyH.nil
          go_simp
          go_at_call 52
          refine (HE.out _ HB4.out).mono ?_
          rintro e w5 ⟨rfl, hB⟩
          have HB5 := Lib.hid (HB4.out.trans (hB.mono HB4.out.size))
          have HD5 := Lib.hid (HD4.out.trans (hB.mono HD4.out.size))
          clear hB
          go_wp2_with fail
          refine hK.out _ _ ?_ (fun hHeld2 => ?_)
          · exact HH.out _ HD5.out
          clear hK K hHeld
          have hHeld := hHeld2
          clear hHeld2
          try simp only [sA, gA]
          refine' wpAnyH_take (i := 13) (v := ?v13C) rfl (by kernel_rfl) (by kernel_rfl) (by kernel_rfl) (fun _ _ _ h => h) (Or.inl ⟨by rfl, ?hy13C⟩) hHeld ?rest13C
          case hy13C => intro w hSw; (try dsimp only at hSw); go_simp; all_goals with_reducible rfl
          try simp only [sA, gA]
          refine' wpAnyH_take (i := 14) (v := ?v14C) rfl (by kernel_rfl) (by kernel_rfl) (by kernel_rfl) (fun _ _ _ h => h) (Or.inl ⟨by rfl, ?hy14C⟩) hHeld ?rest14C
          case hy14C => intro w hSw; (try dsimp only at hSw); go_simp; all_goals with_reducible rfl
          try simp only [sA, gA]
          refine' wpAnyH_take (i := 15) (v := ?v15C) rfl (by kernel_rfl) (by kernel_rfl) (by kernel_rfl) (fun _ _ _ h => h) (Or.inl ⟨by rfl, ?hy15C⟩) hHeld ?rest15C
          case hy15C => intro w hSw; (try dsimp only at hSw); go_simp; all_goals with_reducible rfl
          try simp only [sA, gA]
          refine' wpAnyH_take (i := 16) (v := ?v16C) rfl (by kernel_rfl) (by kernel_rfl) (by kernel_rfl) (fun _ _ _ h => h) (Or.inl ⟨by rfl, ?hy16C⟩) hHeld ?rest16C
          case hy16C => intro w hSw; (try dsimp only at hSw); go_simp; all_goals with_reducible rfl
          try simp only [sA, gA]
          refine' wpAnyH_take (i := 17) (v := ?v17C) rfl (by kernel_rfl) (by kernel_rfl) (by kernel_rfl) (fun _ _ _ h => h) (Or.inl ⟨by rfl, ?hy17C⟩) hHeld ?rest17C
          case hy17C => intro w hSw; (try dsimp only at hSw); go_simp; all_goals with_reducible rfl
          try simp only [sA, gA]
          refine wpAnyH_done (by kernel_rfl) ?_ _
          clear hHeld
          have HS5 := Lib.hid (HS3.out.below HD5.out HS3.out.lt)
          have HM5 := Lib.hid (HM3.out.below HD5.out HM3.out.lt)
          have HR5 := Lib.hid (HR3.out.below HD5.out HR3.out.lt)
          clear HS3 HM3 HR3 HB3 HB4 HD4 HD5 HH
          go_wp2_with (first | (refine wpList_store_mid rfl 46 _ _ rfl (w.heap.size + 1 + 1) 0 #[.int .i64 0, .int .i64 0, .int .i64 0, .string ⟨#[]⟩, .int .i64 0, .int .i64 0, .int .u64 0, .int .i64 0, .int .i64 0, .string ⟨#[]⟩, .string ⟨#[]⟩, .int .i64 8] rfl rfl (there_of_blk (o := 0) HR5.out (Nat.le_refl _)) infoSld (all_oneCell_toArray (sldC_one noSes noMsg noT 8)) ?_) | fail)
          have hL := blk_setWhole HR5.out (#[.int .i64 0, .int .i64 0, .int .i64 0, .string ⟨#[]⟩, .int .i64 0, .int .i64 0, .int .u64 0, .int .i64 0, .int .i64 0, .string ⟨#[]⟩, .string ⟨#[]⟩, .int .i64 8] : Array Value).toList rfl
          have hBL := below_setCells (g := (w.heap.size + 1 + 1)) (by omega) (#[.int .i64 0, .int .i64 0, .int .i64 0, .string ⟨#[]⟩, .int .i64 0, .int .i64 0, .int .u64 0, .int .i64 0, .int .i64 0, .string ⟨#[]⟩, .string ⟨#[]⟩, .int .i64 8] : Array Value).toList 0 _ HB5.out
          exact bodyPost_ret (v := .agg #[.int .i64 0, .int .i64 0, .int .i64 0, .string ⟨#[]⟩, .int .i64 0, .int .i64 0, .int .u64 0, .int .i64 0, .int .i64 0, .string ⟨#[]⟩, .string ⟨#[]⟩, .int .i64 8]) (results_c (P := Tryd.prog) rfl _ _ (w.heap.size + 1 + 1) 46 #[.int .i64 0, .int .i64 0, .int .i64 0, .string ⟨#[]⟩, .int .i64 0, .int .i64 0, .int .u64 0, .int .i64 0, .int .i64 0, .string ⟨#[]⟩, .string ⟨#[]⟩, .int .i64 8] _ rfl hL Tryd.underlying46 rfl infoSld) rfl ⟨rfl, hBL⟩
      · have hfr' : freshP s m.num = false := Bool.eq_false_iff.2 hfr
        rw [hfr'] at HF
        have hJ : receiveP s m = (noSes, noT, 17) := by unfold receiveP; rw [if_pos hv, if_pos hms, if_neg hfr]
        rw [hJ]
        clear hJ hK hs
        have x3 : (m.sess != s.id) = false := by rw [hms]; exact bne_self_eq_false _
        clear hfr hfr' hms hv p1 p2 p5 p6 p7 p8 hm hmn
        obtain ⟨id, role, side, key, sent, top, seen⟩ := s
        obtain ⟨ms, mn, mt⟩ := m
        unfold sesV sesC at HV HF
        unfold sesV sesC msgV msgC sldV sldC
        dsimp only at *
        go_enter Tryd.func20, Tryd.ntmps20
        go_upto_region 1 with fail
        refine world_is (P := fun W => Code.wp _ _ _ _ W) (fun W1 hW1 => ?_)
        have HS1 : Hid (Blk W1 w.heap.size 32 #[.int .i64 id, .int .i64 role, .int .i64 side, .string key, .int .i64 sent, .int .i64 top, .int .u64 (seen : Int)]) := by unfold Hid; rw [← hW1]; exact ((Blk.new w _ _).alloc _).alloc _
        have HM1 : Hid (Blk W1 (w.heap.size + 1) 42 #[.int .i64 ms, .int .i64 mn, .string mt]) := by unfold Hid; rw [← hW1]; exact (blk_new2 _ _ _ _).alloc _
        have HR1 : Hid (Blk W1 (w.heap.size + 1 + 1) 46 zSld) := by unfold Hid; rw [← hW1]; exact blk_new3 _ _ _ _ _
        have HB1 : Hid (Below w.heap.size w W1) := by unfold Hid; rw [← hW1]; exact ((Below.refl w.heap.size w).alloc (Nat.le_refl _) _).alloc (by rw [World.size_alloc]; exact Nat.le_succ _) _ |>.alloc (by rw [World.size_alloc, World.size_alloc]; omega) _
        clear hW1
        have c0 := HS1.out.cell 0
        have c1 := HS1.out.cell 1
        have c2 := HS1.out.cell 2
        have c3 := HS1.out.cell 3
        have c4 := HS1.out.cell 4
        have c5 := HS1.out.cell 5
        have c6 := HS1.out.cell 6
        go_wp2_with (first | (go_at_call 22; refine (HV.out _ HB1.out).mono ?_; rintro e w2 ⟨rfl, hB⟩; have HB2 := Lib.hid (HB1.out.trans (hB.mono HB1.out.size)); have HS2 := Lib.hid (HS1.out.below hB HS1.out.lt); have HM2 := Lib.hid (HM1.out.below hB HM1.out.lt); have HR2 := Lib.hid (HR1.out.below hB HR1.out.lt); have q0 := HS2.out.cell 0; have m0 := HM2.out.cell 0; have m1 := HM2.out.cell 1; have q1 := HS2.out.cell 1; have q2 := HS2.out.cell 2; have q3 := HS2.out.cell 3; have q4 := HS2.out.cell 4; have q5 := HS2.out.cell 5; have q6 := HS2.out.cell 6; clear hB) | (go_at_call 26; refine (HF.out _ HB2.out).mono ?_; rintro e w3 ⟨rfl, hB⟩; have HB3 := Lib.hid (HB2.out.trans (hB.mono HB2.out.size)); have HS3 := Lib.hid (HS2.out.below hB HS2.out.lt); have HM3 := Lib.hid (HM2.out.below hB HM2.out.lt); have HR3 := Lib.hid (HR2.out.below hB HR2.out.lt); clear hB) | (refine wpList_store_mid rfl 46 _ _ rfl (w.heap.size + 1 + 1) 0 #[.int .i64 0, .int .i64 0, .int .i64 0, .string ⟨#[]⟩, .int .i64 0, .int .i64 0, .int .u64 0, .int .i64 0, .int .i64 0, .string ⟨#[]⟩, .string ⟨#[]⟩, .int .i64 17] rfl rfl (there_of_blk (o := 0) HR3.out (Nat.le_refl _)) infoSld (all_oneCell_toArray (sldC_one noSes noMsg noT 17)) ?_) | fail)
        have hL := blk_setWhole HR3.out (#[.int .i64 0, .int .i64 0, .int .i64 0, .string ⟨#[]⟩, .int .i64 0, .int .i64 0, .int .u64 0, .int .i64 0, .int .i64 0, .string ⟨#[]⟩, .string ⟨#[]⟩, .int .i64 17] : Array Value).toList rfl
        have hBL := below_setCells (g := (w.heap.size + 1 + 1)) (by omega) (#[.int .i64 0, .int .i64 0, .int .i64 0, .string ⟨#[]⟩, .int .i64 0, .int .i64 0, .int .u64 0, .int .i64 0, .int .i64 0, .string ⟨#[]⟩, .string ⟨#[]⟩, .int .i64 17] : Array Value).toList 0 _ HB3.out
        exact bodyPost_ret (v := .agg #[.int .i64 0, .int .i64 0, .int .i64 0, .string ⟨#[]⟩, .int .i64 0, .int .i64 0, .int .u64 0, .int .i64 0, .int .i64 0, .string ⟨#[]⟩, .string ⟨#[]⟩, .int .i64 17]) (results_c (P := Tryd.prog) rfl _ _ (w.heap.size + 1 + 1) 46 #[.int .i64 0, .int .i64 0, .int .i64 0, .string ⟨#[]⟩, .int .i64 0, .int .i64 0, .int .u64 0, .int .i64 0, .int .i64 0, .string ⟨#[]⟩, .string ⟨#[]⟩, .int .i64 17] _ rfl hL Tryd.underlying46 rfl infoSld) rfl ⟨rfl, hBL⟩
    · have x3 : (m.sess != s.id) = true := by rw [bne_iff_ne]; exact hms
      have hJ : receiveP s m = (noSes, noT, 11) := by unfold receiveP; rw [if_pos hv, if_neg hms]
      rw [hJ]
      clear hJ hK hs
      clear hms hv p1 p2 p5 p6 p7 p8 hm hmn
      obtain ⟨id, role, side, key, sent, top, seen⟩ := s
      obtain ⟨ms, mn, mt⟩ := m
      unfold sesV sesC at HV HF
      unfold sesV sesC msgV msgC sldV sldC
      dsimp only at *
      go_enter Tryd.func20, Tryd.ntmps20
      go_upto_region 1 with fail
      refine world_is (P := fun W => Code.wp _ _ _ _ W) (fun W1 hW1 => ?_)
      have HS1 : Hid (Blk W1 w.heap.size 32 #[.int .i64 id, .int .i64 role, .int .i64 side, .string key, .int .i64 sent, .int .i64 top, .int .u64 (seen : Int)]) := by unfold Hid; rw [← hW1]; exact ((Blk.new w _ _).alloc _).alloc _
      have HM1 : Hid (Blk W1 (w.heap.size + 1) 42 #[.int .i64 ms, .int .i64 mn, .string mt]) := by unfold Hid; rw [← hW1]; exact (blk_new2 _ _ _ _).alloc _
      have HR1 : Hid (Blk W1 (w.heap.size + 1 + 1) 46 zSld) := by unfold Hid; rw [← hW1]; exact blk_new3 _ _ _ _ _
      have HB1 : Hid (Below w.heap.size w W1) := by unfold Hid; rw [← hW1]; exact ((Below.refl w.heap.size w).alloc (Nat.le_refl _) _).alloc (by rw [World.size_alloc]; exact Nat.le_succ _) _ |>.alloc (by rw [World.size_alloc, World.size_alloc]; omega) _
      clear hW1
      have c0 := HS1.out.cell 0
      have c1 := HS1.out.cell 1
      have c2 := HS1.out.cell 2
      have c3 := HS1.out.cell 3
      have c4 := HS1.out.cell 4
      have c5 := HS1.out.cell 5
      have c6 := HS1.out.cell 6
      go_wp2_with (first | (go_at_call 22; refine (HV.out _ HB1.out).mono ?_; rintro e w2 ⟨rfl, hB⟩; have HB2 := Lib.hid (HB1.out.trans (hB.mono HB1.out.size)); have HS2 := Lib.hid (HS1.out.below hB HS1.out.lt); have HM2 := Lib.hid (HM1.out.below hB HM1.out.lt); have HR2 := Lib.hid (HR1.out.below hB HR1.out.lt); have q0 := HS2.out.cell 0; have m0 := HM2.out.cell 0; have m1 := HM2.out.cell 1; have q1 := HS2.out.cell 1; have q2 := HS2.out.cell 2; have q3 := HS2.out.cell 3; have q4 := HS2.out.cell 4; have q5 := HS2.out.cell 5; have q6 := HS2.out.cell 6; clear hB) | (refine wpList_store_mid rfl 46 _ _ rfl (w.heap.size + 1 + 1) 0 #[.int .i64 0, .int .i64 0, .int .i64 0, .string ⟨#[]⟩, .int .i64 0, .int .i64 0, .int .u64 0, .int .i64 0, .int .i64 0, .string ⟨#[]⟩, .string ⟨#[]⟩, .int .i64 11] rfl rfl (there_of_blk (o := 0) HR2.out (Nat.le_refl _)) infoSld (all_oneCell_toArray (sldC_one noSes noMsg noT 11)) ?_) | fail)
      have hL := blk_setWhole HR2.out (#[.int .i64 0, .int .i64 0, .int .i64 0, .string ⟨#[]⟩, .int .i64 0, .int .i64 0, .int .u64 0, .int .i64 0, .int .i64 0, .string ⟨#[]⟩, .string ⟨#[]⟩, .int .i64 11] : Array Value).toList rfl
      have hBL := below_setCells (g := (w.heap.size + 1 + 1)) (by omega) (#[.int .i64 0, .int .i64 0, .int .i64 0, .string ⟨#[]⟩, .int .i64 0, .int .i64 0, .int .u64 0, .int .i64 0, .int .i64 0, .string ⟨#[]⟩, .string ⟨#[]⟩, .int .i64 11] : Array Value).toList 0 _ HB2.out
      exact bodyPost_ret (v := .agg #[.int .i64 0, .int .i64 0, .int .i64 0, .string ⟨#[]⟩, .int .i64 0, .int .i64 0, .int .u64 0, .int .i64 0, .int .i64 0, .string ⟨#[]⟩, .string ⟨#[]⟩, .int .i64 11]) (results_c (P := Tryd.prog) rfl _ _ (w.heap.size + 1 + 1) 46 #[.int .i64 0, .int .i64 0, .int .i64 0, .string ⟨#[]⟩, .int .i64 0, .int .i64 0, .int .u64 0, .int .i64 0, .int .i64 0, .string ⟨#[]⟩, .string ⟨#[]⟩, .int .i64 11] _ rfl hL Tryd.underlying46 rfl infoSld) rfl ⟨rfl, hBL⟩
  · have hv' : validP s = false := Bool.eq_false_iff.2 hv
    rw [hv'] at HV
    have hJ : receiveP s m = (noSes, noT, 1) := by unfold receiveP; rw [if_neg hv]
    rw [hJ]
    clear hJ hK hs
    clear hv hv' hm hmn
    obtain ⟨id, role, side, key, sent, top, seen⟩ := s
    obtain ⟨ms, mn, mt⟩ := m
    unfold sesV sesC at HV HF
    unfold sesV sesC msgV msgC sldV sldC
    dsimp only at *
    go_enter Tryd.func20, Tryd.ntmps20
    go_upto_region 1 with fail
    refine world_is (P := fun W => Code.wp _ _ _ _ W) (fun W1 hW1 => ?_)
    have HS1 : Hid (Blk W1 w.heap.size 32 #[.int .i64 id, .int .i64 role, .int .i64 side, .string key, .int .i64 sent, .int .i64 top, .int .u64 (seen : Int)]) := by unfold Hid; rw [← hW1]; exact ((Blk.new w _ _).alloc _).alloc _
    have HM1 : Hid (Blk W1 (w.heap.size + 1) 42 #[.int .i64 ms, .int .i64 mn, .string mt]) := by unfold Hid; rw [← hW1]; exact (blk_new2 _ _ _ _).alloc _
    have HR1 : Hid (Blk W1 (w.heap.size + 1 + 1) 46 zSld) := by unfold Hid; rw [← hW1]; exact blk_new3 _ _ _ _ _
    have HB1 : Hid (Below w.heap.size w W1) := by unfold Hid; rw [← hW1]; exact ((Below.refl w.heap.size w).alloc (Nat.le_refl _) _).alloc (by rw [World.size_alloc]; exact Nat.le_succ _) _ |>.alloc (by rw [World.size_alloc, World.size_alloc]; omega) _
    clear hW1
    have c0 := HS1.out.cell 0
    have c1 := HS1.out.cell 1
    have c2 := HS1.out.cell 2
    have c3 := HS1.out.cell 3
    have c4 := HS1.out.cell 4
    have c5 := HS1.out.cell 5
    have c6 := HS1.out.cell 6
    go_wp2_with (first | (go_at_call 22; refine (HV.out _ HB1.out).mono ?_; rintro e w2 ⟨rfl, hB⟩; have HB2 := Lib.hid (HB1.out.trans (hB.mono HB1.out.size)); have HS2 := Lib.hid (HS1.out.below hB HS1.out.lt); have HM2 := Lib.hid (HM1.out.below hB HM1.out.lt); have HR2 := Lib.hid (HR1.out.below hB HR1.out.lt); have q0 := HS2.out.cell 0; have m0 := HM2.out.cell 0; have m1 := HM2.out.cell 1; have q1 := HS2.out.cell 1; have q2 := HS2.out.cell 2; have q3 := HS2.out.cell 3; have q4 := HS2.out.cell 4; have q5 := HS2.out.cell 5; have q6 := HS2.out.cell 6; clear hB) | (refine wpList_store_mid rfl 46 _ _ rfl (w.heap.size + 1 + 1) 0 #[.int .i64 0, .int .i64 0, .int .i64 0, .string ⟨#[]⟩, .int .i64 0, .int .i64 0, .int .u64 0, .int .i64 0, .int .i64 0, .string ⟨#[]⟩, .string ⟨#[]⟩, .int .i64 1] rfl rfl (there_of_blk (o := 0) HR2.out (Nat.le_refl _)) infoSld (all_oneCell_toArray (sldC_one noSes noMsg noT 1)) ?_) | fail)
    have hL := blk_setWhole HR2.out (#[.int .i64 0, .int .i64 0, .int .i64 0, .string ⟨#[]⟩, .int .i64 0, .int .i64 0, .int .u64 0, .int .i64 0, .int .i64 0, .string ⟨#[]⟩, .string ⟨#[]⟩, .int .i64 1] : Array Value).toList rfl
    have hBL := below_setCells (g := (w.heap.size + 1 + 1)) (by omega) (#[.int .i64 0, .int .i64 0, .int .i64 0, .string ⟨#[]⟩, .int .i64 0, .int .i64 0, .int .u64 0, .int .i64 0, .int .i64 0, .string ⟨#[]⟩, .string ⟨#[]⟩, .int .i64 1] : Array Value).toList 0 _ HB2.out
    exact bodyPost_ret (v := .agg #[.int .i64 0, .int .i64 0, .int .i64 0, .string ⟨#[]⟩, .int .i64 0, .int .i64 0, .int .u64 0, .int .i64 0, .int .i64 0, .string ⟨#[]⟩, .string ⟨#[]⟩, .int .i64 1]) (results_c (P := Tryd.prog) rfl _ _ (w.heap.size + 1 + 1) 46 #[.int .i64 0, .int .i64 0, .int .i64 0, .string ⟨#[]⟩, .int .i64 0, .int .i64 0, .int .u64 0, .int .i64 0, .int .i64 0, .string ⟨#[]⟩, .string ⟨#[]⟩, .int .i64 1] _ rfl hL Tryd.underlying46 rfl infoSld) rfl ⟨rfl, hBL⟩
end Go.Proofs.YtbhagfdkipgggaaDoor
