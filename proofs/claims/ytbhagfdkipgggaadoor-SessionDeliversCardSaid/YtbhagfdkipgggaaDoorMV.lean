/-
  The cipher's specification in plain words: four bytes, added up to a word.
  The cipher's specification: the rotation to the left, its walk.
  The cipher's specification: a word of four bytes, its walk.
  The cipher's specification: a quarter round, its walk.
-/
import Derived.Test.YtbhagfdkipgggaaDoorME
import Derived.Test.YtbhagfdkipgggaaDoorMT
import Derived.Test.YtbhagfdkipgggaaDoorMF
import Derived.Test.YtbhagfdkipgggaaDoorMB
namespace Go.Proofs.YtbhagfdkipgggaaDoor
theorem w8_lt (a : UInt8) : (w8 a).toNat < 256 := by
  unfold w8
  have h := a.toNat_lt
  rw [UInt32.toNat_ofNat']
  omega
theorem add_or (x y : UInt32) (s : Nat) (hs : s < 32) (hx : x.toNat < 2 ^ s) (hy : x.toNat + 2 ^ s * y.toNat < 4294967296) :
    wadd x (wshl y s) = wor x (wshl y s) ∧ (wadd x (wshl y s)).toNat = x.toNat + 2 ^ s * y.toNat := by
  have h := shl_eq y s (by omega)
  have hl : (wshl y s).toNat = 2 ^ s * y.toNat := by
    rw [Nat.min_eq_left (by omega)] at h
    have h2 : ((2 ^ s * y.toNat : Nat) : Int) = (y.toNat : Int) * 2 ^ s := by rw [Int.natCast_mul, Int.natCast_pow, Int.mul_comm]; rfl
    rw [← h2] at h
    omega
  have ha : (wadd x (wshl y s)).toNat = x.toNat + 2 ^ s * y.toNat := by
    unfold wadd
    rw [UInt32.toNat_add, hl]
    omega
  refine ⟨?_, ha⟩
  apply UInt32.toNat_inj.1
  rw [ha]
  unfold wor
  rw [UInt32.toNat_or, hl, Nat.or_comm, ← Nat.two_pow_add_eq_or_of_lt hx, Nat.add_comm]
theorem wadd_or (a b c d : UInt8) : wadd (wadd (wadd (w8 a) (wshl (w8 b) 8)) (wshl (w8 c) 16)) (wshl (w8 d) 24) = wor (wor (wor (w8 a) (wshl (w8 b) 8)) (wshl (w8 c) 16)) (wshl (w8 d) 24) := by
  have ha := w8_lt a
  have hb := w8_lt b
  have hc := w8_lt c
  have hd := w8_lt d
  generalize w8 a = x at *
  generalize w8 b = y at *
  generalize w8 c = z at *
  generalize w8 d = u at *
  obtain ⟨e1, n1⟩ := add_or x y 8 (by omega) (by omega) (by omega)
  rw [← e1]
  generalize wadd x (wshl y 8) = p at *
  obtain ⟨e2, n2⟩ := add_or p z 16 (by omega) (by omega) (by omega)
  rw [← e2]
  generalize wadd p (wshl z 16) = q at *
  exact (add_or q u 24 (by omega) (by omega) (by omega)).1
theorem getW_add (a b c d : UInt8) (r : List UInt8) : getW (a :: b :: c :: d :: r) = wadd (wadd (wadd (w8 a) (wshl (w8 b) 8)) (wshl (w8 c) 16)) (wshl (w8 d) 24) := by
  rw [wadd_or]
  rfl
end Go.Proofs.YtbhagfdkipgggaaDoor
namespace Go.Proofs.YtbhagfdkipgggaaDoor
open Go.RowKit Go.Shelf
attribute [local go_sem] Oper.semAt_some
theorem r03rotl_any (w : World) (x : UInt32) (n s : Nat) (h1 : 1 ≤ n) (h2 : n ≤ 31) (hs : 32 - n = s) :
    Calls Tryd.prog 121 #[u32v x, .int .i64 n] w fun e w' => e = .returned (u32v (rotl x n)) ∧ w' = w.drew := by
  have hr := shr_eq x s (by omega)
  have hl := shl_eq x n (by omega)
  have hr2 : (x.toNat : Int) / 2 ^ s = ((wshr x s).toNat : Int) := by rw [← hr, Nat.min_eq_left (by omega)]
  have hl2 : (x.toNat : Int) * 2 ^ n % 4294967296 = ((wshl x n).toNat : Int) := by rw [← hl, Nat.min_eq_left (by omega)]
  have hl3 : IntKind.u32.wrap ((x.toNat : Int) * 2 ^ n) = ((wshl x n).toNat : Int) := by rw [← hl2]; simp [IntKind.wrap, IntKind.bits, IntKind.signed]
  have hws : IntKind.i64.wrap (s : Int) = (s : Int) := i64_small s (by omega)
  have hw' : (32 : Int) - (n : Int) = (s : Int) := by clear hr hl hr2 hl2 hl3 hws; omega
  have hw : wrap64 (32 - (n : Int)) = (s : Int) := by rw [hw']; clear hr hl hr2 hl2 hl3 hws; unfold wrap64; omega
  have n0 : (0 : Int) ≤ (n : Int) := by clear hr hl hr2 hl2 hl3 hws hw hw'; omega
  have n1 : ¬ (n : Int) < 0 := by clear hr hl hr2 hl2 hl3 hws hw hw'; omega
  have s0 : (0 : Int) ≤ (s : Int) := by clear hr hl hr2 hl2 hl3 hws hw hw'; omega
  have s1 : ¬ (s : Int) < 0 := by clear hr hl hr2 hl2 hl3 hws hw hw'; omega
  have ho := w_or (wshl x n) (wshr x s)
  have hE : rotl x n = wor (wshl x n) (wshr x s) := by unfold rotl; rw [hs]
  rw [hE]
  clear hE hs h1 h2
  go_enter Tryd.func121, Tryd.ntmps121
  go_wp2_with fail
  go_region
  go_wp2_with fail
  go_ret
  exact ⟨rfl, rfl⟩
end Go.Proofs.YtbhagfdkipgggaaDoor
namespace Go.Proofs.YtbhagfdkipgggaaDoor
open Go.RowKit Go.Shelf
attribute [local go_sem] Oper.semAt_some w_add w_add'
theorem r03word_any (w : World) (s : ByteArray) (h : 4 ≤ s.size) :
    Calls Tryd.prog 107 #[.string s] w fun e w' => e = .returned (u32v (getW (bl s))) ∧ w' = w.drew := by
  have hl : 4 ≤ (bl s).length := by rw [bl_len]; exact h
  obtain ⟨b0, e0⟩ : ∃ x, (bl s)[0]? = some x := ⟨_, List.getElem?_eq_getElem (by omega)⟩
  obtain ⟨b1, e1⟩ : ∃ x, (bl s)[1]? = some x := ⟨_, List.getElem?_eq_getElem (by omega)⟩
  obtain ⟨b2, e2⟩ : ∃ x, (bl s)[2]? = some x := ⟨_, List.getElem?_eq_getElem (by omega)⟩
  obtain ⟨b3, e3⟩ : ∃ x, (bl s)[3]? = some x := ⟨_, List.getElem?_eq_getElem (by omega)⟩
  have i0 : ∀ wx, (Instr.index 9 (.string s) (.int .i64 0)).run Tryd.prog wx = .ok (.int .u8 (b0.toNat : Int)) wx := fun wx => text_index wx s 0 b0 e0
  have i1 : ∀ wx, (Instr.index 9 (.string s) (.int .i64 1)).run Tryd.prog wx = .ok (.int .u8 (b1.toNat : Int)) wx := fun wx => text_index wx s 1 b1 e1
  have i2 : ∀ wx, (Instr.index 9 (.string s) (.int .i64 2)).run Tryd.prog wx = .ok (.int .u8 (b2.toNat : Int)) wx := fun wx => text_index wx s 2 b2 e2
  have i3 : ∀ wx, (Instr.index 9 (.string s) (.int .i64 3)).run Tryd.prog wx = .ok (.int .u8 (b3.toNat : Int)) wx := fun wx => text_index wx s 3 b3 e3
  have hW : Hid (getW (bl s) = wadd (wadd (wadd (w8 b0) (wshl (w8 b1) 8)) (wshl (w8 b2) 16)) (wshl (w8 b3) 24)) := by
    rw [wadd_or]
    unfold Hid getW
    simp only [List.getD_eq_getElem?_getD, e0, e1, e2, e3, Option.getD_some]
  have c0 := byte_word b0
  have c1 := byte_word b1
  have c2 := byte_word b2
  have c3 := byte_word b3
  have d0 := byte_word' b0
  have d1 := byte_word' b1
  have d2 := byte_word' b2
  have d3 := byte_word' b3
  have s1 := shl8 (w8 b1)
  have s2 := shl16w (w8 b2)
  have s3 := shl24w (w8 b3)
  clear hl e0 e1 e2 e3
  go_enter Tryd.func107, Tryd.ntmps107
  go_wp2_with fail
  go_region
  go_wp2_with fail
  go_ret
  exact ⟨by rw [hW.out]; rfl, rfl⟩
end Go.Proofs.YtbhagfdkipgggaaDoor
namespace Go.Proofs.YtbhagfdkipgggaaDoor
open Go.RowKit Go.Shelf
attribute [local go_sem] Oper.semAt_some w_xor w_add w_add'
set_option maxRecDepth 100000 in
set_option maxHeartbeats 6400000 in
theorem rquarter_any (w : World) (a b c d : Nat) (S0 : List UInt32) (hl : S0.length = 16) (ha : a < 16) (hb : b < 16) (hc : c < 16) (hd : d < 16) :
    Calls Tryd.prog 115 #[.agg (S0.map u32v).toArray, .int .i64 a, .int .i64 b, .int .i64 c, .int .i64 d] w fun e w' => e = .returned (.agg ((qrt S0 a b c d).map u32v).toArray) ∧ Below w.heap.size w w' := by
  have hl0 := Lib.hid hl
  have ia := fun wx g => arr16_index wx g a ha a rfl
  have ib := fun wx g => arr16_index wx g b hb b rfl
  have ic := fun wx g => arr16_index wx g c hc c rfl
  have id' := fun wx g => arr16_index wx g d hd d rfl
  have h1 := Lib.hid ha
  have h2 := Lib.hid hb
  have h3 := Lib.hid hc
  have h4 := Lib.hid hd
  clear hl ha hb hc hd
  rename Hid (a < 16) => ha
  rename Hid (b < 16) => hb
  rename Hid (c < 16) => hc
  rename Hid (d < 16) => hd
  go_enter Tryd.func115, Tryd.ntmps115
  go_upto_region 1 with fail
  refine world_is (P := fun W => Code.wp _ _ _ _ W) (fun W0 hW0 => ?_)
  have H0 : Hid (RndAt w W0 S0) := by
    have b1 := (Below.refl _ w).alloc (Nat.le_refl _) (Obj.cells (S0.map u32v).toArray 122)
    have hres : ∃ cs, Blk W0 (w.heap.size + 1) 122 cs ∧ cs.size = 16 := by rw [← hW0]; exact ⟨z16, blk_new2 _ _ _ _, rfl⟩
    refine ⟨?_, hres, ?_⟩
    · rw [← hW0]; exact (Blk.new w _ _).alloc _
    · rw [← hW0]; exact b1.alloc b1.size _
  have HB0 := Lib.hid H0.out.st
  have HG0 : Hid (W0.grownBy W0 (some w.heap.size)) := ⟨rfl, rfl, rfl, Nat.le_refl _, fun _ _ _ => rfl⟩
  clear hW0
  go_wp2_with fail
  obtain ⟨x0, hx0⟩ : ∃ x, S0.getD a 0 = x := ⟨_, rfl⟩
  obtain ⟨y0, hy0⟩ : ∃ y, S0.getD b 0 = y := ⟨_, rfl⟩
  have p0 : W0.cell? ⟨w.heap.size, a, none⟩ = some (u32v x0) := by rw [← hx0]; exact blkW_cell HB0.out (by rw [hl0.out]; exact ha.out)
  have q0 : W0.cell? ⟨w.heap.size, b, none⟩ = some (u32v y0) := by rw [← hy0]; exact blkW_cell HB0.out (by rw [hl0.out]; exact hb.out)
  have f0 := HB0.out.frozen a
  refine wp_region_last (S := (fun w' => w'.cell? ⟨w.heap.size, a, none⟩ = some (u32v x0) ∧ w'.cell? ⟨w.heap.size, b, none⟩ = some (u32v y0))) 9 (by kernel_rfl) ⟨p0, q0⟩ (fun hHeld => ?_)
  refine' wpAnyK_take (i := 0) (v := ?v0r0) rfl (by kernel_rfl) (by kernel_rfl) (by kernel_rfl) (by kernel_rfl) (by kernel_rfl) (fun _ _ _ h => h) (Or.inl ⟨by rfl, ?hy0r0⟩) hHeld ?rest0r0
  case hy0r0 => intro w hSw; (try dsimp only at hSw); go_simp; all_goals with_reducible rfl
  try simp only [sA, gA]
  refine' wpAnyK_take (i := 1) (v := ?v1r0) rfl (by kernel_rfl) (by kernel_rfl) (by kernel_rfl) (by kernel_rfl) (by kernel_rfl) (fun _ _ _ h => h) (Or.inl ⟨by rfl, ?hy1r0⟩) hHeld ?rest1r0
  case hy1r0 => intro w hSw; (try dsimp only at hSw); go_simp; all_goals with_reducible rfl
  try simp only [sA, gA]
  refine' wpAnyK_take (i := 2) (v := ?v2r0) rfl (by kernel_rfl) (by kernel_rfl) (by kernel_rfl) (by kernel_rfl) (by kernel_rfl) (fun _ _ _ h => h) (Or.inl ⟨by rfl, ?hy2r0⟩) hHeld ?rest2r0
  case hy2r0 => intro w hSw; (try dsimp only at hSw); go_simp; all_goals with_reducible rfl
  try simp only [sA, gA]
  refine' wpAnyK_take (i := 3) (v := ?v3r0) rfl (by kernel_rfl) (by kernel_rfl) (by kernel_rfl) (by kernel_rfl) (by kernel_rfl) (fun _ _ _ h => h) (Or.inl ⟨by rfl, ?hy3r0⟩) hHeld ?rest3r0
  case hy3r0 => intro w hSw; (try dsimp only at hSw); go_simp; all_goals with_reducible rfl
  try simp only [sA, gA]
  refine' wpAnyK_take (i := 4) (v := ?v4r0) rfl (by kernel_rfl) (by kernel_rfl) (by kernel_rfl) (by kernel_rfl) (by kernel_rfl) (fun _ _ _ h => h) (Or.inl ⟨by rfl, ?hy4r0⟩) hHeld ?rest4r0
  case hy4r0 => intro w hSw; (try dsimp only at hSw); go_simp; all_goals with_reducible rfl
  try simp only [sA, gA]
  refine' wpAnyK_take (i := 5) (v := ?v5r0) rfl (by kernel_rfl) (by kernel_rfl) (by kernel_rfl) (by kernel_rfl) (by kernel_rfl) (fun _ _ _ h => h) (Or.inl ⟨by rfl, ?hy5r0⟩) hHeld ?rest5r0
  case hy5r0 => intro w hSw; (try dsimp only at hSw); go_simp; all_goals with_reducible rfl
  try simp only [sA, gA]
  refine' wpAnyK_take (i := 6) (v := ?v6r0) rfl (by kernel_rfl) (by kernel_rfl) (by kernel_rfl) (by kernel_rfl) (by kernel_rfl) (fun _ _ _ h => h) (Or.inl ⟨by rfl, ?hy6r0⟩) hHeld ?rest6r0
  case hy6r0 => intro w hSw; (try dsimp only at hSw); go_simp; all_goals with_reducible rfl
  try simp only [sA, gA]
  refine' wpAnyK_take (i := 7) (v := ?v7r0) rfl (by kernel_rfl) (by kernel_rfl) (by kernel_rfl) (by kernel_rfl) (by kernel_rfl) (fun _ _ _ h => h) (Or.inl ⟨by rfl, ?hy7r0⟩) hHeld ?rest7r0
  case hy7r0 => intro w hSw; (try dsimp only at hSw); go_simp; all_goals with_reducible rfl
  try simp only [sA, gA]
  refine' wpAnyK_take (i := 8) (v := ?v8r0) rfl (by kernel_rfl) (by kernel_rfl) (by kernel_rfl) (by kernel_rfl) (by kernel_rfl) (fun _ _ _ h => h) (Or.inl ⟨by rfl, ?hy8r0⟩) hHeld ?rest8r0
  case hy8r0 => intro w hSw; (try dsimp only at hSw); go_simp; all_goals with_reducible rfl
  try simp only [sA, gA]
  refine wpAnyK_ready (rs := [9]) (by kernel_rfl) (by simp) ?_
  refine AllReadyK.last rfl (fun K hK => ?_)
  go_simp
  refine hK.out _ _ ?_
  clear hK K
  try simp only [sA, gA]
  refine wpAnyK_done (by kernel_rfl) ?_ _
  clear hHeld
  go_upto_region 2 with fail
  refine world_is (P := fun W => Code.wp _ _ _ _ W) (fun W1 hW1 => ?_)
  have hB1 : Blk W1 w.heap.size 122 ((S0.set a (wadd x0 y0)).map u32v).toArray := by rw [← hW1]; exact blkW_set HB0.out a (wadd x0 y0)
  have hG1 : W0.grownBy W1 (some w.heap.size) := by rw [← hW1]; exact grown_tr HG0.out (grown_tr (grown_set' W0 w.heap.size a (u32v (wadd x0 y0))) (grown_drew' _ _))
  clear hW1
  have hn0 : S0.set a (wadd x0 y0) = stAdd S0 a b := by rw [← hx0, ← hy0]; rfl
  rw [hn0] at hB1
  have hl1 : Hid ((stAdd S0 a b).length = 16) := by unfold Hid; rw [stAdd_len]; exact hl0.out
  obtain ⟨S1, hS1⟩ : ∃ S, stAdd S0 a b = S := ⟨_, rfl⟩
  rw [hS1] at hB1 hl1
  have HB1 := Lib.hid hB1
  have HG1 := Lib.hid hG1
  have HS1 := Lib.hid hS1
  clear p0 q0 f0 hx0 hy0 hB1 hG1 hS1 hn0 HB0 HG0 hl0
  obtain ⟨x1, hx1⟩ : ∃ x, S1.getD d 0 = x := ⟨_, rfl⟩
  obtain ⟨y1, hy1⟩ : ∃ y, S1.getD a 0 = y := ⟨_, rfl⟩
  have p1 : W1.cell? ⟨w.heap.size, d, none⟩ = some (u32v x1) := by rw [← hx1]; exact blkW_cell HB1.out (by rw [hl1.out]; exact hd.out)
  have q1 : W1.cell? ⟨w.heap.size, a, none⟩ = some (u32v y1) := by rw [← hy1]; exact blkW_cell HB1.out (by rw [hl1.out]; exact ha.out)
  have f1 := HB1.out.frozen d
  refine wp_region_last (S := (fun w' => w'.cell? ⟨w.heap.size, d, none⟩ = some (u32v x1) ∧ w'.cell? ⟨w.heap.size, a, none⟩ = some (u32v y1))) 10 (by kernel_rfl) ⟨p1, q1⟩ (fun hHeld => ?_)
  refine' wpAnyK_take (i := 0) (v := ?v0r1) rfl (by kernel_rfl) (by kernel_rfl) (by kernel_rfl) (by kernel_rfl) (by kernel_rfl) (fun _ _ _ h => h) (Or.inl ⟨by rfl, ?hy0r1⟩) hHeld ?rest0r1
  case hy0r1 => intro w hSw; (try dsimp only at hSw); go_simp; all_goals with_reducible rfl
  try simp only [sA, gA]
  refine' wpAnyK_take (i := 1) (v := ?v1r1) rfl (by kernel_rfl) (by kernel_rfl) (by kernel_rfl) (by kernel_rfl) (by kernel_rfl) (fun _ _ _ h => h) (Or.inl ⟨by rfl, ?hy1r1⟩) hHeld ?rest1r1
  case hy1r1 => intro w hSw; (try dsimp only at hSw); go_simp; all_goals with_reducible rfl
  try simp only [sA, gA]
  refine' wpAnyK_take (i := 2) (v := ?v2r1) rfl (by kernel_rfl) (by kernel_rfl) (by kernel_rfl) (by kernel_rfl) (by kernel_rfl) (fun _ _ _ h => h) (Or.inl ⟨by rfl, ?hy2r1⟩) hHeld ?rest2r1
  case hy2r1 => intro w hSw; (try dsimp only at hSw); go_simp; all_goals with_reducible rfl
  try simp only [sA, gA]
  refine' wpAnyK_take (i := 3) (v := ?v3r1) rfl (by kernel_rfl) (by kernel_rfl) (by kernel_rfl) (by kernel_rfl) (by kernel_rfl) (fun _ _ _ h => h) (Or.inl ⟨by rfl, ?hy3r1⟩) hHeld ?rest3r1
  case hy3r1 => intro w hSw; (try dsimp only at hSw); go_simp; all_goals with_reducible rfl
  try simp only [sA, gA]
  refine' wpAnyK_take (i := 4) (v := ?v4r1) rfl (by kernel_rfl) (by kernel_rfl) (by kernel_rfl) (by kernel_rfl) (by kernel_rfl) (fun _ _ _ h => h) (Or.inl ⟨by rfl, ?hy4r1⟩) hHeld ?rest4r1
  case hy4r1 => intro w hSw; (try dsimp only at hSw); go_simp; all_goals with_reducible rfl
  try simp only [sA, gA]
  refine' wpAnyK_take (i := 5) (v := ?v5r1) rfl (by kernel_rfl) (by kernel_rfl) (by kernel_rfl) (by kernel_rfl) (by kernel_rfl) (fun _ _ _ h => h) (Or.inl ⟨by rfl, ?hy5r1⟩) hHeld ?rest5r1
  case hy5r1 => intro w hSw; (try dsimp only at hSw); go_simp; all_goals with_reducible rfl
  try simp only [sA, gA]
  refine' wpAnyK_take (i := 6) (v := ?v6r1) rfl (by kernel_rfl) (by kernel_rfl) (by kernel_rfl) (by kernel_rfl) (by kernel_rfl) (fun _ _ _ h => h) (Or.inl ⟨by rfl, ?hy6r1⟩) hHeld ?rest6r1
  case hy6r1 => intro w hSw; (try dsimp only at hSw); go_simp; all_goals with_reducible rfl
  try simp only [sA, gA]
  refine' wpAnyK_take (i := 7) (v := ?v7r1) rfl (by kernel_rfl) (by kernel_rfl) (by kernel_rfl) (by kernel_rfl) (by kernel_rfl) (fun _ _ _ h => h) (Or.inl ⟨by rfl, ?hy7r1⟩) hHeld ?rest7r1
  case hy7r1 => intro w hSw; (try dsimp only at hSw); go_simp; all_goals with_reducible rfl
  try simp only [sA, gA]
  refine wpAnyK_ready (rs := [8]) (by kernel_rfl) (by simp) ?_
  refine AllReadyK.cons rfl (fun K hK => ?_) AllReadyK.nil
  go_simp
  go_at_call 121
  refine (r03rotl_any _ (wxor x1 y1) 16 16 (by decide) (by decide) (by decide)).mono ?_
  rintro e w9 ⟨rfl, rfl⟩
  go_wp2_with fail
  refine hK.out _ _ ?_ (fun hHeld2 => ?_)
  · exact ⟨p1, q1⟩
  clear hK K hHeld
  have hHeld := hHeld2
  clear hHeld2
  try simp only [sA, gA]
  refine' wpAnyK_take (i := 9) (v := ?v9r1) rfl (by kernel_rfl) (by kernel_rfl) (by kernel_rfl) (by kernel_rfl) (by kernel_rfl) (fun _ _ _ h => h) (Or.inl ⟨by rfl, ?hy9r1⟩) hHeld ?rest9r1
  case hy9r1 => intro w hSw; (try dsimp only at hSw); go_simp; all_goals with_reducible rfl
  try simp only [sA, gA]
  refine wpAnyK_ready (rs := [10]) (by kernel_rfl) (by simp) ?_
  refine AllReadyK.last rfl (fun K hK => ?_)
  go_simp
  refine hK.out _ _ ?_
  clear hK K
  try simp only [sA, gA]
  refine wpAnyK_done (by kernel_rfl) ?_ _
  clear hHeld
  go_upto_region 3 with fail
  refine world_is (P := fun W => Code.wp _ _ _ _ W) (fun W2 hW2 => ?_)
  have hB2 : Blk W2 w.heap.size 122 ((S1.set d (rotl (wxor x1 y1) 16)).map u32v).toArray := by rw [← hW2]; exact blkW_set HB1.out d (rotl (wxor x1 y1) 16)
  have hG2 : W0.grownBy W2 (some w.heap.size) := by rw [← hW2]; exact grown_tr HG1.out (grown_tr (grown_set' W1 w.heap.size d (u32v (rotl (wxor x1 y1) 16))) (grown_tr (grown_drew' _ _) (grown_drew' _ _)))
  clear hW2
  have hn1 : S1.set d (rotl (wxor x1 y1) 16) = stRot S1 d a 16 := by rw [← hx1, ← hy1]; rfl
  rw [hn1] at hB2
  have hl2 : Hid ((stRot S1 d a 16).length = 16) := by unfold Hid; rw [stRot_len]; exact hl1.out
  obtain ⟨S2, hS2⟩ : ∃ S, stRot S1 d a 16 = S := ⟨_, rfl⟩
  rw [hS2] at hB2 hl2
  have HB2 := Lib.hid hB2
  have HG2 := Lib.hid hG2
  have HS2 := Lib.hid hS2
  clear p1 q1 f1 hx1 hy1 hB2 hG2 hS2 hn1 HB1 HG1 hl1
  obtain ⟨x2, hx2⟩ : ∃ x, S2.getD c 0 = x := ⟨_, rfl⟩
  obtain ⟨y2, hy2⟩ : ∃ y, S2.getD d 0 = y := ⟨_, rfl⟩
  have p2 : W2.cell? ⟨w.heap.size, c, none⟩ = some (u32v x2) := by rw [← hx2]; exact blkW_cell HB2.out (by rw [hl2.out]; exact hc.out)
  have q2 : W2.cell? ⟨w.heap.size, d, none⟩ = some (u32v y2) := by rw [← hy2]; exact blkW_cell HB2.out (by rw [hl2.out]; exact hd.out)
  have f2 := HB2.out.frozen c
  refine wp_region_last (S := (fun w' => w'.cell? ⟨w.heap.size, c, none⟩ = some (u32v x2) ∧ w'.cell? ⟨w.heap.size, d, none⟩ = some (u32v y2))) 9 (by kernel_rfl) ⟨p2, q2⟩ (fun hHeld => ?_)
  refine' wpAnyK_take (i := 0) (v := ?v0r2) rfl (by kernel_rfl) (by kernel_rfl) (by kernel_rfl) (by kernel_rfl) (by kernel_rfl) (fun _ _ _ h => h) (Or.inl ⟨by rfl, ?hy0r2⟩) hHeld ?rest0r2
  case hy0r2 => intro w hSw; (try dsimp only at hSw); go_simp; all_goals with_reducible rfl
  try simp only [sA, gA]
  refine' wpAnyK_take (i := 1) (v := ?v1r2) rfl (by kernel_rfl) (by kernel_rfl) (by kernel_rfl) (by kernel_rfl) (by kernel_rfl) (fun _ _ _ h => h) (Or.inl ⟨by rfl, ?hy1r2⟩) hHeld ?rest1r2
  case hy1r2 => intro w hSw; (try dsimp only at hSw); go_simp; all_goals with_reducible rfl
  try simp only [sA, gA]
  refine' wpAnyK_take (i := 2) (v := ?v2r2) rfl (by kernel_rfl) (by kernel_rfl) (by kernel_rfl) (by kernel_rfl) (by kernel_rfl) (fun _ _ _ h => h) (Or.inl ⟨by rfl, ?hy2r2⟩) hHeld ?rest2r2
  case hy2r2 => intro w hSw; (try dsimp only at hSw); go_simp; all_goals with_reducible rfl
  try simp only [sA, gA]
  refine' wpAnyK_take (i := 3) (v := ?v3r2) rfl (by kernel_rfl) (by kernel_rfl) (by kernel_rfl) (by kernel_rfl) (by kernel_rfl) (fun _ _ _ h => h) (Or.inl ⟨by rfl, ?hy3r2⟩) hHeld ?rest3r2
  case hy3r2 => intro w hSw; (try dsimp only at hSw); go_simp; all_goals with_reducible rfl
  try simp only [sA, gA]
  refine' wpAnyK_take (i := 4) (v := ?v4r2) rfl (by kernel_rfl) (by kernel_rfl) (by kernel_rfl) (by kernel_rfl) (by kernel_rfl) (fun _ _ _ h => h) (Or.inl ⟨by rfl, ?hy4r2⟩) hHeld ?rest4r2
  case hy4r2 => intro w hSw; (try dsimp only at hSw); go_simp; all_goals with_reducible rfl
  try simp only [sA, gA]
  refine' wpAnyK_take (i := 5) (v := ?v5r2) rfl (by kernel_rfl) (by kernel_rfl) (by kernel_rfl) (by kernel_rfl) (by kernel_rfl) (fun _ _ _ h => h) (Or.inl ⟨by rfl, ?hy5r2⟩) hHeld ?rest5r2
  case hy5r2 => intro w hSw; (try dsimp only at hSw); go_simp; all_goals with_reducible rfl
  try simp only [sA, gA]
  refine' wpAnyK_take (i := 6) (v := ?v6r2) rfl (by kernel_rfl) (by kernel_rfl) (by kernel_rfl) (by kernel_rfl) (by kernel_rfl) (fun _ _ _ h => h) (Or.inl ⟨by rfl, ?hy6r2⟩) hHeld ?rest6r2
  case hy6r2 => intro w hSw; (try dsimp only at hSw); go_simp; all_goals with_reducible rfl
  try simp only [sA, gA]
  refine' wpAnyK_take (i := 7) (v := ?v7r2) rfl (by kernel_rfl) (by kernel_rfl) (by kernel_rfl) (by kernel_rfl) (by kernel_rfl) (fun _ _ _ h => h) (Or.inl ⟨by rfl, ?hy7r2⟩) hHeld ?rest7r2
  case hy7r2 => intro w hSw; (try dsimp only at hSw); go_simp; all_goals with_reducible rfl
  try simp only [sA, gA]
  refine' wpAnyK_take (i := 8) (v := ?v8r2) rfl (by kernel_rfl) (by kernel_rfl) (by kernel_rfl) (by kernel_rfl) (by kernel_rfl) (fun _ _ _ h => h) (Or.inl ⟨by rfl, ?hy8r2⟩) hHeld ?rest8r2
  case hy8r2 => intro w hSw; (try dsimp only at hSw); go_simp; all_goals with_reducible rfl
  try simp only [sA, gA]
  refine wpAnyK_ready (rs := [9]) (by kernel_rfl) (by simp) ?_
  refine AllReadyK.last rfl (fun K hK => ?_)
  go_simp
  refine hK.out _ _ ?_
  clear hK K
  try simp only [sA, gA]
  refine wpAnyK_done (by kernel_rfl) ?_ _
  clear hHeld
  go_upto_region 4 with fail
  refine world_is (P := fun W => Code.wp _ _ _ _ W) (fun W3 hW3 => ?_)
  have hB3 : Blk W3 w.heap.size 122 ((S2.set c (wadd x2 y2)).map u32v).toArray := by rw [← hW3]; exact blkW_set HB2.out c (wadd x2 y2)
  have hG3 : W0.grownBy W3 (some w.heap.size) := by rw [← hW3]; exact grown_tr HG2.out (grown_tr (grown_set' W2 w.heap.size c (u32v (wadd x2 y2))) (grown_drew' _ _))
  clear hW3
  have hn2 : S2.set c (wadd x2 y2) = stAdd S2 c d := by rw [← hx2, ← hy2]; rfl
  rw [hn2] at hB3
  have hl3 : Hid ((stAdd S2 c d).length = 16) := by unfold Hid; rw [stAdd_len]; exact hl2.out
  obtain ⟨S3, hS3⟩ : ∃ S, stAdd S2 c d = S := ⟨_, rfl⟩
  rw [hS3] at hB3 hl3
  have HB3 := Lib.hid hB3
  have HG3 := Lib.hid hG3
  have HS3 := Lib.hid hS3
  clear p2 q2 f2 hx2 hy2 hB3 hG3 hS3 hn2 HB2 HG2 hl2
  obtain ⟨x3, hx3⟩ : ∃ x, S3.getD b 0 = x := ⟨_, rfl⟩
  obtain ⟨y3, hy3⟩ : ∃ y, S3.getD c 0 = y := ⟨_, rfl⟩
  have p3 : W3.cell? ⟨w.heap.size, b, none⟩ = some (u32v x3) := by rw [← hx3]; exact blkW_cell HB3.out (by rw [hl3.out]; exact hb.out)
  have q3 : W3.cell? ⟨w.heap.size, c, none⟩ = some (u32v y3) := by rw [← hy3]; exact blkW_cell HB3.out (by rw [hl3.out]; exact hc.out)
  have f3 := HB3.out.frozen b
  refine wp_region_last (S := (fun w' => w'.cell? ⟨w.heap.size, b, none⟩ = some (u32v x3) ∧ w'.cell? ⟨w.heap.size, c, none⟩ = some (u32v y3))) 10 (by kernel_rfl) ⟨p3, q3⟩ (fun hHeld => ?_)
  refine' wpAnyK_take (i := 0) (v := ?v0r3) rfl (by kernel_rfl) (by kernel_rfl) (by kernel_rfl) (by kernel_rfl) (by kernel_rfl) (fun _ _ _ h => h) (Or.inl ⟨by rfl, ?hy0r3⟩) hHeld ?rest0r3
  case hy0r3 => intro w hSw; (try dsimp only at hSw); go_simp; all_goals with_reducible rfl
  try simp only [sA, gA]
  refine' wpAnyK_take (i := 1) (v := ?v1r3) rfl (by kernel_rfl) (by kernel_rfl) (by kernel_rfl) (by kernel_rfl) (by kernel_rfl) (fun _ _ _ h => h) (Or.inl ⟨by rfl, ?hy1r3⟩) hHeld ?rest1r3
  case hy1r3 => intro w hSw; (try dsimp only at hSw); go_simp; all_goals with_reducible rfl
  try simp only [sA, gA]
  refine' wpAnyK_take (i := 2) (v := ?v2r3) rfl (by kernel_rfl) (by kernel_rfl) (by kernel_rfl) (by kernel_rfl) (by kernel_rfl) (fun _ _ _ h => h) (Or.inl ⟨by rfl, ?hy2r3⟩) hHeld ?rest2r3
  case hy2r3 => intro w hSw; (try dsimp only at hSw); go_simp; all_goals with_reducible rfl
  try simp only [sA, gA]
  refine' wpAnyK_take (i := 3) (v := ?v3r3) rfl (by kernel_rfl) (by kernel_rfl) (by kernel_rfl) (by kernel_rfl) (by kernel_rfl) (fun _ _ _ h => h) (Or.inl ⟨by rfl, ?hy3r3⟩) hHeld ?rest3r3
  case hy3r3 => intro w hSw; (try dsimp only at hSw); go_simp; all_goals with_reducible rfl
  try simp only [sA, gA]
  refine' wpAnyK_take (i := 4) (v := ?v4r3) rfl (by kernel_rfl) (by kernel_rfl) (by kernel_rfl) (by kernel_rfl) (by kernel_rfl) (fun _ _ _ h => h) (Or.inl ⟨by rfl, ?hy4r3⟩) hHeld ?rest4r3
  case hy4r3 => intro w hSw; (try dsimp only at hSw); go_simp; all_goals with_reducible rfl
  try simp only [sA, gA]
  refine' wpAnyK_take (i := 5) (v := ?v5r3) rfl (by kernel_rfl) (by kernel_rfl) (by kernel_rfl) (by kernel_rfl) (by kernel_rfl) (fun _ _ _ h => h) (Or.inl ⟨by rfl, ?hy5r3⟩) hHeld ?rest5r3
  case hy5r3 => intro w hSw; (try dsimp only at hSw); go_simp; all_goals with_reducible rfl
  try simp only [sA, gA]
  refine' wpAnyK_take (i := 6) (v := ?v6r3) rfl (by kernel_rfl) (by kernel_rfl) (by kernel_rfl) (by kernel_rfl) (by kernel_rfl) (fun _ _ _ h => h) (Or.inl ⟨by rfl, ?hy6r3⟩) hHeld ?rest6r3
  case hy6r3 => intro w hSw; (try dsimp only at hSw); go_simp; all_goals with_reducible rfl
  try simp only [sA, gA]
  refine' wpAnyK_take (i := 7) (v := ?v7r3) rfl (by kernel_rfl) (by kernel_rfl) (by kernel_rfl) (by kernel_rfl) (by kernel_rfl) (fun _ _ _ h => h) (Or.inl ⟨by rfl, ?hy7r3⟩) hHeld ?rest7r3
  case hy7r3 => intro w hSw; (try dsimp only at hSw); go_simp; all_goals with_reducible rfl
  try simp only [sA, gA]
  refine wpAnyK_ready (rs := [8]) (by kernel_rfl) (by simp) ?_
  refine AllReadyK.cons rfl (fun K hK => ?_) AllReadyK.nil
  go_simp
  go_at_call 121
  refine (r03rotl_any _ (wxor x3 y3) 12 20 (by decide) (by decide) (by decide)).mono ?_
  rintro e w9 ⟨rfl, rfl⟩
  go_wp2_with fail
  refine hK.out _ _ ?_ (fun hHeld2 => ?_)
  · exact ⟨p3, q3⟩
  clear hK K hHeld
  have hHeld := hHeld2
  clear hHeld2
  try simp only [sA, gA]
  refine' wpAnyK_take (i := 9) (v := ?v9r3) rfl (by kernel_rfl) (by kernel_rfl) (by kernel_rfl) (by kernel_rfl) (by kernel_rfl) (fun _ _ _ h => h) (Or.inl ⟨by rfl, ?hy9r3⟩) hHeld ?rest9r3
  case hy9r3 => intro w hSw; (try dsimp only at hSw); go_simp; all_goals with_reducible rfl
  try simp only [sA, gA]
  refine wpAnyK_ready (rs := [10]) (by kernel_rfl) (by simp) ?_
  refine AllReadyK.last rfl (fun K hK => ?_)
  go_simp
  refine hK.out _ _ ?_
  clear hK K
  try simp only [sA, gA]
  refine wpAnyK_done (by kernel_rfl) ?_ _
  clear hHeld
  go_upto_region 5 with fail
  refine world_is (P := fun W => Code.wp _ _ _ _ W) (fun W4 hW4 => ?_)
  have hB4 : Blk W4 w.heap.size 122 ((S3.set b (rotl (wxor x3 y3) 12)).map u32v).toArray := by rw [← hW4]; exact blkW_set HB3.out b (rotl (wxor x3 y3) 12)
  have hG4 : W0.grownBy W4 (some w.heap.size) := by rw [← hW4]; exact grown_tr HG3.out (grown_tr (grown_set' W3 w.heap.size b (u32v (rotl (wxor x3 y3) 12))) (grown_tr (grown_drew' _ _) (grown_drew' _ _)))
  clear hW4
  have hn3 : S3.set b (rotl (wxor x3 y3) 12) = stRot S3 b c 12 := by rw [← hx3, ← hy3]; rfl
  rw [hn3] at hB4
  have hl4 : Hid ((stRot S3 b c 12).length = 16) := by unfold Hid; rw [stRot_len]; exact hl3.out
  obtain ⟨S4, hS4⟩ : ∃ S, stRot S3 b c 12 = S := ⟨_, rfl⟩
  rw [hS4] at hB4 hl4
  have HB4 := Lib.hid hB4
  have HG4 := Lib.hid hG4
  have HS4 := Lib.hid hS4
  clear p3 q3 f3 hx3 hy3 hB4 hG4 hS4 hn3 HB3 HG3 hl3
  obtain ⟨x4, hx4⟩ : ∃ x, S4.getD a 0 = x := ⟨_, rfl⟩
  obtain ⟨y4, hy4⟩ : ∃ y, S4.getD b 0 = y := ⟨_, rfl⟩
  have p4 : W4.cell? ⟨w.heap.size, a, none⟩ = some (u32v x4) := by rw [← hx4]; exact blkW_cell HB4.out (by rw [hl4.out]; exact ha.out)
  have q4 : W4.cell? ⟨w.heap.size, b, none⟩ = some (u32v y4) := by rw [← hy4]; exact blkW_cell HB4.out (by rw [hl4.out]; exact hb.out)
  have f4 := HB4.out.frozen a
  refine wp_region_last (S := (fun w' => w'.cell? ⟨w.heap.size, a, none⟩ = some (u32v x4) ∧ w'.cell? ⟨w.heap.size, b, none⟩ = some (u32v y4))) 9 (by kernel_rfl) ⟨p4, q4⟩ (fun hHeld => ?_)
  refine' wpAnyK_take (i := 0) (v := ?v0r4) rfl (by kernel_rfl) (by kernel_rfl) (by kernel_rfl) (by kernel_rfl) (by kernel_rfl) (fun _ _ _ h => h) (Or.inl ⟨by rfl, ?hy0r4⟩) hHeld ?rest0r4
  case hy0r4 => intro w hSw; (try dsimp only at hSw); go_simp; all_goals with_reducible rfl
  try simp only [sA, gA]
  refine' wpAnyK_take (i := 1) (v := ?v1r4) rfl (by kernel_rfl) (by kernel_rfl) (by kernel_rfl) (by kernel_rfl) (by kernel_rfl) (fun _ _ _ h => h) (Or.inl ⟨by rfl, ?hy1r4⟩) hHeld ?rest1r4
  case hy1r4 => intro w hSw; (try dsimp only at hSw); go_simp; all_goals with_reducible rfl
  try simp only [sA, gA]
  refine' wpAnyK_take (i := 2) (v := ?v2r4) rfl (by kernel_rfl) (by kernel_rfl) (by kernel_rfl) (by kernel_rfl) (by kernel_rfl) (fun _ _ _ h => h) (Or.inl ⟨by rfl, ?hy2r4⟩) hHeld ?rest2r4
  case hy2r4 => intro w hSw; (try dsimp only at hSw); go_simp; all_goals with_reducible rfl
  try simp only [sA, gA]
  refine' wpAnyK_take (i := 3) (v := ?v3r4) rfl (by kernel_rfl) (by kernel_rfl) (by kernel_rfl) (by kernel_rfl) (by kernel_rfl) (fun _ _ _ h => h) (Or.inl ⟨by rfl, ?hy3r4⟩) hHeld ?rest3r4
  case hy3r4 => intro w hSw; (try dsimp only at hSw); go_simp; all_goals with_reducible rfl
  try simp only [sA, gA]
  refine' wpAnyK_take (i := 4) (v := ?v4r4) rfl (by kernel_rfl) (by kernel_rfl) (by kernel_rfl) (by kernel_rfl) (by kernel_rfl) (fun _ _ _ h => h) (Or.inl ⟨by rfl, ?hy4r4⟩) hHeld ?rest4r4
  case hy4r4 => intro w hSw; (try dsimp only at hSw); go_simp; all_goals with_reducible rfl
  try simp only [sA, gA]
  refine' wpAnyK_take (i := 5) (v := ?v5r4) rfl (by kernel_rfl) (by kernel_rfl) (by kernel_rfl) (by kernel_rfl) (by kernel_rfl) (fun _ _ _ h => h) (Or.inl ⟨by rfl, ?hy5r4⟩) hHeld ?rest5r4
  case hy5r4 => intro w hSw; (try dsimp only at hSw); go_simp; all_goals with_reducible rfl
  try simp only [sA, gA]
  refine' wpAnyK_take (i := 6) (v := ?v6r4) rfl (by kernel_rfl) (by kernel_rfl) (by kernel_rfl) (by kernel_rfl) (by kernel_rfl) (fun _ _ _ h => h) (Or.inl ⟨by rfl, ?hy6r4⟩) hHeld ?rest6r4
  case hy6r4 => intro w hSw; (try dsimp only at hSw); go_simp; all_goals with_reducible rfl
  try simp only [sA, gA]
  refine' wpAnyK_take (i := 7) (v := ?v7r4) rfl (by kernel_rfl) (by kernel_rfl) (by kernel_rfl) (by kernel_rfl) (by kernel_rfl) (fun _ _ _ h => h) (Or.inl ⟨by rfl, ?hy7r4⟩) hHeld ?rest7r4
  case hy7r4 => intro w hSw; (try dsimp only at hSw); go_simp; all_goals with_reducible rfl
  try simp only [sA, gA]
  refine' wpAnyK_take (i := 8) (v := ?v8r4) rfl (by kernel_rfl) (by kernel_rfl) (by kernel_rfl) (by kernel_rfl) (by kernel_rfl) (fun _ _ _ h => h) (Or.inl ⟨by rfl, ?hy8r4⟩) hHeld ?rest8r4
  case hy8r4 => intro w hSw; (try dsimp only at hSw); go_simp; all_goals with_reducible rfl
  try simp only [sA, gA]
  refine wpAnyK_ready (rs := [9]) (by kernel_rfl) (by simp) ?_
  refine AllReadyK.last rfl (fun K hK => ?_)
  go_simp
  refine hK.out _ _ ?_
  clear hK K
  try simp only [sA, gA]
  refine wpAnyK_done (by kernel_rfl) ?_ _
  clear hHeld
  go_upto_region 6 with fail
  refine world_is (P := fun W => Code.wp _ _ _ _ W) (fun W5 hW5 => ?_)
  have hB5 : Blk W5 w.heap.size 122 ((S4.set a (wadd x4 y4)).map u32v).toArray := by rw [← hW5]; exact blkW_set HB4.out a (wadd x4 y4)
  have hG5 : W0.grownBy W5 (some w.heap.size) := by rw [← hW5]; exact grown_tr HG4.out (grown_tr (grown_set' W4 w.heap.size a (u32v (wadd x4 y4))) (grown_drew' _ _))
  clear hW5
  have hn4 : S4.set a (wadd x4 y4) = stAdd S4 a b := by rw [← hx4, ← hy4]; rfl
  rw [hn4] at hB5
  have hl5 : Hid ((stAdd S4 a b).length = 16) := by unfold Hid; rw [stAdd_len]; exact hl4.out
  obtain ⟨S5, hS5⟩ : ∃ S, stAdd S4 a b = S := ⟨_, rfl⟩
  rw [hS5] at hB5 hl5
  have HB5 := Lib.hid hB5
  have HG5 := Lib.hid hG5
  have HS5 := Lib.hid hS5
  clear p4 q4 f4 hx4 hy4 hB5 hG5 hS5 hn4 HB4 HG4 hl4
  obtain ⟨x5, hx5⟩ : ∃ x, S5.getD d 0 = x := ⟨_, rfl⟩
  obtain ⟨y5, hy5⟩ : ∃ y, S5.getD a 0 = y := ⟨_, rfl⟩
  have p5 : W5.cell? ⟨w.heap.size, d, none⟩ = some (u32v x5) := by rw [← hx5]; exact blkW_cell HB5.out (by rw [hl5.out]; exact hd.out)
  have q5 : W5.cell? ⟨w.heap.size, a, none⟩ = some (u32v y5) := by rw [← hy5]; exact blkW_cell HB5.out (by rw [hl5.out]; exact ha.out)
  have f5 := HB5.out.frozen d
  refine wp_region_last (S := (fun w' => w'.cell? ⟨w.heap.size, d, none⟩ = some (u32v x5) ∧ w'.cell? ⟨w.heap.size, a, none⟩ = some (u32v y5))) 10 (by kernel_rfl) ⟨p5, q5⟩ (fun hHeld => ?_)
  refine' wpAnyK_take (i := 0) (v := ?v0r5) rfl (by kernel_rfl) (by kernel_rfl) (by kernel_rfl) (by kernel_rfl) (by kernel_rfl) (fun _ _ _ h => h) (Or.inl ⟨by rfl, ?hy0r5⟩) hHeld ?rest0r5
  case hy0r5 => intro w hSw; (try dsimp only at hSw); go_simp; all_goals with_reducible rfl
  try simp only [sA, gA]
  refine' wpAnyK_take (i := 1) (v := ?v1r5) rfl (by kernel_rfl) (by kernel_rfl) (by kernel_rfl) (by kernel_rfl) (by kernel_rfl) (fun _ _ _ h => h) (Or.inl ⟨by rfl, ?hy1r5⟩) hHeld ?rest1r5
  case hy1r5 => intro w hSw; (try dsimp only at hSw); go_simp; all_goals with_reducible rfl
  try simp only [sA, gA]
  refine' wpAnyK_take (i := 2) (v := ?v2r5) rfl (by kernel_rfl) (by kernel_rfl) (by kernel_rfl) (by kernel_rfl) (by kernel_rfl) (fun _ _ _ h => h) (Or.inl ⟨by rfl, ?hy2r5⟩) hHeld ?rest2r5
  case hy2r5 => intro w hSw; (try dsimp only at hSw); go_simp; all_goals with_reducible rfl
  try simp only [sA, gA]
  refine' wpAnyK_take (i := 3) (v := ?v3r5) rfl (by kernel_rfl) (by kernel_rfl) (by kernel_rfl) (by kernel_rfl) (by kernel_rfl) (fun _ _ _ h => h) (Or.inl ⟨by rfl, ?hy3r5⟩) hHeld ?rest3r5
  case hy3r5 => intro w hSw; (try dsimp only at hSw); go_simp; all_goals with_reducible rfl
  try simp only [sA, gA]
  refine' wpAnyK_take (i := 4) (v := ?v4r5) rfl (by kernel_rfl) (by kernel_rfl) (by kernel_rfl) (by kernel_rfl) (by kernel_rfl) (fun _ _ _ h => h) (Or.inl ⟨by rfl, ?hy4r5⟩) hHeld ?rest4r5
  case hy4r5 => intro w hSw; (try dsimp only at hSw); go_simp; all_goals with_reducible rfl
  try simp only [sA, gA]
  refine' wpAnyK_take (i := 5) (v := ?v5r5) rfl (by kernel_rfl) (by kernel_rfl) (by kernel_rfl) (by kernel_rfl) (by kernel_rfl) (fun _ _ _ h => h) (Or.inl ⟨by rfl, ?hy5r5⟩) hHeld ?rest5r5
  case hy5r5 => intro w hSw; (try dsimp only at hSw); go_simp; all_goals with_reducible rfl
  try simp only [sA, gA]
  refine' wpAnyK_take (i := 6) (v := ?v6r5) rfl (by kernel_rfl) (by kernel_rfl) (by kernel_rfl) (by kernel_rfl) (by kernel_rfl) (fun _ _ _ h => h) (Or.inl ⟨by rfl, ?hy6r5⟩) hHeld ?rest6r5
  case hy6r5 => intro w hSw; (try dsimp only at hSw); go_simp; all_goals with_reducible rfl
  try simp only [sA, gA]
  refine' wpAnyK_take (i := 7) (v := ?v7r5) rfl (by kernel_rfl) (by kernel_rfl) (by kernel_rfl) (by kernel_rfl) (by kernel_rfl) (fun _ _ _ h => h) (Or.inl ⟨by rfl, ?hy7r5⟩) hHeld ?rest7r5
  case hy7r5 => intro w hSw; (try dsimp only at hSw); go_simp; all_goals with_reducible rfl
  try simp only [sA, gA]
  refine wpAnyK_ready (rs := [8]) (by kernel_rfl) (by simp) ?_
  refine AllReadyK.cons rfl (fun K hK => ?_) AllReadyK.nil
  go_simp
  go_at_call 121
  refine (r03rotl_any _ (wxor x5 y5) 8 24 (by decide) (by decide) (by decide)).mono ?_
  rintro e w9 ⟨rfl, rfl⟩
  go_wp2_with fail
  refine hK.out _ _ ?_ (fun hHeld2 => ?_)
  · exact ⟨p5, q5⟩
  clear hK K hHeld
  have hHeld := hHeld2
  clear hHeld2
  try simp only [sA, gA]
  refine' wpAnyK_take (i := 9) (v := ?v9r5) rfl (by kernel_rfl) (by kernel_rfl) (by kernel_rfl) (by kernel_rfl) (by kernel_rfl) (fun _ _ _ h => h) (Or.inl ⟨by rfl, ?hy9r5⟩) hHeld ?rest9r5
  case hy9r5 => intro w hSw; (try dsimp only at hSw); go_simp; all_goals with_reducible rfl
  try simp only [sA, gA]
  refine wpAnyK_ready (rs := [10]) (by kernel_rfl) (by simp) ?_
  refine AllReadyK.last rfl (fun K hK => ?_)
  go_simp
  refine hK.out _ _ ?_
  clear hK K
  try simp only [sA, gA]
  refine wpAnyK_done (by kernel_rfl) ?_ _
  clear hHeld
  go_upto_region 7 with fail
  refine world_is (P := fun W => Code.wp _ _ _ _ W) (fun W6 hW6 => ?_)
  have hB6 : Blk W6 w.heap.size 122 ((S5.set d (rotl (wxor x5 y5) 8)).map u32v).toArray := by rw [← hW6]; exact blkW_set HB5.out d (rotl (wxor x5 y5) 8)
  have hG6 : W0.grownBy W6 (some w.heap.size) := by rw [← hW6]; exact grown_tr HG5.out (grown_tr (grown_set' W5 w.heap.size d (u32v (rotl (wxor x5 y5) 8))) (grown_tr (grown_drew' _ _) (grown_drew' _ _)))
  clear hW6
  have hn5 : S5.set d (rotl (wxor x5 y5) 8) = stRot S5 d a 8 := by rw [← hx5, ← hy5]; rfl
  rw [hn5] at hB6
  have hl6 : Hid ((stRot S5 d a 8).length = 16) := by unfold Hid; rw [stRot_len]; exact hl5.out
  obtain ⟨S6, hS6⟩ : ∃ S, stRot S5 d a 8 = S := ⟨_, rfl⟩
  rw [hS6] at hB6 hl6
  have HB6 := Lib.hid hB6
  have HG6 := Lib.hid hG6
  have HS6 := Lib.hid hS6
  clear p5 q5 f5 hx5 hy5 hB6 hG6 hS6 hn5 HB5 HG5 hl5
  obtain ⟨x6, hx6⟩ : ∃ x, S6.getD c 0 = x := ⟨_, rfl⟩
  obtain ⟨y6, hy6⟩ : ∃ y, S6.getD d 0 = y := ⟨_, rfl⟩
  have p6 : W6.cell? ⟨w.heap.size, c, none⟩ = some (u32v x6) := by rw [← hx6]; exact blkW_cell HB6.out (by rw [hl6.out]; exact hc.out)
  have q6 : W6.cell? ⟨w.heap.size, d, none⟩ = some (u32v y6) := by rw [← hy6]; exact blkW_cell HB6.out (by rw [hl6.out]; exact hd.out)
  have f6 := HB6.out.frozen c
  refine wp_region_last (S := (fun w' => w'.cell? ⟨w.heap.size, c, none⟩ = some (u32v x6) ∧ w'.cell? ⟨w.heap.size, d, none⟩ = some (u32v y6))) 9 (by kernel_rfl) ⟨p6, q6⟩ (fun hHeld => ?_)
  refine' wpAnyK_take (i := 0) (v := ?v0r6) rfl (by kernel_rfl) (by kernel_rfl) (by kernel_rfl) (by kernel_rfl) (by kernel_rfl) (fun _ _ _ h => h) (Or.inl ⟨by rfl, ?hy0r6⟩) hHeld ?rest0r6
  case hy0r6 => intro w hSw; (try dsimp only at hSw); go_simp; all_goals with_reducible rfl
  try simp only [sA, gA]
  refine' wpAnyK_take (i := 1) (v := ?v1r6) rfl (by kernel_rfl) (by kernel_rfl) (by kernel_rfl) (by kernel_rfl) (by kernel_rfl) (fun _ _ _ h => h) (Or.inl ⟨by rfl, ?hy1r6⟩) hHeld ?rest1r6
  case hy1r6 => intro w hSw; (try dsimp only at hSw); go_simp; all_goals with_reducible rfl
  try simp only [sA, gA]
  refine' wpAnyK_take (i := 2) (v := ?v2r6) rfl (by kernel_rfl) (by kernel_rfl) (by kernel_rfl) (by kernel_rfl) (by kernel_rfl) (fun _ _ _ h => h) (Or.inl ⟨by rfl, ?hy2r6⟩) hHeld ?rest2r6
  case hy2r6 => intro w hSw; (try dsimp only at hSw); go_simp; all_goals with_reducible rfl
  try simp only [sA, gA]
  refine' wpAnyK_take (i := 3) (v := ?v3r6) rfl (by kernel_rfl) (by kernel_rfl) (by kernel_rfl) (by kernel_rfl) (by kernel_rfl) (fun _ _ _ h => h) (Or.inl ⟨by rfl, ?hy3r6⟩) hHeld ?rest3r6
  case hy3r6 => intro w hSw; (try dsimp only at hSw); go_simp; all_goals with_reducible rfl
  try simp only [sA, gA]
  refine' wpAnyK_take (i := 4) (v := ?v4r6) rfl (by kernel_rfl) (by kernel_rfl) (by kernel_rfl) (by kernel_rfl) (by kernel_rfl) (fun _ _ _ h => h) (Or.inl ⟨by rfl, ?hy4r6⟩) hHeld ?rest4r6
  case hy4r6 => intro w hSw; (try dsimp only at hSw); go_simp; all_goals with_reducible rfl
  try simp only [sA, gA]
  refine' wpAnyK_take (i := 5) (v := ?v5r6) rfl (by kernel_rfl) (by kernel_rfl) (by kernel_rfl) (by kernel_rfl) (by kernel_rfl) (fun _ _ _ h => h) (Or.inl ⟨by rfl, ?hy5r6⟩) hHeld ?rest5r6
  case hy5r6 => intro w hSw; (try dsimp only at hSw); go_simp; all_goals with_reducible rfl
  try simp only [sA, gA]
  refine' wpAnyK_take (i := 6) (v := ?v6r6) rfl (by kernel_rfl) (by kernel_rfl) (by kernel_rfl) (by kernel_rfl) (by kernel_rfl) (fun _ _ _ h => h) (Or.inl ⟨by rfl, ?hy6r6⟩) hHeld ?rest6r6
  case hy6r6 => intro w hSw; (try dsimp only at hSw); go_simp; all_goals with_reducible rfl
  try simp only [sA, gA]
  refine' wpAnyK_take (i := 7) (v := ?v7r6) rfl (by kernel_rfl) (by kernel_rfl) (by kernel_rfl) (by kernel_rfl) (by kernel_rfl) (fun _ _ _ h => h) (Or.inl ⟨by rfl, ?hy7r6⟩) hHeld ?rest7r6
  case hy7r6 => intro w hSw; (try dsimp only at hSw); go_simp; all_goals with_reducible rfl
  try simp only [sA, gA]
  refine' wpAnyK_take (i := 8) (v := ?v8r6) rfl (by kernel_rfl) (by kernel_rfl) (by kernel_rfl) (by kernel_rfl) (by kernel_rfl) (fun _ _ _ h => h) (Or.inl ⟨by rfl, ?hy8r6⟩) hHeld ?rest8r6
  case hy8r6 => intro w hSw; (try dsimp only at hSw); go_simp; all_goals with_reducible rfl
  try simp only [sA, gA]
  refine wpAnyK_ready (rs := [9]) (by kernel_rfl) (by simp) ?_
  refine AllReadyK.last rfl (fun K hK => ?_)
  go_simp
  refine hK.out _ _ ?_
  clear hK K
  try simp only [sA, gA]
  refine wpAnyK_done (by kernel_rfl) ?_ _
  clear hHeld
  go_upto_region 8 with fail
  refine world_is (P := fun W => Code.wp _ _ _ _ W) (fun W7 hW7 => ?_)
  have hB7 : Blk W7 w.heap.size 122 ((S6.set c (wadd x6 y6)).map u32v).toArray := by rw [← hW7]; exact blkW_set HB6.out c (wadd x6 y6)
  have hG7 : W0.grownBy W7 (some w.heap.size) := by rw [← hW7]; exact grown_tr HG6.out (grown_tr (grown_set' W6 w.heap.size c (u32v (wadd x6 y6))) (grown_drew' _ _))
  clear hW7
  have hn6 : S6.set c (wadd x6 y6) = stAdd S6 c d := by rw [← hx6, ← hy6]; rfl
  rw [hn6] at hB7
  have hl7 : Hid ((stAdd S6 c d).length = 16) := by unfold Hid; rw [stAdd_len]; exact hl6.out
  obtain ⟨S7, hS7⟩ : ∃ S, stAdd S6 c d = S := ⟨_, rfl⟩
  rw [hS7] at hB7 hl7
  have HB7 := Lib.hid hB7
  have HG7 := Lib.hid hG7
  have HS7 := Lib.hid hS7
  clear p6 q6 f6 hx6 hy6 hB7 hG7 hS7 hn6 HB6 HG6 hl6
  obtain ⟨x7, hx7⟩ : ∃ x, S7.getD b 0 = x := ⟨_, rfl⟩
  obtain ⟨y7, hy7⟩ : ∃ y, S7.getD c 0 = y := ⟨_, rfl⟩
  have p7 : W7.cell? ⟨w.heap.size, b, none⟩ = some (u32v x7) := by rw [← hx7]; exact blkW_cell HB7.out (by rw [hl7.out]; exact hb.out)
  have q7 : W7.cell? ⟨w.heap.size, c, none⟩ = some (u32v y7) := by rw [← hy7]; exact blkW_cell HB7.out (by rw [hl7.out]; exact hc.out)
  have f7 := HB7.out.frozen b
  refine wp_region_last (S := (fun w' => w'.cell? ⟨w.heap.size, b, none⟩ = some (u32v x7) ∧ w'.cell? ⟨w.heap.size, c, none⟩ = some (u32v y7))) 10 (by kernel_rfl) ⟨p7, q7⟩ (fun hHeld => ?_)
  refine' wpAnyK_take (i := 0) (v := ?v0r7) rfl (by kernel_rfl) (by kernel_rfl) (by kernel_rfl) (by kernel_rfl) (by kernel_rfl) (fun _ _ _ h => h) (Or.inl ⟨by rfl, ?hy0r7⟩) hHeld ?rest0r7
  case hy0r7 => intro w hSw; (try dsimp only at hSw); go_simp; all_goals with_reducible rfl
  try simp only [sA, gA]
  refine' wpAnyK_take (i := 1) (v := ?v1r7) rfl (by kernel_rfl) (by kernel_rfl) (by kernel_rfl) (by kernel_rfl) (by kernel_rfl) (fun _ _ _ h => h) (Or.inl ⟨by rfl, ?hy1r7⟩) hHeld ?rest1r7
  case hy1r7 => intro w hSw; (try dsimp only at hSw); go_simp; all_goals with_reducible rfl
  try simp only [sA, gA]
  refine' wpAnyK_take (i := 2) (v := ?v2r7) rfl (by kernel_rfl) (by kernel_rfl) (by kernel_rfl) (by kernel_rfl) (by kernel_rfl) (fun _ _ _ h => h) (Or.inl ⟨by rfl, ?hy2r7⟩) hHeld ?rest2r7
  case hy2r7 => intro w hSw; (try dsimp only at hSw); go_simp; all_goals with_reducible rfl
  try simp only [sA, gA]
  refine' wpAnyK_take (i := 3) (v := ?v3r7) rfl (by kernel_rfl) (by kernel_rfl) (by kernel_rfl) (by kernel_rfl) (by kernel_rfl) (fun _ _ _ h => h) (Or.inl ⟨by rfl, ?hy3r7⟩) hHeld ?rest3r7
  case hy3r7 => intro w hSw; (try dsimp only at hSw); go_simp; all_goals with_reducible rfl
  try simp only [sA, gA]
  refine' wpAnyK_take (i := 4) (v := ?v4r7) rfl (by kernel_rfl) (by kernel_rfl) (by kernel_rfl) (by kernel_rfl) (by kernel_rfl) (fun _ _ _ h => h) (Or.inl ⟨by rfl, ?hy4r7⟩) hHeld ?rest4r7
  case hy4r7 => intro w hSw; (try dsimp only at hSw); go_simp; all_goals with_reducible rfl
  try simp only [sA, gA]
  refine' wpAnyK_take (i := 5) (v := ?v5r7) rfl (by kernel_rfl) (by kernel_rfl) (by kernel_rfl) (by kernel_rfl) (by kernel_rfl) (fun _ _ _ h => h) (Or.inl ⟨by rfl, ?hy5r7⟩) hHeld ?rest5r7
  case hy5r7 => intro w hSw; (try dsimp only at hSw); go_simp; all_goals with_reducible rfl
  try simp only [sA, gA]
  refine' wpAnyK_take (i := 6) (v := ?v6r7) rfl (by kernel_rfl) (by kernel_rfl) (by kernel_rfl) (by kernel_rfl) (by kernel_rfl) (fun _ _ _ h => h) (Or.inl ⟨by rfl, ?hy6r7⟩) hHeld ?rest6r7
  case hy6r7 => intro w hSw; (try dsimp only at hSw); go_simp; all_goals with_reducible rfl
  try simp only [sA, gA]
  refine' wpAnyK_take (i := 7) (v := ?v7r7) rfl (by kernel_rfl) (by kernel_rfl) (by kernel_rfl) (by kernel_rfl) (by kernel_rfl) (fun _ _ _ h => h) (Or.inl ⟨by rfl, ?hy7r7⟩) hHeld ?rest7r7
  case hy7r7 => intro w hSw; (try dsimp only at hSw); go_simp; all_goals with_reducible rfl
  try simp only [sA, gA]
  refine wpAnyK_ready (rs := [8]) (by kernel_rfl) (by simp) ?_
  refine AllReadyK.cons rfl (fun K hK => ?_) AllReadyK.nil
  go_simp
  go_at_call 121
  refine (r03rotl_any _ (wxor x7 y7) 7 25 (by decide) (by decide) (by decide)).mono ?_
  rintro e w9 ⟨rfl, rfl⟩
  go_wp2_with fail
  refine hK.out _ _ ?_ (fun hHeld2 => ?_)
  · exact ⟨p7, q7⟩
  clear hK K hHeld
  have hHeld := hHeld2
  clear hHeld2
  try simp only [sA, gA]
  refine' wpAnyK_take (i := 9) (v := ?v9r7) rfl (by kernel_rfl) (by kernel_rfl) (by kernel_rfl) (by kernel_rfl) (by kernel_rfl) (fun _ _ _ h => h) (Or.inl ⟨by rfl, ?hy9r7⟩) hHeld ?rest9r7
  case hy9r7 => intro w hSw; (try dsimp only at hSw); go_simp; all_goals with_reducible rfl
  try simp only [sA, gA]
  refine wpAnyK_ready (rs := [10]) (by kernel_rfl) (by simp) ?_
  refine AllReadyK.last rfl (fun K hK => ?_)
  go_simp
  refine hK.out _ _ ?_
  clear hK K
  try simp only [sA, gA]
  refine wpAnyK_done (by kernel_rfl) ?_ _
  clear hHeld
  go_upto_region 9 with fail
  refine world_is (P := fun W => Code.wp _ _ _ _ W) (fun W8 hW8 => ?_)
  have hB8 : Blk W8 w.heap.size 122 ((S7.set b (rotl (wxor x7 y7) 7)).map u32v).toArray := by rw [← hW8]; exact blkW_set HB7.out b (rotl (wxor x7 y7) 7)
  have hG8 : W0.grownBy W8 (some w.heap.size) := by rw [← hW8]; exact grown_tr HG7.out (grown_tr (grown_set' W7 w.heap.size b (u32v (rotl (wxor x7 y7) 7))) (grown_tr (grown_drew' _ _) (grown_drew' _ _)))
  clear hW8
  have hn7 : S7.set b (rotl (wxor x7 y7) 7) = stRot S7 b c 7 := by rw [← hx7, ← hy7]; rfl
  rw [hn7] at hB8
  have hl8 : Hid ((stRot S7 b c 7).length = 16) := by unfold Hid; rw [stRot_len]; exact hl7.out
  obtain ⟨S8, hS8⟩ : ∃ S, stRot S7 b c 7 = S := ⟨_, rfl⟩
  rw [hS8] at hB8 hl8
  have HB8 := Lib.hid hB8
  have HG8 := Lib.hid hG8
  have HS8 := Lib.hid hS8
  clear p7 q7 f7 hx7 hy7 hB8 hG8 hS8 hn7 HB7 HG7 hl7
  have hq : qrt S0 a b c d = S8 := by
    unfold qrt
    rw [HS1.out, HS2.out, HS3.out, HS4.out, HS5.out, HS6.out, HS7.out, HS8.out]
  rw [← hq] at hl8
  have hA1 : Hid (RndAt w W8 (qrt S0 a b c d)) := by rw [hq]; exact H0.out.next HB8.out HG8.out
  clear hq HB8 HG8 HS1 HS2 HS3 HS4 HS5 HS6 HS7 HS8 H0
  have hRl : Hid (((qrt S0 a b c d).map u32v).length = 16) := by unfold Hid; rw [List.length_map]; exact hl8.out
  have hRo : Hid (∀ v ∈ (qrt S0 a b c d).map u32v, v.oneCell' = true) := u32V_one _
  have hst := hA1.out.st
  obtain ⟨cs, hr, hrs⟩ := hA1.out.res
  have hrsH := Lib.hid hrs
  have hrH := Lib.hid hr
  have hbel := Lib.hid hA1.out.bel
  clear hA1 hr hrs hl8
  generalize hD : (qrt S0 a b c d).map u32v = D at *
  have hDH := Lib.hid hD
  have hrg := range_of_blk hst
  clear hD hst
  go_wp2_with (first | (refine wpList_load_mid rfl 122 _ rfl w.heap.size 0 rfl D _ hrg Tryd.underlying122 rfl ?hI1 ?_) | (refine wpList_store_mid rfl 122 _ _ rfl (w.heap.size + 1) 0 D.toArray rfl rfl ?hI2 ?hI3 ?hI4 ?_) | fail)
  case hI1 => rw [hRl.out]; exact infoA16'
  case hI2 => rw [hRl.out]; exact there_of_blk (o := 0) hrH.out (by rw [hrsH.out]; exact Nat.le_refl _)
  case hI3 => rw [hRl.out]; exact infoA16'
  case hI4 => exact hRo.out
  have hL := blk_setWhole hrH.out D (by rw [hRl.out, hrsH.out])
  have hBL := below_setCells (g := w.heap.size + 1) (Nat.le_succ _) D 0 _ hbel.out
  exact bodyPost_ret (results_c (P := Tryd.prog) rfl _ _ (w.heap.size + 1) 122 D.toArray _ rfl hL Tryd.underlying122 rfl (by rw [List.size_toArray, hRl.out]; exact infoA16)) rfl ⟨by rw [hDH.out], hBL⟩
end Go.Proofs.YtbhagfdkipgggaaDoor
