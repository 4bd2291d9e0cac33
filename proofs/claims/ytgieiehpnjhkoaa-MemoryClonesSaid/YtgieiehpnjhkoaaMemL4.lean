/-
  Layer 22 (memory): MemoryClones, the walk.
-/
import Derived.Test.YtgieiehpnjhkoaaMemK3
import Derived.Deep.RegionHeld3
namespace Go.Proofs.Ytgieiehpnjhkoaa
open Go.RowKit Go.Shelf
attribute [local go_sem] Oper.semAt_some

/-- A script played on from a state. -/
def goOn (s : St) (ops : List PlainOp) (k : Nat) : St := runs (ops.take k) s
theorem goOn_sound {n m : Nat} {s : St} (hs : Sound n m s) (ops : List PlainOp) (k : Nat) (h : k ≤ ops.length) : Sound n (m + k) (goOn s ops k) := by
  have := hs.runs (ops.take k)
  rw [List.length_take, Nat.min_eq_left h] at this
  exact this
theorem goOn_succ (s : St) (ops : List PlainOp) (k : Nat) (o : PlainOp) (h : ops[k]? = some o) : goOn s ops (k + 1) = (step o (goOn s ops k)).2 := by
  unfold goOn
  rw [List.take_add_one, h]
  exact runs_snoc _ _ _

theorem imgs_form {w : World} {v : Value} {I : List (List ByteArray)} (h : Imgs w v I) : ∃ A n c, v = .slice A n c := by
  obtain ⟨A, c, rfl, _⟩ := imgs_parts h
  exact ⟨A, _, c, rfl⟩

section
variable {W : World}
set_option maxRecDepth 100000 in
set_option maxHeartbeats 4000000 in
theorem clones_none (n : Int) (A A' A2 : Option Addr) (N c N' c' N2 c2 : Nat) (h : n < 1 ∨ 64 < n) :
    Calls Try.prog 8 #[.int .i64 n, .slice A N c, .slice A' N' c', .slice A2 N2 c2] W fun e w' => e = .returned (.bool true) ∧ Below W.heap.size W w' := by
  have HP := Lib.hid (players_bad W n h)
  clear h
  go_enter Try.func8, Try.ntmps8
  go_wp2_with (first | (go_at_call 11; refine HP.out.mono ?_; rintro e w1 ⟨rfl, hA⟩; have kA := Lib.hid hA; clear hA) | (go_at_call 10; refine (sanity_true _).mono ?_; rintro e w3 ⟨rfl, hB⟩; have kB := Lib.hid (kA.out.trans (hB.mono kA.out.size)); clear hB))
  go_ret
  exact ⟨rfl, kB.out⟩
set_option maxRecDepth 100000 in
set_option maxHeartbeats 4000000 in
theorem clones_long1 (n : Nat) (h1 : 1 ≤ n) (h2 : n ≤ 64) (A A' A2 : Option Addr) (N c N' c' N2 c2 : Nat) (h : 60 < N) :
    Calls Try.prog 8 #[.int .i64 n, .slice A N c, .slice A' N' c', .slice A2 N2 c2] W fun e w' => e = .returned (.bool true) ∧ Below W.heap.size W w' := by
  have HP := Lib.hid (duo_start (W := W) h1 h2)
  clear h1 h2
  have d : decide (60 < (N : Int)) = true := decide_eq_true (by omega)
  clear h
  go_enter Try.func8, Try.ntmps8
  go_wp2_with (first | (go_at_call 11; refine HP.out.mono ?_; rintro e w1 ⟨p, r, b, g, rb, rg, rfl, hl, hu⟩; have kA := Lib.hid hu.out.bel; clear hu) | (go_at_call 10; refine (sanity_true _).mono ?_; rintro e w3 ⟨rfl, hB⟩; have kB := Lib.hid (kA.out.trans (hB.mono kA.out.size)); clear hB))
  go_ret
  exact ⟨rfl, kB.out⟩
set_option maxRecDepth 100000 in
set_option maxHeartbeats 4000000 in
theorem clones_long2 (n : Nat) (h1 : 1 ≤ n) (h2 : n ≤ 64) (A A' A2 : Option Addr) (N c N' c' N2 c2 : Nat) (h : N ≤ 60 ∧ 60 < N') :
    Calls Try.prog 8 #[.int .i64 n, .slice A N c, .slice A' N' c', .slice A2 N2 c2] W fun e w' => e = .returned (.bool true) ∧ Below W.heap.size W w' := by
  have HP := Lib.hid (duo_start (W := W) h1 h2)
  clear h1 h2
  have d : decide (60 < (N : Int)) = false := decide_eq_false (by omega)
  have d' : decide (60 < (N' : Int)) = true := decide_eq_true (by omega)
  clear h
  go_enter Try.func8, Try.ntmps8
  go_wp2_with (first | (go_at_call 11; refine HP.out.mono ?_; rintro e w1 ⟨p, r, b, g, rb, rg, rfl, hl, hu⟩; have kA := Lib.hid hu.out.bel; clear hu) | (go_at_call 10; refine (sanity_true _).mono ?_; rintro e w3 ⟨rfl, hB⟩; have kB := Lib.hid (kA.out.trans (hB.mono kA.out.size)); clear hB))
  go_ret
  exact ⟨rfl, kB.out⟩
set_option maxRecDepth 100000 in
set_option maxHeartbeats 4000000 in
theorem clones_long3 (n : Nat) (h1 : 1 ≤ n) (h2 : n ≤ 64) (A A' A2 : Option Addr) (N c N' c' N2 c2 : Nat) (h : N ≤ 60 ∧ N' ≤ 60 ∧ 60 < N2) :
    Calls Try.prog 8 #[.int .i64 n, .slice A N c, .slice A' N' c', .slice A2 N2 c2] W fun e w' => e = .returned (.bool true) ∧ Below W.heap.size W w' := by
  have HP := Lib.hid (duo_start (W := W) h1 h2)
  clear h1 h2
  have d : decide (60 < (N : Int)) = false := decide_eq_false (by omega)
  have d' : decide (60 < (N' : Int)) = false := decide_eq_false (by omega)
  have d2 : decide (60 < (N2 : Int)) = true := decide_eq_true (by omega)
  clear h
  go_enter Try.func8, Try.ntmps8
  go_wp2_with (first | (go_at_call 11; refine HP.out.mono ?_; rintro e w1 ⟨p, r, b, g, rb, rg, rfl, hl, hu⟩; have kA := Lib.hid hu.out.bel; clear hu) | (go_at_call 10; refine (sanity_true _).mono ?_; rintro e w3 ⟨rfl, hB⟩; have kB := Lib.hid (kA.out.trans (hB.mono kA.out.size)); clear hB))
  go_ret
  exact ⟨rfl, kB.out⟩
set_option maxRecDepth 100000 in
set_option maxHeartbeats 4000000 in
theorem clones_loop (n : Nat) (v0 v1 v2 : Value) (ops one two : List PlainOp) (hv : OpsAt W v0 ops) (hv1 : OpsAt W v1 one) (hv2 : OpsAt W v2 two) (hn1 : 1 ≤ n) (hn : n ≤ 64) (hN : ops.length ≤ 60) (hN1 : one.length ≤ 60) (hN2 : two.length ≤ 60) :
    Calls Try.prog 8 #[.int .i64 n, v0, v1, v2] W fun e w' => e = .returned (.bool true) ∧ Below W.heap.size W w' := by
  obtain ⟨A, c, rfl, hA⟩ := hv
  obtain ⟨A', c', rfl, hA1⟩ := hv1
  obtain ⟨A2, c2, rfl, hA2⟩ := hv2
  have HP := Lib.hid (duo_start (W := W) hn1 hn)
  have h0 : decide (60 < (ops.length : Int)) = false := decide_eq_false (by omega)
  have h1 : decide (60 < (one.length : Int)) = false := decide_eq_false (by omega)
  have h2 : decide (60 < (two.length : Int)) = false := decide_eq_false (by omega)
  have HA := Lib.hid hA
  have HA1 := Lib.hid hA1
  have HA2 := Lib.hid hA2
  have Hn := Lib.hid (And.intro hn1 (And.intro hn (And.intro hN (And.intro hN1 hN2))))
  clear hA hA1 hA2 hn1 hn hN hN1 hN2
  go_enter Try.func8, Try.ntmps8
  go_wp2_with (first | (go_at_call 11; refine HP.out.mono ?_; rintro e w1 ⟨p, r, b, g, rb, rg, rfl, hl, hd⟩))
  have hd0 : Hid (Duo W w1 p b g r rb rg (upTo n ops 0) (upTo n ops 0)) := hd
  clear hd HP
  go_loopw [46] (fun a wr => ∃ k : Nat, k ≤ ops.length ∧ a = .int .i64 k ∧ Hid (Duo W wr p b g r rb rg (upTo n ops k) (upTo n ops k))) (fun a _ => ops.length - (intOf a).toNat)
  case atStart => exact ⟨0, Nat.zero_le _, rfl, hd0⟩
  case round =>
    obtain ⟨k, hk, rfl, hd⟩ := hrel
    by_cases hkl : k < ops.length
    · obtain ⟨o, ho⟩ : ∃ o, ops[k]? = some o := ⟨_, List.getElem?_eq_getElem hkl⟩
      obtain ⟨B, off, rfl, hbl, hat⟩ := HA.out (by omega)
      obtain ⟨A1, n1, cc, c0, c1, c2, c3, c4, hok⟩ := (hat k o ho).below hbl hd.out.bel
      have Hs := Lib.hid (upTo_sound n ops k hk)
      obtain ⟨er, t, het⟩ : ∃ er t, step o (upTo n ops k) = (er, t) := ⟨_, _, rfl⟩
      have Ht := Lib.hid het
      have Hok := Lib.hid hok
      have Hkk : Hid (upTo n ops (k + 1) = t) := by unfold Hid; rw [upTo_succ n ops k o ho, het]
      have hN := Hn.out.2.2.1
      clear hat hok het ho hd0
      go_wp2_with fail
      have hop0 : Blk (wr.alloc (.cells #[.int .i64 o.kind, .int .i64 o.i, .int .u8 o.fill, .int .i64 o.size, .slice A1 n1 cc] 37)) wr.heap.size 37 #[.int .i64 o.kind, .int .i64 o.i, .int .u8 o.fill, .int .i64 o.size, .slice A1 n1 cc] := Blk.new wr _ _
      have hdu : Hid (Duo W (wr.alloc (.cells #[.int .i64 o.kind, .int .i64 o.i, .int .u8 o.fill, .int .i64 o.size, .slice A1 n1 cc] 37)) p b g r rb rg (upTo n ops k) (upTo n ops k)) := hd.out.on ((Below.refl _ _).alloc (Nat.le_refl _) _)
      generalize (wr.alloc (.cells #[.int .i64 o.kind, .int .i64 o.i, .int .u8 o.fill, .int .i64 o.size, .slice A1 n1 cc] 37)) = w0 at hop0 hdu ⊢
      have Hop := Lib.hid hop0
      obtain ⟨p0, p1, p2, p3, p4⟩ := op_blk hop0
      clear hop0 hd c0 c1 c2 c3 c4
      go_wp2_with (first
        | (go_at_call 13; refine (duo_play1 hl.out hdu.out Hs.out Hn.out.2.1 (by have := Hn.out.2.2; omega) o _ Hok.out Ht.out).mono ?_; rintro e wa ⟨rfl, g1, hop⟩; have hop1 := Lib.hid (hop _ _ Hop.out); clear hop; obtain ⟨q0, q1, q2, q3, q4⟩ := op_blk hop1.out)
        | (go_at_call 14; refine (duo_play2 hl.out g1.out Hs.out Hn.out.2.1 (by have := Hn.out.2.2; omega) o _ Hok.out Ht.out).mono ?_; rintro e wb ⟨rfl, g2, hop⟩; clear hop))
      go_roundw
      case rel => exact ⟨k + 1, by omega, by go_num, by rw [Hkk.out]; exact g2⟩
      case measure => simp [intOf]; omega
    · obtain rfl : k = ops.length := by omega
      have Hs0 := Lib.hid (upTo_sound n ops _ (Nat.le_refl _))
      obtain ⟨v, rv, i1, i2, hB, hv, hrv, hsep⟩ := hd.out
      obtain ⟨Av, nv, cv, rfl⟩ := imgs_form i1.imgs
      obtain ⟨Ar, nr, cr, rfl⟩ := imgs_form i2.imgs
      have I1 := Lib.hid i1
      have I2 := Lib.hid i2
      have hB' := Lib.hid hB
      have HV := Lib.hid (And.intro hv (And.intro hrv hsep))
      have z0 := i1.blk.cell 0
      have z1 := i1.blk.cell 1
      have z2 := i2.blk.cell 0
      have z3 := i2.blk.cell 1
      have HC1 := Lib.hid (clone1 (i1.below (Below.refl _ wr).drew) (i2.below (Below.refl _ wr).drew) hB.drew Hs0.out Hn.out.2.1)
      clear i1 i2 hB hv hrv hsep hd hd0 HA
      generalize upTo n ops ops.length = s0 at Hs0 I1 I2 HC1
      go_wp2_with fail
      have zb : ∀ (a x y : Nat), p < wr.heap.size := fun _ _ _ => I1.out.blk.lt
      clear zb
      go_region_held3 (fun w' => w'.cell? ⟨p, 0, none⟩ = some (.pointer (some ⟨b, 0, none⟩)) ∧ w'.cell? ⟨p, 1, none⟩ = some (.slice Av nv cv)) (go_keep)
        (first
        | (go_at_call 28; refine HC1.out.mono ?_; rintro e wc ⟨qb, qg, rfl, k1, b1⟩; have y0 := k1.out.pl.blk.cell 0; have y1 := k1.out.pl.blk.cell 1; have y4 := k1.out.pl.blk.lt))
      go_wp2_with fail
      have hqb0 : Blk (wc.alloc (.cells #[.pointer (some ⟨qb, 0, none⟩), .slice Av nv cv] 42)) wc.heap.size 42 #[.pointer (some ⟨qb, 0, none⟩), .slice Av nv cv] := Blk.new _ _ _
      have k2 := Lib.hid (k1.out.on ((Below.refl wc.heap.size wc).alloc (Nat.le_refl _) (.cells #[.pointer (some ⟨qb, 0, none⟩), .slice Av nv cv] 42)))
      have Hqn : Hid (W.heap.size ≤ wc.heap.size ∧ wc.heap.size ≠ p ∧ r < wc.heap.size) := ⟨k1.out.bel.size, by have := k1.out.pl.blk.lt; omega, k1.out.rl.blk.lt⟩
      generalize hq : wc.heap.size = q at hqb0 Hqn ⊢
      generalize (wc.alloc (.cells #[.pointer (some ⟨qb, 0, none⟩), .slice Av nv cv] 42)) = wq at hqb0 k2 ⊢
      clear k1 b1 y0 y1 y4 HC1 hq z0 z1 z2 z3
      have u0 := k2.out.rl.blk.cell 0
      have u1 := k2.out.rl.blk.cell 1
      have HC2 := Lib.hid (clone2 (k2.out.on (Below.refl _ wq).drew) hqb0.drew Hs0.out Hn.out.2.1)
      have u4 : r < wq.heap.size := k2.out.rl.blk.lt
      clear hqb0 k2
      go_region_held3 (fun w' => w'.cell? ⟨r, 0, none⟩ = some (.pointer (some ⟨rb, 0, none⟩)) ∧ w'.cell? ⟨r, 1, none⟩ = some (.slice Ar nr cr)) (go_keep)
        (first
        | (go_at_call 29; refine HC2.out.mono ?_; rintro e wd ⟨sb, sg, rfl, k3, b3⟩; have y0 := k3.out.cl.rl.blk.cell 0; have y1 := k3.out.cl.rl.blk.cell 1; have y4 := k3.out.cl.rl.blk.lt))
      go_wp2_with fail
      have hsb0 : Blk (wd.alloc (.cells #[.pointer (some ⟨sb, 0, none⟩), .slice Ar nr cr] 44)) wd.heap.size 44 #[.pointer (some ⟨sb, 0, none⟩), .slice Ar nr cr] := Blk.new _ _ _
      have k4 := Lib.hid (k3.out.on ((Below.refl wd.heap.size wd).alloc (Nat.le_refl _) (.cells #[.pointer (some ⟨sb, 0, none⟩), .slice Ar nr cr] 44)))
      have Hsn : Hid (W.heap.size ≤ wd.heap.size ∧ wd.heap.size ≠ r) := ⟨k3.out.cl.bel.size, by have := k3.out.cl.rl.blk.lt; omega⟩
      generalize hs : wd.heap.size = s at hsb0 Hsn ⊢
      generalize (wd.alloc (.cells #[.pointer (some ⟨sb, 0, none⟩), .slice Ar nr cr] 44)) = ws at hsb0 k4 ⊢
      clear k3 b3 y0 y1 y4 HC2 hs u0 u1 u4
      obtain ⟨hQ0, hK⟩ := cloned hl.out k4.out hsb0 Hqn.out.1 Hsn.out.1 Hqn.out.2.1 Hsn.out.2 HV.out.1 HV.out.2.1 HV.out.2.2
      have hQ := Lib.hid hQ0
      have hk0 := Lib.hid hK
      have x3 := hK.c3
      have x4 := hK.c4
      clear hQ0 hK k4 hsb0 I1 I2 hB' HV
      have HSm := Lib.hid (quad_same (hk0.out.on (Below.refl _ ws).drew) Hs0.out Hn.out.2.1)
      clear hk0
      go_region_held3 (fun w' => w'.cell? ⟨q, 0, none⟩ = some (.pointer (some ⟨qb, 0, none⟩)) ∧ w'.cell? ⟨s, 0, none⟩ = some (.pointer (some ⟨sb, 0, none⟩))) (go_keep)
        (first
        | (go_at_call 15; refine HSm.out.mono ?_; rintro e we ⟨rfl, hk1⟩; have y0 := hk1.out.c3; have y1 := hk1.out.c4))
      have hq0 : Hid (Quad W we p b g r rb rg q qb qg s sb sg (goOn s0 one 0) (goOn s0 one 0) s0) := hk1
      clear hk1 y0 y1 x3 x4 HSm
      go_wp2_with fail
      go_loopw [91] (fun a wr => ∃ k : Nat, k ≤ one.length ∧ a = .int .i64 k ∧ Hid (Quad W wr p b g r rb rg q qb qg s sb sg (goOn s0 one k) (goOn s0 one k) s0)) (fun a _ => one.length - (intOf a).toNat)
      case atStart => exact ⟨0, Nat.zero_le _, rfl, hq0⟩
      case round =>
        obtain ⟨k, hk, rfl, hd⟩ := hrel
        by_cases hkl : k < one.length
        · obtain ⟨o, ho⟩ : ∃ o, one[k]? = some o := ⟨_, List.getElem?_eq_getElem hkl⟩
          obtain ⟨B, off, rfl, hbl, hat⟩ := HA1.out (by omega)
          obtain ⟨A1, n1, cc, c0, c1, c2, c3, c4, hok⟩ := (hat k o ho).below hbl hd.out.bel
          have Hs := Lib.hid (goOn_sound Hs0.out one k hk)
          obtain ⟨er, t, het⟩ : ∃ er t, step o (goOn s0 one k) = (er, t) := ⟨_, _, rfl⟩
          have Ht := Lib.hid het
          have Hok := Lib.hid hok
          have Hkk : Hid (goOn s0 one (k + 1) = t) := by unfold Hid; rw [goOn_succ s0 one k o ho, het]
          have hN := Hn.out.2.2.2.1
          clear hat hok het ho hq0
          go_wp2_with fail
          have hop0 : Blk (wr.alloc (.cells #[.int .i64 o.kind, .int .i64 o.i, .int .u8 o.fill, .int .i64 o.size, .slice A1 n1 cc] 37)) wr.heap.size 37 #[.int .i64 o.kind, .int .i64 o.i, .int .u8 o.fill, .int .i64 o.size, .slice A1 n1 cc] := Blk.new wr _ _
          have hdu : Hid (Quad W (wr.alloc (.cells #[.int .i64 o.kind, .int .i64 o.i, .int .u8 o.fill, .int .i64 o.size, .slice A1 n1 cc] 37)) p b g r rb rg q qb qg s sb sg (goOn s0 one k) (goOn s0 one k) s0) := hd.out.on ((Below.refl _ _).alloc (Nat.le_refl _) _)
          generalize (wr.alloc (.cells #[.int .i64 o.kind, .int .i64 o.i, .int .u8 o.fill, .int .i64 o.size, .slice A1 n1 cc] 37)) = w0 at hop0 hdu ⊢
          have Hop := Lib.hid hop0
          obtain ⟨p0, p1, p2, p3, p4⟩ := op_blk hop0
          clear hop0 hd c0 c1 c2 c3 c4
          go_wp2_with (first
            | (go_at_call 13; refine (quad_play1 hQ.out hdu.out Hs.out Hn.out.2.1 (by have := Hn.out.2.2; omega) o _ Hok.out Ht.out).mono ?_; rintro e wa ⟨rfl, g1, hop⟩; have hop1 := Lib.hid (hop _ _ Hop.out); clear hop; obtain ⟨q0, q1, q2, q3, q4⟩ := op_blk hop1.out)
            | (go_at_call 14; refine (quad_play2 hQ.out g1.out Hs.out Hn.out.2.1 (by have := Hn.out.2.2; omega) o _ Hok.out Ht.out).mono ?_; rintro e wb ⟨rfl, g2, hop⟩; clear hop))
          go_roundw
          case rel => exact ⟨k + 1, by omega, by go_num, by rw [Hkk.out]; exact g2⟩
          case measure => simp [intOf]; omega
        · obtain rfl : k = one.length := by omega
          have htl : Hid (Tail W wr p b g r rb rg q qb qg s sb sg (goOn s0 one one.length).M (goOn s0 two 0) (goOn s0 two 0)) := hd.out.tail rfl
          have HM1 : Hid ((goOn s0 one one.length).M.length ≤ 4096) := by
            have := (goOn_sound Hs0.out one one.length (Nat.le_refl _)).len
            have := Hn.out.2.1
            unfold Hid
            omega
          clear hd hq0 HA1
          generalize (goOn s0 one one.length).M = M1 at htl HM1
          go_wp2_with fail
          go_loopw [104] (fun a wr => ∃ k : Nat, k ≤ two.length ∧ a = .int .i64 k ∧ Hid (Tail W wr p b g r rb rg q qb qg s sb sg M1 (goOn s0 two k) (goOn s0 two k))) (fun a _ => two.length - (intOf a).toNat)
          case atStart => exact ⟨0, Nat.zero_le _, rfl, htl⟩
          case round =>
            obtain ⟨k, hk, rfl, hd⟩ := hrel
            by_cases hkl : k < two.length
            · obtain ⟨o, ho⟩ : ∃ o, two[k]? = some o := ⟨_, List.getElem?_eq_getElem hkl⟩
              obtain ⟨B, off, rfl, hbl, hat⟩ := HA2.out (by omega)
              obtain ⟨A1, n1, cc, c0, c1, c2, c3, c4, hok⟩ := (hat k o ho).below hbl hd.out.bel
              have Hs := Lib.hid (goOn_sound Hs0.out two k hk)
              obtain ⟨er, t, het⟩ : ∃ er t, step o (goOn s0 two k) = (er, t) := ⟨_, _, rfl⟩
              have Ht := Lib.hid het
              have Hok := Lib.hid hok
              have Hkk : Hid (goOn s0 two (k + 1) = t) := by unfold Hid; rw [goOn_succ s0 two k o ho, het]
              have hN := Hn.out.2.2.2.2
              clear hat hok het ho htl
              go_wp2_with fail
              have hop0 : Blk (wr.alloc (.cells #[.int .i64 o.kind, .int .i64 o.i, .int .u8 o.fill, .int .i64 o.size, .slice A1 n1 cc] 37)) wr.heap.size 37 #[.int .i64 o.kind, .int .i64 o.i, .int .u8 o.fill, .int .i64 o.size, .slice A1 n1 cc] := Blk.new wr _ _
              have hdu : Hid (Tail W (wr.alloc (.cells #[.int .i64 o.kind, .int .i64 o.i, .int .u8 o.fill, .int .i64 o.size, .slice A1 n1 cc] 37)) p b g r rb rg q qb qg s sb sg M1 (goOn s0 two k) (goOn s0 two k)) := hd.out.on ((Below.refl _ _).alloc (Nat.le_refl _) _)
              generalize (wr.alloc (.cells #[.int .i64 o.kind, .int .i64 o.i, .int .u8 o.fill, .int .i64 o.size, .slice A1 n1 cc] 37)) = w0 at hop0 hdu ⊢
              have Hop := Lib.hid hop0
              obtain ⟨p0, p1, p2, p3, p4⟩ := op_blk hop0
              clear hop0 hd c0 c1 c2 c3 c4
              go_wp2_with (first
                | (go_at_call 13; refine (tail_play1 hQ.out hdu.out Hs.out Hn.out.2.1 (by have := Hn.out.2.2; omega) o _ Hok.out Ht.out).mono ?_; rintro e wa ⟨rfl, g1, hop⟩; have hop1 := Lib.hid (hop _ _ Hop.out); clear hop; obtain ⟨q0, q1, q2, q3, q4⟩ := op_blk hop1.out)
                | (go_at_call 14; refine (tail_play2 hQ.out g1.out Hs.out Hn.out.2.1 (by have := Hn.out.2.2; omega) o _ Hok.out Ht.out).mono ?_; rintro e wb ⟨rfl, g2, hop⟩; clear hop))
              go_roundw
              case rel => exact ⟨k + 1, by omega, by go_num, by rw [Hkk.out]; exact g2⟩
              case measure => simp [intOf]; omega
            · obtain rfl : k = two.length := by omega
              obtain ⟨z0, z1, z2, z3⟩ := hd.out.cells
              have Hs2 := Lib.hid (goOn_sound Hs0.out two two.length (Nat.le_refl _))
              generalize goOn s0 two two.length = s2 at hd Hs2
              clear htl HA2
              go_wp2_with fail
              have hdr := Lib.hid (hd.out.on (Below.refl _ wr).drew)
              clear hd
              go_region_held3 (fun w' => w'.cell? ⟨p, 0, none⟩ = some (.pointer (some ⟨b, 0, none⟩)) ∧ w'.cell? ⟨r, 0, none⟩ = some (.pointer (some ⟨rb, 0, none⟩)) ∧ w'.cell? ⟨q, 0, none⟩ = some (.pointer (some ⟨qb, 0, none⟩)) ∧ w'.cell? ⟨s, 0, none⟩ = some (.pointer (some ⟨sb, 0, none⟩))) (go_keep)
                (first
                | (go_at_call 10; refine (sanity_true _).mono ?_; rintro e wx ⟨rfl, hB⟩; have g1 := Lib.hid (hdr.out.on hB); clear hB; obtain ⟨t0, t1, t2, t3⟩ := g1.out.cells)
                | (go_at_call 15; refine (tail_same2 g2.out Hs2.out Hn.out.2.1).mono ?_; rintro e wz ⟨rfl, g3⟩; obtain ⟨t0, t1, t2, t3⟩ := g3.out.cells)
                | (go_at_call 15; refine (tail_same1 g1.out HM1.out).mono ?_; rintro e wy ⟨rfl, g2⟩; obtain ⟨t0, t1, t2, t3⟩ := g2.out.cells))
              go_wp2_with fail
              go_ret
              exact ⟨rfl, g3.out.bel⟩
/-- The whole. -/
theorem law_clones (n : Int) (v0 v1 v2 : Value) (ops one two : List PlainOp) (hv : OpsAt W v0 ops) (hv1 : OpsAt W v1 one) (hv2 : OpsAt W v2 two) :
    Calls Try.prog 8 #[.int .i64 n, v0, v1, v2] W fun e w' => e = .returned (.bool true) ∧ Below W.heap.size W w' := by
  have g0 := hv
  have g1 := hv1
  have g2 := hv2
  obtain ⟨A, c, rfl, _⟩ := hv
  obtain ⟨A', c', rfl, _⟩ := hv1
  obtain ⟨A2, c2, rfl, _⟩ := hv2
  by_cases h1 : n < 1 ∨ 64 < n
  · exact clones_none n A A' A2 ops.length c one.length c' two.length c2 h1
  · obtain ⟨m, rfl⟩ := Int.eq_ofNat_of_zero_le (show 0 ≤ n by omega)
    by_cases h2 : 60 < ops.length
    · exact clones_long1 m (by omega) (by omega) A A' A2 ops.length c one.length c' two.length c2 h2
    · by_cases h3 : 60 < one.length
      · exact clones_long2 m (by omega) (by omega) A A' A2 ops.length c one.length c' two.length c2 ⟨by omega, h3⟩
      · by_cases h4 : 60 < two.length
        · exact clones_long3 m (by omega) (by omega) A A' A2 ops.length c one.length c' two.length c2 ⟨by omega, by omega, h4⟩
        · exact clones_loop m _ _ _ ops one two g0 g1 g2 (by omega) (by omega) (by omega) (by omega) (by omega)
end
end Go.Proofs.Ytgieiehpnjhkoaa
