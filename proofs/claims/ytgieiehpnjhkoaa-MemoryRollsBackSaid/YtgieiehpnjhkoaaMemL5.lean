/-
  Layer 22 (memory): MemoryRollsBack, the walk.
-/
import Derived.Test.YtgieiehpnjhkoaaMemK2
import Derived.Deep.RegionHeld3
namespace Go.Proofs.Ytgieiehpnjhkoaa
open Go.RowKit Go.Shelf
attribute [local go_sem] Oper.semAt_some

section
variable {W : World}
set_option maxRecDepth 100000 in
set_option maxHeartbeats 4000000 in
theorem rolls_none (n : Int) (A : Option Addr) (N c : Nat) (x0 x1 x2 x3 x4 : Value) (h : n < 1 ∨ 64 < n) :
    Calls Try.prog 7 #[.int .i64 n, .slice A N c, .agg #[x0, x1, x2, x3, x4]] W fun e w' => e = .returned (.bool true) ∧ Below W.heap.size W w' := by
  have hB : Below W.heap.size W (W.alloc (.cells #[x0, x1, x2, x3, x4] 37)) := (Below.refl _ W).alloc (Nat.le_refl _) _
  have HB := Lib.hid hB
  clear hB
  go_enter Try.func7, Try.ntmps7
  go_wp2_with fail
  generalize (W.alloc (.cells #[x0, x1, x2, x3, x4] 37)) = W1 at HB ⊢
  have HP := Lib.hid (players_bad W1 n h)
  clear h
  go_wp2_with (first | (go_at_call 11; refine HP.out.mono ?_; rintro e w1 ⟨rfl, hA⟩; have kA := Lib.hid (HB.out.trans (hA.mono HB.out.size)); clear hA) | (go_at_call 10; refine (sanity_true _).mono ?_; rintro e w3 ⟨rfl, hB⟩; have kB := Lib.hid (kA.out.trans (hB.mono kA.out.size)); clear hB))
  go_ret
  exact ⟨rfl, kB.out⟩
set_option maxRecDepth 100000 in
set_option maxHeartbeats 4000000 in
theorem rolls_long (n : Nat) (h1 : 1 ≤ n) (h2 : n ≤ 64) (A : Option Addr) (N c : Nat) (x0 x1 x2 x3 x4 : Value) (h : 60 < N) :
    Calls Try.prog 7 #[.int .i64 n, .slice A N c, .agg #[x0, x1, x2, x3, x4]] W fun e w' => e = .returned (.bool true) ∧ Below W.heap.size W w' := by
  have hB : Below W.heap.size W (W.alloc (.cells #[x0, x1, x2, x3, x4] 37)) := (Below.refl _ W).alloc (Nat.le_refl _) _
  have HB := Lib.hid hB
  have d : decide (60 < (N : Int)) = true := decide_eq_true (by omega)
  have Hn := Lib.hid (And.intro h1 h2)
  clear hB h h1 h2
  go_enter Try.func7, Try.ntmps7
  go_wp2_with fail
  generalize (W.alloc (.cells #[x0, x1, x2, x3, x4] 37)) = W1 at HB ⊢
  go_wp2_with (first | (go_at_call 11; refine (uno_start2 HB.out Hn.out.1 Hn.out.2).mono ?_; rintro e w1 ⟨p, r, b, g, rfl, hu, _⟩; have kA := Lib.hid hu.out.bel; clear hu) | (go_at_call 10; refine (sanity_true _).mono ?_; rintro e w3 ⟨rfl, hB⟩; have kB := Lib.hid (kA.out.trans (hB.mono kA.out.size)); clear hB))
  go_ret
  exact ⟨rfl, kB.out⟩

set_option maxRecDepth 100000 in
set_option maxHeartbeats 4000000 in
theorem rolls_loop (n : Nat) (v : Value) (ops : List PlainOp) (hv : OpsAt W v ops) (o1 : PlainOp) (x0 x1 x2 x3 x4 : Value) (ho1 : OpOk W o1 (.agg #[x0, x1, x2, x3, x4])) (hn1 : 1 ≤ n) (hn : n ≤ 64) (hN : ops.length ≤ 60) :
    Calls Try.prog 7 #[.int .i64 n, v, .agg #[x0, x1, x2, x3, x4]] W fun e w' => e = .returned (.bool true) ∧ Below W.heap.size W w' := by
  obtain ⟨A, c, rfl, hA⟩ := hv
  obtain ⟨rfl, rfl, rfl, hfill, ⟨Ax, nx, cx, rfl⟩, hok1⟩ := ho1.write
  have hB : Below W.heap.size W (W.alloc (.cells #[x0, .int .i64 o1.i, .int .u8 o1.fill, .int .i64 o1.size, .slice Ax nx cx] 37)) := (Below.refl _ W).alloc (Nat.le_refl _) _
  have hq : Blk (W.alloc (.cells #[x0, .int .i64 o1.i, .int .u8 o1.fill, .int .i64 o1.size, .slice Ax nx cx] 37)) W.heap.size 37 #[x0, .int .i64 o1.i, .int .u8 o1.fill, .int .i64 o1.size, .slice Ax nx cx] := Blk.new _ _ _
  have HB := Lib.hid hB
  have HQ := Lib.hid hq
  have h2 : decide (60 < (ops.length : Int)) = false := decide_eq_false (by omega)
  have HA := Lib.hid hA
  have Hn := Lib.hid (And.intro hn1 (And.intro hn hN))
  have Hok1 := Lib.hid hok1
  have Hfill := Lib.hid hfill
  clear hA hn1 hn hN hB hq hok1 hfill ho1
  go_enter Try.func7, Try.ntmps7
  go_wp2_with fail
  generalize (W.alloc (.cells #[x0, .int .i64 o1.i, .int .u8 o1.fill, .int .i64 o1.size, .slice Ax nx cx] 37)) = W1 at HB HQ ⊢
  go_wp2_with (first | (go_at_call 11; refine (uno_start2 HB.out Hn.out.1 Hn.out.2.1).mono ?_; rintro e w1 ⟨p, r, b, g, rfl, hu, hb1⟩; have hq1 := Lib.hid (HQ.out.below hb1.out HQ.out.lt); clear hb1))
  have hu0 : Hid (Uno W w1 p b g (upTo n ops 0)) := hu
  clear hu HQ HB
  go_loopw [35] (fun a wr => ∃ k : Nat, k ≤ ops.length ∧ a = .int .i64 k ∧ Hid (Uno W wr p b g (upTo n ops k)) ∧ Hid (Blk wr W.heap.size 37 #[x0, .int .i64 o1.i, .int .u8 o1.fill, .int .i64 o1.size, .slice Ax nx cx])) (fun a _ => ops.length - (intOf a).toNat)
  case atStart => exact ⟨0, Nat.zero_le _, rfl, hu0, hq1⟩
  case round =>
    obtain ⟨k, hk, rfl, hu, hq⟩ := hrel
    by_cases hkl : k < ops.length
    · obtain ⟨o, ho⟩ : ∃ o, ops[k]? = some o := ⟨_, List.getElem?_eq_getElem hkl⟩
      obtain ⟨B, off, rfl, hbl, hat⟩ := HA.out (by omega)
      obtain ⟨A1, n1, cc, c0, c1, c2, c3, c4, hok⟩ := (hat k o ho).below hbl hu.out.bel
      have Hs := Lib.hid (upTo_sound n ops k hk)
      obtain ⟨er, t, het⟩ : ∃ er t, step o (upTo n ops k) = (er, t) := ⟨_, _, rfl⟩
      have Ht := Lib.hid het
      have Hok := Lib.hid hok
      have Hkk : Hid (upTo n ops (k + 1) = t) := by unfold Hid; rw [upTo_succ n ops k o ho, het]
      have hN := Hn.out.2.2
      clear hat hok het ho hu0 hq1
      go_wp2_with (first
        | (go_at_call 13; refine (uno_play (hu.out.on ((Below.refl _ _).alloc (Nat.le_refl _) _)) Hs.out Hn.out.2.1 (by have := Hn.out.2.2; omega) o _ Hok.out Ht.out).mono ?_; rintro e w2 ⟨rfl, h1, hop⟩; have hq2 := Lib.hid (hop _ _ _ (by decide) (by decide) (by decide) (hq.out.alloc _)); clear hop))
      go_roundw
      case rel => exact ⟨k + 1, by omega, by go_num, by rw [Hkk.out]; exact h1, hq2⟩
      case measure => simp [intOf]; omega
    · obtain rfl : k = ops.length := by omega
      have Hs := Lib.hid (upTo_sound n ops _ (Nat.le_refl _))
      have hc := hu.out.cell
      clear hu0 HA hq1
      have HF := Lib.hid (uno_flush hu.out Hs.out Hn.out.2.1)
      have Hop := Lib.hid (fun w' => hu.out.opblk (w' := w') hq.out)
      have Hs2 := Lib.hid Hs.out.flush
      have Hcl := Lib.hid (map_clean (upTo n ops ops.length).M)
      generalize hSt : ({ (upTo n ops ops.length) with M := (upTo n ops ops.length).M.map Sec.flushed } : St) = st at HF Hs2
      have Hcl2 : Hid (∀ s ∈ st.M, s.dirty = false) := by rw [← hSt]; exact Hcl.out
      clear hSt Hcl
      go_wp2_with (first
        | (go_at_call 20; refine HF.out.mono ?_; rintro e w2 ⟨rfl, h2, g2⟩; have hc2 := h2.out.cell; have hq2 := Lib.hid (Hop.out _ g2.out))
        | (go_at_call 22; refine (uno_image h2.out Hs2.out Hn.out.2.1).mono ?_; rintro e w3 ⟨old, rfl, ht3, h3, b3⟩; have hq3 := Lib.hid (hq2.out.below b3.out hq2.out.lt); have hz0 := hq3.out.cell 0; have hzf := hq3.out.frozen 0; have h4 := Lib.hid (h3.out.put hq3.out (Nat.le_refl _) 0 (.int .i64 1)); have hc4 := h4.out.cell; have hq4 : Hid (Blk (w3.setCell ⟨W.heap.size, 0, none⟩ (.int .i64 1)) W.heap.size 37 #[.int .i64 1, .int .i64 o1.i, .int .u8 o1.fill, .int .i64 o1.size, .slice Ax nx cx]) := hq3.out.set_ 0 _; have kt4 := Lib.hid (kt_put hq3.out 0 (.int .i64 1) old _ ht3.out))
        | (go_at_call 25; refine (uno_worn h4.out Hs2.out Hn.out.2.1).mono ?_; rintro e w5 ⟨A2, c2, rfl, hrow, h5, b5⟩; have hq5 := Lib.hid (hq4.out.below b5.out hq4.out.lt); have ht5 := Lib.hid (kt_below b5.out old _ kt4.out)))
      have hq5' := hq5
      have ht5' := ht5
      have h5' := h5
      clear HF Hop h2 g2 hc2 hq2 ht3 h3 b3 hq3 hz0 hzf h4 hc4 hq4 kt4 b5
      generalize hD : idxs Sec.worn st.M = D at hrow
      have HD := Lib.hid hD
      clear hD
      go_loop [13, 60] (fun wv a => ∃ k : Nat, k ≤ D.length ∧ a = .int .i64 k ∧ wv = .bool ((D.take k).any fun t => (t : Int) == o1.i)) (fun _ a => D.length - (intOf a).toNat)
      case atStart => exact ⟨0, Nat.zero_le _, rfl, rfl⟩
      case round =>
        obtain ⟨k, hk, rfl, rfl⟩ := hrel
        by_cases hkl : k < D.length
        · obtain ⟨t, ht⟩ : ∃ t, D[k]? = some t := ⟨_, List.getElem?_eq_getElem hkl⟩
          obtain ⟨gd, rfl, hgl, hgc⟩ := hrow.out k t ht
          have z1 := hq5.out.cell 1
          have Hany := Lib.hid (any_take_succ (fun t : Nat => (t : Int) == o1.i) ht)
          have hlen : Hid (D.length ≤ 64) := by
            unfold Hid
            rw [← HD.out]
            have a1 := upto_len (fun i => ((st.M[i]?).map Sec.worn).getD false) st.M.length
            have a2 := Hs2.out.len
            have a3 := Hn.out.2.1
            unfold idxs
            omega
          clear ht hq5' ht5' h5'
          have hkn : k < 64 := Nat.lt_of_lt_of_le hkl hlen.out
          generalize hfl : ((D.take k).any fun t => (t : Int) == o1.i) = fl at Hany ⊢
          clear hfl
          cases fl with
          | true =>
            go_wp2_with fail
            go_round
            case rel => exact ⟨k + 1, by omega, by go_num, by rw [Hany.out]; rfl⟩
            case measure => simp [intOf]; omega
          | false =>
            by_cases he : (t : Int) = o1.i
            · have e1 : ((t : Int) == o1.i) = true := by simp [he]
              clear he
              go_wp2_with fail
              go_round
              case rel => exact ⟨k + 1, by omega, by go_num, by rw [Hany.out, e1]; rfl⟩
              case measure => simp [intOf]; omega
            · have e1 : ((t : Int) == o1.i) = false := beq_f he
              clear he
              go_wp2_with fail
              go_round
              case rel => exact ⟨k + 1, by omega, by go_num, by rw [Hany.out, e1]; rfl⟩
              case measure => simp [intOf]; omega
        · obtain rfl : k = D.length := by omega
          rw [List.take_length]
          generalize hfl : (D.any fun t => (t : Int) == o1.i) = fl
          have Hfl := Lib.hid hfl
          have hc5 := h5.out.cell
          obtain ⟨q0, q1, q2, q3, q4⟩ := op_blk hq5.out
          clear hfl hq5' ht5' h5'
          by_cases hin : isAt st.M o1.i ∧ (textOf o1.fill o1.size).size = 64
          · have Ht : Hid (step { o1 with kind := 1 } st = (0, { st with M := upd (fun x => x.write (textOf o1.fill o1.size)) st.M o1.i })) := by
              unfold Hid step
              dsimp only
              rw [if_pos rfl, if_pos hin, if_pos hin]
            have Hin := Lib.hid hin
            clear hin
            cases fl with
            | true =>
              go_wp2_with (first
                | (go_at_call 13; refine (uno_play h5.out Hs2.out Hn.out.2.1 (by have := Hn.out.2.2; omega) _ _ Hok1.out Ht.out).mono ?_; rintro e w6 ⟨rfl, h6, hop⟩; clear hop)
                | (go_at_call 10; refine (sanity_true _).mono ?_; rintro e w7 ⟨rfl, hB⟩; have kB := Lib.hid (h6.out.bel.trans (hB.mono h6.out.bel.size)); clear hB))
              go_ret
              exact ⟨rfl, kB.out⟩
            | false =>
              obtain ⟨j, x, hj, hx, hup⟩ := isAt_get Hin.out.1
              have hxw : x.worn = false := by
                cases hw : x.worn with
                | false => rfl
                | true =>
                  have hm : j ∈ D := by rw [← HD.out]; exact idxs_mem.2 ⟨x, hx, hw⟩
                  have := List.any_eq_false.1 Hfl.out j hm
                  rw [hj] at this
                  simp at this
              obtain ⟨hp1, hp2⟩ := rolls_plain Hcl2.out (textOf o1.fill o1.size) hx hxw
              rw [← hj] at hp2
              have Hs6 : Hid (Sound n (ops.length + 1) { st with M := upd (fun x => x.write (textOf o1.fill o1.size)) st.M o1.i }) := by
                have := Hs2.out.step { o1 with kind := 1 }
                rw [Ht.out] at this
                exact this
              have hp1' : ((upd (fun x => x.write (textOf o1.fill o1.size)) st.M o1.i).map Sec.flushed)[j]? = some ⟨textOf o1.fill o1.size, x.now, ⟨#[]⟩, false, x.worn⟩ := by rw [hj]; exact hp1
              clear hp1
              have HM : Hid (st.M.map Sec.now = st.M.map Sec.now) := rfl
              generalize hM6 : upd (fun x => x.write (textOf o1.fill o1.size)) st.M o1.i = M6 at Ht Hs6 hp1' hp2
              have Hs7 := Lib.hid Hs6.out.flush
              dsimp only at Hs7
              have hr := read_at hp1'
              have hi7 : isAt (M6.map Sec.flushed) o1.i := by
                have a1 := (List.getElem?_eq_some_iff.1 hp1').1
                rw [hj]
                exact ⟨by omega, by omega⟩
              have hrt : readT (M6.map Sec.flushed) o1.i = textOf o1.fill o1.size := by rw [hj]; exact hr.1
              have hre : readE (M6.map Sec.flushed) o1.i = 0 := by rw [hj]; exact hr.2
              clear hr hp1' hM6 hup hx hxw hj
              generalize hM7 : M6.map Sec.flushed = M7 at Hs7 hi7 hrt hre hp2
              have HM7 := Lib.hid hM7
              clear hM7
              have Hs8 := Lib.hid (Hs7.out.turn (f := Sec.stale) (fun y hy => ⟨hy.2.1, hy.2.1, hy.2.2⟩) hi7)
              dsimp only at Hs8
              have Hi7 := Lib.hid hi7
              have Hrt := Lib.hid hrt
              have Hre := Lib.hid hre
              have Hp2 := Lib.hid hp2
              clear hi7 hrt hre hp2
              go_wp2_with (first
                | (go_at_call 13; refine (uno_play h5.out Hs2.out Hn.out.2.1 (by have := Hn.out.2.2; omega) _ _ Hok1.out Ht.out).mono ?_; rintro e w6 ⟨rfl, h6, hop⟩; have hq6 := Lib.hid (hop _ _ _ (by decide) (by decide) (by decide) hq5.out); have ht6 := Lib.hid (kt_blk hop old _ ht5.out); have hc6 := h6.out.cell; clear hop)
                | (go_at_call 20; refine (uno_flush h6.out Hs6.out Hn.out.2.1).mono ?_; rintro e w7 ⟨rfl, h7, g7⟩; have h7' : Hid (Uno W w7 p b g { st with M := M7 }) := (by rw [← HM7.out]; exact h7); have hq7 := Lib.hid (h6.out.opblk hq6.out g7.out); have ht7 := Lib.hid (h6.out.kt g7.out old _ ht6.out); have hc7 := h7.out.cell; obtain ⟨s0, s1, s2, s3, s4⟩ := op_blk hq7.out))
              have hd7 := Lib.hid (h7'.out.on (Below.refl w7.heap.size w7).drew)
              have HRd := Lib.hid (uno_read2 hd7.out Hrt.out Hre.out)
              have Hkb := Lib.hid (fun w' (br : Below w7.drew.heap.size w7.drew w') => kt_below (((Below.refl w7.heap.size w7).drew).trans br) old _ ht7.out)
              have Hqb := Lib.hid (fun w' (br : Below w7.drew.heap.size w7.drew w') => hq7.out.drew.below br hq7.out.lt)
              go_region_held3 (fun w' => w'.cell? ⟨p, 0, none⟩ = some (.pointer (some ⟨b, 0, none⟩)) ∧ w'.cell? ⟨W.heap.size, 1, none⟩ = some (.int .i64 o1.i)) (go_keep)
                (first
                | (go_at_call 18; refine HRd.out.mono ?_; rintro e wr ⟨rfl, hr7, br⟩; have hqr := Lib.hid (Hqb.out _ br.out); have htr := Lib.hid (Hkb.out _ br.out); have y1 := hr7.out.cell; obtain ⟨u0, u1, u2, u3, u4⟩ := op_blk hqr.out))
              go_wp2_with fail
              have hd8 := Lib.hid (hr7.out.on (Below.refl wr.heap.size wr).drew)
              have HSt := Lib.hid (uno_stale hd8.out Hi7.out)
              have Hkb8 := Lib.hid (fun w' (gr : wr.drew.grownBy w' (some g)) => hd8.out.kt gr old _ (kt_below ((Below.refl wr.heap.size wr).drew) old _ htr.out))
              have Hqb8 := Lib.hid (fun w' (gr : wr.drew.grownBy w' (some g)) => hd8.out.opblk (w' := w') hqr.out.drew gr)
              clear s0 s1 s2 s3 s4 hc7 hq7 ht7 h7 h7' g7 hd7 HRd Hkb Hqb h6 hc6 hq6 ht6
              go_region_held3 (fun w' => w'.cell? ⟨p, 0, none⟩ = some (.pointer (some ⟨b, 0, none⟩)) ∧ w'.cell? ⟨W.heap.size, 1, none⟩ = some (.int .i64 o1.i)) (go_keep)
                (first
                | (go_at_call 26; refine HSt.out.mono ?_; rintro e ws ⟨rfl, h8, g8⟩; have hq8 := Lib.hid (Hqb8.out _ g8.out); have ht8 := Lib.hid (Hkb8.out _ g8.out); have y2 := h8.out.cell; obtain ⟨s0, s1, s2, s3, s4⟩ := op_blk hq8.out))
              go_wp2_with (first
                | (go_at_call 10; refine (sanity_true _).mono ?_; rintro e w9 ⟨rfl, hB⟩; have h9 := Lib.hid (h8.out.on hB); have hq9 := Lib.hid (hq8.out.below hB hq8.out.lt); have ht9 := Lib.hid (kt_below hB old _ ht8.out); clear hB; have y9 := h9.out.cell; obtain ⟨z0, z1, z2, z3, z4⟩ := op_blk hq9.out)
                | (go_at_call 16; refine (Text_any _ 1 o1.i o1.size o1.fill Hfill.out (.slice Ax nx cx) ⟨_, _, _, rfl⟩).mono ?_; rintro e wt ⟨rfl, hB⟩; have h10 := Lib.hid (h9.out.on hB); have ht10 := Lib.hid (kt_below hB old _ ht9.out); clear hB; have y10 := h10.out.cell)
                | (go_at_call 22; refine (uno_image h10.out Hs8.out Hn.out.2.1).mono ?_; rintro e wi ⟨now, rfl, ht11, h11, b11⟩; have ht12 := Lib.hid (kt_below b11.out old _ ht10.out); have ht13 : Hid (Texts wi now (st.M.map Sec.now)) := (by have h := ht11.out; rw [← Hp2.out]; exact h))
                | (go_at_call 27; refine (sameTexts_true _ _ _ _ ht13.out ht12.out).mono ?_; rintro e wz ⟨rfl, hB⟩; have kB := Lib.hid (h11.out.bel.trans (hB.mono h11.out.bel.size)); clear hB))
              go_ret
              exact ⟨rfl, kB.out⟩
          · have Ht : Hid (step { o1 with kind := 1 } st = (1, st)) := by
              unfold Hid step
              dsimp only
              rw [if_pos rfl, if_neg hin, if_neg hin]
            clear hin
            go_wp2_with (first
              | (go_at_call 13; refine (uno_play h5.out Hs2.out Hn.out.2.1 (by have := Hn.out.2.2; omega) _ _ Hok1.out Ht.out).mono ?_; rintro e w6 ⟨rfl, h6, hop⟩; clear hop)
              | (go_at_call 10; refine (sanity_true _).mono ?_; rintro e w7 ⟨rfl, hB⟩; have kB := Lib.hid (h6.out.bel.trans (hB.mono h6.out.bel.size)); clear hB))
            go_ret
            exact ⟨rfl, kB.out⟩
/-- The whole. -/
theorem law_rolls (n : Int) (v u : Value) (ops : List PlainOp) (o : PlainOp) (hv : OpsAt W v ops) (ho : OpOk W o u) :
    Calls Try.prog 7 #[.int .i64 n, v, u] W fun e w' => e = .returned (.bool true) ∧ Below W.heap.size W w' := by
  have h0 := hv
  have h0' := ho
  obtain ⟨A, c, rfl, _⟩ := hv
  obtain ⟨pv, rfl, _⟩ := ho
  by_cases h1 : n < 1 ∨ 64 < n
  · exact rolls_none n A ops.length c _ _ _ _ _ h1
  · obtain ⟨m, rfl⟩ := Int.eq_ofNat_of_zero_le (show 0 ≤ n by omega)
    by_cases h2 : 60 < ops.length
    · exact rolls_long m (by omega) (by omega) A ops.length c _ _ _ _ _ h2
    · exact rolls_loop m _ ops h0 o _ _ _ _ _ h0' (by omega) (by omega) (by omega)
end
end Go.Proofs.Ytgieiehpnjhkoaa
