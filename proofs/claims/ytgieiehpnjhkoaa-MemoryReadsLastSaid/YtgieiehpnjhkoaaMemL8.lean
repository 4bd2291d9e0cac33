/-
  Layer 22 (memory): MemoryReadsLast, the walk of the law itself.
-/
import Derived.Test.YtgieiehpnjhkoaaMemL7
namespace Go.Proofs.Ytgieiehpnjhkoaa
open Go.RowKit Go.Shelf Go.Maps
attribute [local go_sem] Oper.semAt_some

section
variable {W w w' : World} {bn bp bm p b g mb N n k : Nat} {s : St} {f : Int → Option ByteArray}
theorem rd_play (h : Rd W w bn bp bm p b g mb N n s f) (hs : Sound n k s) (hn : n ≤ 64) (hk : k ≤ 4096) (o : PlainOp) (x : Value) (hx : OpOk W o x) {er : Int} {t : St} (ht : step o s = (er, t)) :
    Calls Try.prog 13 #[.pointer (some ⟨p, 0, none⟩), x] w fun e w' => e = .returned (.int .i64 er) ∧ Hid (Rd W w' bn bp bm p b g mb N n t f) ∧ ∀ j cs, Blk w j 37 cs → Blk w' j 37 cs := by
  refine (uno_play3 h.uno hs hn hk o x hx ht).mono ?_
  rintro e w' ⟨rfl, h1, h2, h3⟩
  exact ⟨rfl, ⟨h1, h2 _ _ _ (by decide) (by decide) (by decide) h.bnk, h2 _ _ _ (by decide) (by decide) (by decide) h.bpk, h2 _ _ _ (by decide) (by decide) (by decide) h.bmk, h3 _ _ _ h.txm⟩, fun j cs hj => h2 _ _ _ (by decide) (by decide) (by decide) hj⟩
theorem rd_put (h : Rd W w bn bp bm p b g mb N n s f) (hN : N < maxLen) {i : Int} (hi : (Lit.int .i64 i).wf = true) {t : ByteArray} (ht : t.size ≤ maxLen) (hW : W.heap.size ≤ mb) :
    ∃ w', (Instr.mapUpdate 46 (.map (some mb)) (.int .i64 i) (.string t)).run Try.prog w = .ok () w' ∧ Rd W w' bn bp bm p b g mb (N + 1) n s (fun j => if i = j then some t else f j) ∧ ∀ j cs, Blk w j 37 cs → Blk w' j 37 cs := by
  have h0 := h.txm
  obtain ⟨D, h1, h2⟩ := h.txm
  obtain ⟨w', hrun, r1, r2⟩ := h1.update lawInt Try.underlying46 hN (keyI hi) (plainElem_string Try.underlying9 ht)
  have kb : ∀ {t : TypeId} {j : Nat} {cs : Array Value}, Blk w j t cs → Blk w' j t cs := fun hj => hj.grown r2 (fun e => h0.ne hj (by cases e; rfl))
  exact ⟨w', hrun, ⟨h.uno.tmapped h0 r2 hW, kb h.bnk, kb h.bpk, kb h.bmk, _, r1, txt_put h1.isMap h2 i t⟩, fun j cs hj => kb hj⟩
theorem Rd.mono (h : Rd W w bn bp bm p b g mb N n s f) {N' : Nat} (hN : N ≤ N') : Rd W w bn bp bm p b g mb N' n s f := ⟨h.uno, h.bnk, h.bpk, h.bmk, h.txm.mono hN⟩
theorem rd_start (h : Uno W w p b g s) (hb : Blk w bn 3 #[.int .i64 n]) :
    Rd W (((w.alloc (.cells #[.pointer (some ⟨p, 0, none⟩)] 28)).alloc (.map #[] 0)).alloc (.cells #[.map (some (w.heap.size + 1))] 46)) bn w.heap.size (w.heap.size + 1 + 1) p b g (w.heap.size + 1) 0 n s (fun _ => none) := by
  have e1 : (w.alloc (.cells #[.pointer (some ⟨p, 0, none⟩)] 28)).heap.size = w.heap.size + 1 := by simp
  have e2 : ((w.alloc (.cells #[.pointer (some ⟨p, 0, none⟩)] 28)).alloc (.map #[] 0)).heap.size = w.heap.size + 1 + 1 := by simp
  have b1 : Below w.heap.size w (w.alloc (.cells #[.pointer (some ⟨p, 0, none⟩)] 28)) := (Below.refl _ w).alloc (Nat.le_refl _) _
  have b2 := b1.alloc (B := w.heap.size) (by omega) (.map #[] 0)
  have b3 := b2.alloc (B := w.heap.size) (by omega) (.cells #[.map (some (w.heap.size + 1))] 46)
  have m1 := txtMap_new (w.alloc (.cells #[.pointer (some ⟨p, 0, none⟩)] 28))
  rw [e1] at m1
  have q1 : Blk (w.alloc (.cells #[.pointer (some ⟨p, 0, none⟩)] 28)) w.heap.size 28 #[.pointer (some ⟨p, 0, none⟩)] := Blk.new _ _ _
  have q3 := Blk.new ((w.alloc (.cells #[.pointer (some ⟨p, 0, none⟩)] 28)).alloc (.map #[] 0)) 46 #[.map (some (w.heap.size + 1))]
  rw [e2] at q3
  exact ⟨h.on b3, hb.below b3 hb.lt, (q1.alloc _).alloc _, q3, m1.below ((Below.refl _ _).alloc (Nat.le_refl _) _)⟩
theorem Rd.turn {M2 : List Sec} (h : Rd W w bn bp bm p b g mb N n s f) (hu : Uno W w' p b g { s with M := M2 }) (hg : w.grownBy w' (some g)) : Rd W w' bn bp bm p b g mb N n { s with M := M2 } f := by
  obtain ⟨cap, cur, _, hgb, _⟩ := h.uno.mem.body
  have n1 := h.bnk.ne_ hgb (by decide)
  have n2 := h.bpk.ne_ hgb (by decide)
  have n3 := h.bmk.ne_ hgb (by decide)
  exact ⟨hu, h.bnk.grown hg (fun e => n1 (by cases e; rfl)), h.bpk.grown hg (fun e => n2 (by cases e; rfl)), h.bmk.grown hg (fun e => n3 (by cases e; rfl)), h.uno.txtmap h.txm hg⟩
end
set_option maxRecDepth 100000 in
theorem wf_at {n : Nat} {i : Int} (h : 0 ≤ i ∧ i < n) (hn : n ≤ 64) : (Lit.int .i64 i).wf = true := by
  obtain ⟨j, rfl⟩ := Int.eq_ofNat_of_zero_le h.1
  exact wf_small (by omega)
theorem textOf_le (fill : Nat) (size : Int) : (textOf fill size).size ≤ maxLen := by
  have : (textOf fill size).size = textLen size := by
    unfold textOf
    show (List.replicate (textLen size) (UInt8.ofNat fill)).toArray.size = _
    simp
  rw [this]
  unfold textLen maxLen
  omega

section
variable {W : World}
set_option maxRecDepth 100000 in
set_option maxHeartbeats 4000000 in
theorem reads_none (n : Int) (A Ap : Option Addr) (N c Np cp : Nat) (h : n < 1 ∨ 64 < n) :
    Calls Try.prog 4 #[.int .i64 n, .slice A N c, .slice Ap Np cp] W fun e w' => e = .returned (.bool true) ∧ Below W.heap.size W w' := by
  have hB : Below W.heap.size W (W.alloc (.cells #[.int .i64 n] 3)) := (Below.refl _ W).alloc (Nat.le_refl _) _
  have HB := Lib.hid hB
  clear hB
  go_enter Try.func4, Try.ntmps4
  go_wp2_with fail
  generalize (W.alloc (.cells #[.int .i64 n] 3)) = W1 at HB ⊢
  have HP := Lib.hid (players_bad W1 n h)
  clear h
  go_wp2_with (first | (go_at_call 11; refine HP.out.mono ?_; rintro e w1 ⟨rfl, hA⟩; have kA := Lib.hid (((HB.out.trans (hA.mono HB.out.size))).alloc (Nat.le_trans HB.out.size hA.size) (.cells #[.pointer none] 28)); clear hA) | (go_at_call 10; refine (sanity_true _).mono ?_; rintro e w3 ⟨rfl, hB⟩; have kB := Lib.hid (kA.out.trans (hB.mono kA.out.size)); clear hB))
  go_ret
  exact ⟨rfl, kB.out⟩
set_option maxRecDepth 100000 in
set_option maxHeartbeats 4000000 in
theorem reads_long (n : Nat) (h1 : 1 ≤ n) (h2 : n ≤ 64) (A Ap : Option Addr) (N c Np cp : Nat) (h : 60 < N) :
    Calls Try.prog 4 #[.int .i64 n, .slice A N c, .slice Ap Np cp] W fun e w' => e = .returned (.bool true) ∧ Below W.heap.size W w' := by
  have hB : Below W.heap.size W (W.alloc (.cells #[.int .i64 n] 3)) := (Below.refl _ W).alloc (Nat.le_refl _) _
  have HB := Lib.hid hB
  have d : decide (60 < (N : Int)) = true := decide_eq_true (by omega)
  have Hn := Lib.hid (And.intro h1 h2)
  clear hB h h1 h2
  go_enter Try.func4, Try.ntmps4
  go_wp2_with fail
  generalize (W.alloc (.cells #[.int .i64 n] 3)) = W1 at HB ⊢
  go_wp2_with (first | (go_at_call 11; refine (uno_start2 HB.out Hn.out.1 Hn.out.2).mono ?_; rintro e w1 ⟨p, r, b, g, rfl, hu, hb1⟩; have kA := Lib.hid (hu.out.bel.alloc hu.out.bel.size (.cells #[.pointer (some ⟨p, 0, none⟩)] 28)); clear hu hb1) | (go_at_call 10; refine (sanity_true _).mono ?_; rintro e w3 ⟨rfl, hB⟩; have kB := Lib.hid (kA.out.trans (hB.mono kA.out.size)); clear hB))
  go_ret
  exact ⟨rfl, kB.out⟩
set_option maxRecDepth 100000 in
set_option maxHeartbeats 4000000 in
theorem reads_loop (n : Nat) (v vp : Value) (ops : List PlainOp) (P : List Int) (hv : OpsAt W v ops) (hP : IntsAt W vp P) (hn1 : 1 ≤ n) (hn : n ≤ 64) (hN : ops.length ≤ 60) :
    Calls Try.prog 4 #[.int .i64 n, v, vp] W fun e w' => e = .returned (.bool true) ∧ Below W.heap.size W w' := by
  obtain ⟨A, c, rfl, hA⟩ := hv
  have HPk := Lib.hid hP
  obtain ⟨Ap, cp, rfl, _⟩ := hP
  generalize hnp : P.length = np
  rw [hnp] at HPk
  have hB : Below W.heap.size W (W.alloc (.cells #[.int .i64 n] 3)) := (Below.refl _ W).alloc (Nat.le_refl _) _
  have hbn : Blk (W.alloc (.cells #[.int .i64 n] 3)) W.heap.size 3 #[.int .i64 n] := Blk.new _ _ _
  have HB := Lib.hid hB
  have HBN := Lib.hid hbn
  have h2 : decide (60 < (ops.length : Int)) = false := decide_eq_false (by omega)
  have HA := Lib.hid hA
  have Hn := Lib.hid (And.intro hn1 (And.intro hn hN))
  have hmm := @run_makeMap Try.prog
  clear hA hn1 hn hN hnp hB hbn
  go_enter Try.func4, Try.ntmps4
  go_wp2_with fail
  generalize (W.alloc (.cells #[.int .i64 n] 3)) = W1 at HB HBN ⊢
  go_wp2_with (first | (go_at_call 11; refine (uno_start2 HB.out Hn.out.1 Hn.out.2.1).mono ?_; rintro e w1 ⟨p, r, b, g, rfl, hu, hb1⟩; have hbn1 := Lib.hid (HBN.out.below hb1.out HBN.out.lt)))
  have hW1 : Hid (W.heap.size ≤ w1.heap.size + 1) := by have := hu.out.bel.size; unfold Hid; omega
  have hr0 := Lib.hid (rd_start hu.out hbn1.out)
  generalize w1.heap.size + 1 + 1 = bm at hr0 ⊢
  generalize w1.heap.size + 1 = mb at hr0 hW1 ⊢
  generalize w1.heap.size = bp at hr0 ⊢
  clear hu hb1 hbn1
  generalize (((w1.alloc (Obj.cells #[Value.pointer (some ⟨p, 0, none⟩)] 28)).alloc (Obj.map #[] 0)).alloc (Obj.cells #[Value.map (some mb)] 46)) = w4 at hr0 ⊢
  go_loopw [31] (fun a wr => ∃ (k : Nat) (s : St) (f : Int → Option ByteArray), k ≤ ops.length ∧ a = .int .i64 k ∧ Hid (Rd W wr W.heap.size bp bm p b g mb k n s f) ∧ Hid (Sound n k s) ∧ Hid (Wants s.M f)) (fun a _ => ops.length - (intOf a).toNat)
  case atStart => exact ⟨0, startSt n, _, Nat.zero_le _, rfl, hr0, blank_sound n, wants_start n⟩
  case round =>
    obtain ⟨k, s, f, hk, rfl, hr, Hs, Hw⟩ := hrel
    by_cases hkl : k < ops.length
    · obtain ⟨o, ho⟩ : ∃ o, ops[k]? = some o := ⟨_, List.getElem?_eq_getElem hkl⟩
      obtain ⟨B, off, rfl, hbl, hat⟩ := HA.out (by omega)
      obtain ⟨A1, n1, cc, c0, c1, c2, c3, c4, hok⟩ := (hat k o ho).below hbl hr.out.uno.bel
      obtain ⟨er, t, het⟩ : ∃ er t, step o s = (er, t) := ⟨_, _, rfl⟩
      have Ht := Lib.hid het
      have Hok := Lib.hid hok
      have Hst : Hid (Sound n (k + 1) t) := by have := Hs.out.step o; rw [het] at this; exact this
      have Hwn : Hid (o.kind = 1 ∨ o.kind = 2 → Wants t.M (wantNext o er f)) := fun h => wants_step Hs.out Hw.out het h
      have hN := Hn.out.2.2
      clear hat hok het ho hr0
      have hrA := Lib.hid (hr.out.on ((Below.refl wr.heap.size wr).alloc (Nat.le_refl _) (.cells #[.int .i64 o.kind, .int .i64 o.i, .int .u8 o.fill, .int .i64 o.size, .slice A1 n1 cc] 37)))
      have z1 := hrA.out.bpk.cell 0
      by_cases k1 : o.kind = 1
      · have b1 : (o.kind == 1) = true := by simp [k1]
        have K1 := Lib.hid k1
        clear k1
        by_cases hin : isAt s.M o.i ∧ (textOf o.fill o.size).size = 64
        · have her : er = 0 := by
            have := Ht.out
            unfold step at this
            rw [if_pos K1.out, if_pos hin] at this
            exact (Prod.mk.inj this).1.symm
          subst her
          have hwn : Hid (Wants t.M (fun j => if o.i = j then some (textOf o.fill o.size) else f j)) := by
            have := Hwn.out (.inl K1.out)
            unfold wantNext at this
            rw [if_pos ⟨K1.out, rfl⟩] at this
            exact this
          have Hwf := Lib.hid (wf_at (n := n) (by have := hin.1; unfold isAt at this; rw [Hs.out.len] at this; exact this) Hn.out.2.1)
          have Hfill : Hid (o.fill < 256) := by obtain ⟨_, _, h, _⟩ := Hok.out; exact h
          have Hkm : Hid (k < maxLen) := by unfold Hid maxLen; omega
          have HopA := Lib.hid (Blk.new wr 37 #[.int .i64 o.kind, .int .i64 o.i, .int .u8 o.fill, .int .i64 o.size, .slice A1 n1 cc])
          clear hin Hwn
          go_wp2_with (first
            | (go_at_call 13; refine (rd_play hrA.out Hs.out Hn.out.2.1 (by have := Hn.out.2.2; omega) o _ Hok.out Ht.out).mono ?_; rintro e w2 ⟨rfl, h1, hop⟩; have hop1 := Lib.hid (hop _ _ HopA.out); clear hop; obtain ⟨q0, q1, q2, q3, q4⟩ := op_blk hop1.out; have y3 := h1.out.bmk.cell 0))
          have hdA := Lib.hid (h1.out.on (Below.refl w2.heap.size w2).drew)
          have HopB := Lib.hid hop1.out.drew
          go_region_held3 (fun w' => w'.cell? ⟨bm, 0, none⟩ = some (.map (some mb)) ∧ w'.cell? ⟨wr.heap.size, 0, none⟩ = some (.int .i64 o.kind) ∧ w'.cell? ⟨wr.heap.size, 1, none⟩ = some (.int .i64 o.i) ∧ w'.cell? ⟨wr.heap.size, 2, none⟩ = some (.int .u8 o.fill) ∧ w'.cell? ⟨wr.heap.size, 3, none⟩ = some (.int .i64 o.size) ∧ w'.cell? ⟨wr.heap.size, 4, none⟩ = some (.slice A1 n1 cc)) (go_keep)
            (first
            | (go_at_call 16; refine (Text_any _ o.kind o.i o.size o.fill Hfill.out (.slice A1 n1 cc) ⟨_, _, _, rfl⟩).mono ?_; rintro e wt ⟨rfl, hB⟩; have h2 := Lib.hid (hdA.out.on hB); have hop2 := Lib.hid (HopB.out.below hB HopB.out.lt); clear hB; have y4 := h2.out.bmk.cell 0; obtain ⟨t0, t1, t2, t3, t4⟩ := op_blk hop2.out; obtain ⟨wm, hrun, hrd, hkb⟩ := rd_put h2.out Hkm.out Hwf.out (textOf_le o.fill o.size) hW1.out; have Hrd := Lib.hid hrd; have hop3 := Lib.hid (hkb _ _ hop2.out); clear hrd hkb; have y5 := Hrd.out.bmk.cell 0; obtain ⟨s0, s1, s2, s3, s4⟩ := op_blk hop3.out))
          go_wp2_with fail
          go_roundw
          case rel => exact ⟨k + 1, t, _, by omega, by go_num, Hrd, Hst, hwn⟩
          case measure => simp [intOf]; omega
        · have her : er = 1 := by
            have := Ht.out
            unfold step at this
            rw [if_pos K1.out, if_neg hin] at this
            exact (Prod.mk.inj this).1.symm
          subst her
          have hwn : Hid (Wants t.M f) := by
            have := Hwn.out (.inl K1.out)
            unfold wantNext at this
            rw [if_neg (fun e => absurd e.2 (by decide))] at this
            exact this
          clear hin Hwn
          go_wp2_with (first
            | (go_at_call 13; refine (rd_play hrA.out Hs.out Hn.out.2.1 (by have := Hn.out.2.2; omega) o _ Hok.out Ht.out).mono ?_; rintro e w2 ⟨rfl, h1, hop⟩; clear hop))
          go_roundw
          case rel => exact ⟨k + 1, t, f, by omega, by go_num, h1.out.mono (by omega), Hst, hwn⟩
          case measure => simp [intOf]; omega
      · by_cases k2 : o.kind = 2
        · have b1 : (o.kind == 1) = false := beq_f k1
          have b2 : (o.kind == 2) = true := by simp [k2]
          have hwn : Hid (Wants t.M f) := by
            have := Hwn.out (.inr k2)
            unfold wantNext at this
            rw [if_neg (fun e => k1 e.1)] at this
            exact this
          clear k1 k2 Hwn
          go_wp2_with (first
            | (go_at_call 13; refine (rd_play hrA.out Hs.out Hn.out.2.1 (by have := Hn.out.2.2; omega) o _ Hok.out Ht.out).mono ?_; rintro e w2 ⟨rfl, h1, hop⟩; clear hop))
          go_roundw
          case rel => exact ⟨k + 1, t, f, by omega, by go_num, h1.out.mono (by omega), Hst, hwn⟩
          case measure => simp [intOf]; omega
        · have b1 : (o.kind == 1) = false := beq_f k1
          have b2 : (o.kind == 2) = false := beq_f k2
          clear k1 k2 Hwn
          go_wp2_with fail
          go_roundw
          case rel => exact ⟨k + 1, s, f, by omega, by go_num, hrA.out.mono (by omega), Hs.out.mono (by omega), Hw⟩
          case measure => simp [intOf]; omega
    · obtain rfl : k = ops.length := by omega
      have z1 := hr.out.bpk.cell 0
      have hn64 := Lib.hid Hn.out.2.1
      have Hs3 := Lib.hid Hs.out.flush
      have Hw3 : Hid (Wants ({ s with M := s.M.map Sec.flushed } : St).M f) := wants_flush Hw.out
      have Hcut : Hid (doneM (pick P) ({ s with M := s.M.map Sec.flushed } : St).M (idxs Sec.dirty ({ s with M := s.M.map Sec.flushed } : St).M) = s.M.map Sec.flushed) := cut_none P (map_clean s.M)
      clear hr0 HA
      go_wp2_with (first
        | (go_at_call 17; refine (holds_true r5.out Hs3.out Hw3.out hn64.out).mono ?_; rintro e w6 ⟨rfl, hB6⟩; have kB := Lib.hid (r5.out.uno.bel.trans (hB6.out.mono r5.out.uno.bel.size)))
        | (go_at_call 17; refine (holds_true hr.out Hs.out Hw.out hn64.out).mono ?_; rintro e w2 ⟨rfl, hB2⟩; have r2 := Lib.hid (hr.out.on hB2.out); have y1 := r2.out.bpk.cell 0; have y2 := r2.out.uno.cell)
        | (go_at_call 20; refine (uno_flush r2.out.uno Hs.out hn64.out).mono ?_; rintro e w3 ⟨rfl, h3, g3⟩; have r3 := Lib.hid (r2.out.turn h3.out g3.out); have y3 := r3.out.bpk.cell 0; have y4 := r3.out.uno.cell)
        | (go_at_call 21; refine (uno_cut r3.out.uno Hs3.out hn64.out _ P HPk.out).mono ?_; rintro e w4 ⟨rfl, h4, g4⟩; have r4 := Lib.hid (r3.out.turn h4.out g4.out))
        | (go_at_call 10; refine (sanity_true _).mono ?_; rintro e w5 ⟨rfl, hB5⟩; have r5 : Hid (Rd W w5 W.heap.size bp bm p b g mb ops.length n { s with M := s.M.map Sec.flushed } f) := (by have h := r4.out.on hB5; rw [Hcut.out] at h; exact h)))
      go_ret
      exact ⟨rfl, kB.out⟩

/-- The whole. -/
theorem law_reads (n : Int) (v vp : Value) (ops : List PlainOp) (P : List Int) (hv : OpsAt W v ops) (hP : IntsAt W vp P) :
    Calls Try.prog 4 #[.int .i64 n, v, vp] W fun e w' => e = .returned (.bool true) ∧ Below W.heap.size W w' := by
  have h0 := hv
  have h0' := hP
  obtain ⟨A, c, rfl, _⟩ := hv
  obtain ⟨Ap, cp, rfl, _⟩ := hP
  by_cases h1 : n < 1 ∨ 64 < n
  · exact reads_none n A Ap ops.length c P.length cp h1
  · obtain ⟨m, rfl⟩ := Int.eq_ofNat_of_zero_le (show 0 ≤ n by omega)
    by_cases h2 : 60 < ops.length
    · exact reads_long m (by omega) (by omega) A Ap ops.length c P.length cp h2
    · exact reads_loop m _ _ ops P h0 h0' (by omega) (by omega) (by omega)
end
end Go.Proofs.Ytgieiehpnjhkoaa
