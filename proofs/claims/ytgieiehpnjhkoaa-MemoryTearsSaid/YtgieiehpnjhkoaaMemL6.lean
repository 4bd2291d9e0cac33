/-
  Layer 22 (memory): MemoryTears, the walk.
-/
import Derived.Test.YtgieiehpnjhkoaaMemK4
import Derived.Test.YtgieiehpnjhkoaaMemQ2
import Derived.Deep.RegionHeld3
import Derived.Maps.OwnOps
namespace Go.Proofs.Ytgieiehpnjhkoaa
open Go.RowKit Go.Shelf
attribute [local go_sem] Oper.semAt_some

section
variable {W : World}
set_option maxRecDepth 100000 in
set_option maxHeartbeats 4000000 in
theorem tears_none (n : Int) (A Ap : Option Addr) (N c Np cp : Nat) (h : n < 1 ∨ 64 < n) :
    Calls Try.prog 5 #[.int .i64 n, .slice A N c, .slice Ap Np cp] W fun e w' => e = .returned (.bool true) ∧ Below W.heap.size W w' := by
  have HP := Lib.hid (players_bad W n h)
  clear h
  go_enter Try.func5, Try.ntmps5
  go_wp2_with (first | (go_at_call 11; refine HP.out.mono ?_; rintro e w1 ⟨rfl, hA⟩; have kA := Lib.hid hA; clear hA) | (go_at_call 10; refine (sanity_true _).mono ?_; rintro e w3 ⟨rfl, hB⟩; have kB := Lib.hid (kA.out.trans (hB.mono kA.out.size)); clear hB))
  go_ret
  exact ⟨rfl, kB.out⟩
set_option maxRecDepth 100000 in
set_option maxHeartbeats 4000000 in
theorem tears_long (n : Nat) (h1 : 1 ≤ n) (h2 : n ≤ 64) (A Ap : Option Addr) (N c Np cp : Nat) (h : 60 < N) :
    Calls Try.prog 5 #[.int .i64 n, .slice A N c, .slice Ap Np cp] W fun e w' => e = .returned (.bool true) ∧ Below W.heap.size W w' := by
  have HP := Lib.hid (uno_start (W := W) h1 h2)
  have d : decide (60 < (N : Int)) = true := decide_eq_true (by omega)
  clear h1 h2 h
  go_enter Try.func5, Try.ntmps5
  go_wp2_with (first | (go_at_call 11; refine HP.out.mono ?_; rintro e w1 ⟨p, r, b, g, rfl, hu⟩; have kA := Lib.hid hu.out.bel; clear hu) | (go_at_call 10; refine (sanity_true _).mono ?_; rintro e w3 ⟨rfl, hB⟩; have kB := Lib.hid (kA.out.trans (hB.mono kA.out.size)); clear hB))
  go_ret
  exact ⟨rfl, kB.out⟩
set_option maxRecDepth 100000 in
set_option maxHeartbeats 4000000 in
theorem tears_loop (n : Nat) (v vp : Value) (ops : List PlainOp) (P : List Int) (hv : OpsAt W v ops) (hP : IntsAt W vp P) (hn1 : 1 ≤ n) (hn : n ≤ 64) (hN : ops.length ≤ 60) :
    Calls Try.prog 5 #[.int .i64 n, v, vp] W fun e w' => e = .returned (.bool true) ∧ Below W.heap.size W w' := by
  obtain ⟨A, c, rfl, hA⟩ := hv
  have HPk := Lib.hid hP
  obtain ⟨Ap, cp, rfl, _⟩ := hP
  generalize hnp : P.length = np
  rw [hnp] at HPk
  have HP := Lib.hid (uno_start (W := W) hn1 hn)
  have h2 : decide (60 < (ops.length : Int)) = false := decide_eq_false (by omega)
  have HA := Lib.hid hA
  have Hn := Lib.hid (And.intro hn1 (And.intro hn hN))
  have hmm := @run_makeMap Try.prog
  clear hA hn1 hn hN hnp
  go_enter Try.func5, Try.ntmps5
  go_wp2_with (first | (go_at_call 11; refine HP.out.mono ?_; rintro e w1 ⟨p, r, b, g, rfl, hu⟩))
  have hu0 : Hid (Uno W w1 p b g (upTo n ops 0)) := hu
  clear hu HP
  go_loopw [39] (fun a wr => ∃ k : Nat, k ≤ ops.length ∧ a = .int .i64 k ∧ Hid (Uno W wr p b g (upTo n ops k))) (fun a _ => ops.length - (intOf a).toNat)
  case atStart => exact ⟨0, Nat.zero_le _, rfl, hu0⟩
  case round =>
    obtain ⟨k, hk, rfl, hu⟩ := hrel
    by_cases hkl : k < ops.length
    · obtain ⟨o, ho⟩ : ∃ o, ops[k]? = some o := ⟨_, List.getElem?_eq_getElem hkl⟩
      obtain ⟨B, off, rfl, hbl, hat⟩ := HA.out (by omega)
      obtain ⟨A1, n1, cc, c0, c1, c2, c3, c4, hok⟩ := (hat k o ho).below hbl hu.out.bel
      have Hs := Lib.hid (upTo_sound n ops k hk)
      obtain ⟨er, t, het⟩ : ∃ er t, step o (upTo n ops k) = (er, t) := ⟨_, _, rfl⟩
      have Ht := Lib.hid het
      have Hok := Lib.hid hok
      have Hkk : Hid (upTo n ops (k + 1) = t) := by unfold Hid; rw [upTo_succ n ops k o ho, het]
      have hN := Hn.out.2.2
      clear hat hok het ho hu0
      go_wp2_with (first
        | (go_at_call 13; refine (uno_play (hu.out.on ((Below.refl _ _).alloc (Nat.le_refl _) _)) Hs.out Hn.out.2.1 (by have := Hn.out.2.2; omega) o _ Hok.out Ht.out).mono ?_; rintro e w2 ⟨rfl, h1, hop⟩; clear hop))
      go_roundw
      case rel => exact ⟨k + 1, by omega, by go_num, by rw [Hkk.out]; exact h1⟩
      case measure => simp [intOf]; omega
    · obtain rfl : k = ops.length := by omega
      have Hs := Lib.hid (upTo_sound n ops _ (Nat.le_refl _))
      have hc := hu.out.cell
      clear hu0 HA
      generalize upTo n ops ops.length = st at hu Hs
      go_wp2_with (first
        | (go_at_call 22; refine (uno_image hu.out Hs.out Hn.out.2.1).mono ?_; rintro e w3 ⟨old, rfl, ht3, h3, b3⟩; obtain ⟨Ao, co, rfl, _⟩ := texts_form ht3.out (show (st.M.map Sec.now).length = n by rw [List.length_map]; exact Hs.out.len); have hc3 := h3.out.cell; have h4 := Lib.hid (h3.out.on ((Below.refl w3.heap.size w3).alloc (Nat.le_refl _) (.map #[] 0))); have hc4 := h4.out.cell; have bm4 := Lib.hid (boolMap_new w3); have ht4 := Lib.hid (kt_below ((Below.refl w3.heap.size w3).alloc (Nat.le_refl _) (.map #[] 0)) _ _ ht3.out))
        | (go_at_call 23; refine (uno_dirty h4.out Hs.out Hn.out.2.1).mono ?_; rintro e w5 ⟨A2, c2, rfl, hrow, h5, b5⟩; have bm5 := Lib.hid (bm4.out.below b5.out); have ht5 := Lib.hid (kt_below b5.out _ _ ht4.out)))
      have hmb : Hid (W.heap.size ≤ w3.heap.size) := h3.out.bel.size
      clear hc3 h3 ht3 b3 h4 hc4 bm4 ht4 b5 hu hc
      generalize w3.heap.size = mb at bm5 hmb ⊢
      have hDl : Hid ((idxs Sec.dirty st.M).length ≤ 64) := by
        have a1 := upto_len (fun i => ((st.M[i]?).map Sec.dirty).getD false) st.M.length
        have a2 := Hs.out.len
        have a3 := Hn.out.2.1
        unfold Hid idxs
        omega
      have hDn : Hid (∀ t ∈ idxs Sec.dirty st.M, (Lit.int .i64 ((t : Nat) : Int)).wf = true) := fun t ht => by
        obtain ⟨x, hx, _⟩ := idxs_at ht
        have := (List.getElem?_eq_some_iff.1 hx).1
        have a2 := Hs.out.len
        have a3 := Hn.out.2.1
        exact wf_small (by omega)
      generalize hD : idxs Sec.dirty st.M = D at hrow hDl hDn
      have HD := Lib.hid hD
      clear hD
      have bm0 : Hid (BoolMap w5 mb 0 fun j => (D.take 0).any fun t => (t : Int) == j) := bm5.out
      clear bm5
      go_loopw [59] (fun a wr => ∃ k : Nat, k ≤ D.length ∧ a = .int .i64 k ∧ Hid (w5.grownBy wr (some mb)) ∧ Hid (BoolMap wr mb k fun j => (D.take k).any fun t => (t : Int) == j)) (fun a _ => D.length - (intOf a).toNat)
      case atStart => exact ⟨0, Nat.zero_le _, rfl, grown_refl _ _, bm0⟩
      case round =>
        obtain ⟨k, hk, rfl, hg, hbm⟩ := hrel
        by_cases hkl : k < D.length
        · obtain ⟨t, ht⟩ : ∃ t, D[k]? = some t := ⟨_, List.getElem?_eq_getElem hkl⟩
          obtain ⟨gd, rfl, hgl, hgc⟩ := hrow.out k t ht
          have hgc1 := bm0.out.grown_cell hg.out hgc
          have hwf := Lib.hid (hDn.out t (List.mem_of_getElem? ht))
          have hkn : k < 64 := Nat.lt_of_lt_of_le hkl hDl.out
          have hmaxk : Hid (k < maxLen) := by unfold Hid maxLen; omega
          have Ht := Lib.hid ht
          obtain ⟨DM, hown, hat⟩ := hbm.out
          have Hown := Lib.hid hown
          have Hat := Lib.hid hat
          have Hg := Lib.hid hg.out
          clear hgc ht hbm hown hat hg
          go_wp2_with (first
            | (at_mapUpdate; refine wpList_mapUpdate_own (H := Unit) _ rfl _ _ _ 56 rfl 3 4 lawInt Try.underlying56 _ mb k DM rfl Hown.out hmaxk.out _ _ (.int .i64 t) rfl rfl (keyI hwf.out) (.lit (.bool true)) [] (plainElem_bool Try.underlying4 true) ?_; intro wm hown1 hgrow1))
          go_roundw
          case rel => exact ⟨k + 1, by omega, by go_num, grown_trans Hg.out hgrow1, DM.put (.int .i64 t) (.lit (.bool true)), hown1, fun j => by rw [bool_put Hown.out.isMap Hat.out t j]; dsimp only; rw [any_take_succ (fun t : Nat => (t : Int) == j) Ht.out]⟩
          case measure => simp [intOf]; omega
        · obtain rfl : k = D.length := by omega
          rw [List.take_length] at hbm
          have hbm' : Hid (BoolMap wr mb D.length fun j => D.any fun t => (t : Int) == j) := hbm
          have hu6 := Lib.hid (h5.out.mapped bm0.out hg.out hmb.out)
          have ht6 := Lib.hid (kt_mapped bm0.out hg.out _ _ ht5.out)
          have hc6 := hu6.out.cell
          clear hbm hg bm0 h5 ht5 hrow hDl hDn
          rename World => w6
          obtain ⟨i0, hi, hz0, hz1, hz2⟩ := info_parts infoString
          generalize hF : st.M.map Sec.seen = F
          have HF := Lib.hid hF
          have hFl : Hid (F.length = n) := by unfold Hid; rw [← hF, List.length_map]; exact Hs.out.len
          clear hF
          go_wp2_with fail
          go_loopw [16, 67] (fun v a wr => ∃ k : Nat, k ≤ n ∧ a = .int .i64 k ∧ Hid (wr.ownsRow w6.heap.size 9 1 v k (strCells (F.take k))) ∧ Hid (Below w6.heap.size w6 wr)) (fun _ a _ => n - (intOf a).toNat)
          case atStart => exact ⟨0, Nat.zero_le _, rfl, World.ownsRow_nil _ _ _ _, Below.refl _ _⟩
          case round =>
            obtain ⟨k, hk, rfl, hown, hB⟩ := hrel
            by_cases hkl : k < n
            · obtain ⟨x, hx⟩ : ∃ x, st.M[k]? = some x := ⟨_, List.getElem?_eq_getElem (by rw [Hs.out.len]; exact hkl)⟩
              have hr := Lib.hid (read_at hx)
              have hur := Lib.hid (hu6.out.on hB.out)
              have hcr := hur.out.cell
              have hFk : Hid (F.take (k + 1) = F.take k ++ [x.seen]) := by
                unfold Hid
                rw [List.take_add_one, ← HF.out]
                simp [hx]
              have hn64 := Hn.out.2.1
              have hle : Hid ((k + 1 : Nat) ≤ maxLen) := by unfold Hid maxLen; omega
              generalize x.seen = xs at hr hFk
              clear hx
              go_wp2_with (first
                | (go_at_call 18; refine (uno_read hur.out hr.out.1 hr.out.2).mono ?_; rintro e wx ⟨rfl, rfl⟩)
                | (at_builtin; refine wpList_append_own _ rfl _ _ 54 rfl w6.heap.size 9 i0 _ 1 16 Try.underlying54 hi hz0 hz1 hz2 rfl (by decide) _ k (strCells (F.take k)) rfl (hown.out.alloc _) ⟨wr.heap.size, 0, none⟩ 1 1 [.string xs] rfl rfl ?c1 ?c2 ?c3 ?c4 ?c5 ?_))
              case c1 => exact news_cells (Blk.new wr 9 #[.string xs])
              case c2 => simp [Value.oneCell']
              case c3 => exact hle.out
              case c4 => omega
              case c5 => simp; exact Nat.le_succ_of_le hB.out.size
              intro v' w3 hown3 hg3 hn3
              have hB3 : Hid (Below w6.heap.size w6 w3) := (hB.out.alloc hB.out.size _).grown hg3 (by simp; exact Nat.le_succ_of_le hB.out.size) (fun g e => (hown.out.lt g e).1)
              have hown4 : Hid (w3.ownsRow w6.heap.size 9 1 v' (k + 1) (strCells (F.take (k + 1)))) := by rw [hFk.out, strCells_snoc]; exact hown3
              clear hg3 hn3 hown3 hown hB hur hcr
              go_wp2_with fail
              go_roundw
              case rel => exact ⟨k + 1, by omega, by go_num, hown4, hB3⟩
              case measure => simp [intOf]; omega
            · obtain rfl : n = k := by omega
              have htf := Lib.hid (row_texts (by have h := hown.out; rw [List.take_of_length_le (Nat.le_of_eq hFl.out)] at h; rw [hFl.out]; exact h))
              have hu7 := Lib.hid (hu6.out.on hB.out)
              have ht7 := Lib.hid (kt_below hB.out _ _ ht6.out)
              have bm7 := Lib.hid (hbm'.out.below hB.out)
              obtain ⟨Af, cf, rfl, _⟩ := texts_form htf.out hFl.out
              have hc7 := hu7.out.cell
              clear hown hB hu6 ht6 hbm' hc6 hi hz0 hz1 hz2
              have Hs8 := Lib.hid (Hs.out.cut P)
              have Hcl := Lib.hid (cut_clean (M := st.M) P)
              go_wp2_with (first
                | (go_at_call 21; refine (uno_cut hu7.out Hs.out Hn.out.2.1 _ P HPk.out).mono ?_; rintro e w8 ⟨rfl, h8, g8⟩; have hc8 := h8.out.cell; have ht8 := Lib.hid (hu7.out.kt g8.out _ _ ht7.out); have hf8 := Lib.hid (hu7.out.kt g8.out _ _ htf.out); have bm8 := Lib.hid (hu7.out.boolmap bm7.out g8.out))
                | (go_at_call 22; refine (uno_image h8.out Hs8.out Hn.out.2.1).mono ?_; rintro e w9 ⟨now, rfl, ht9, h9, b9⟩; obtain ⟨Aw, cw, rfl, _⟩ := texts_form ht9.out (show (({ st with M := doneM (pick P) st.M (idxs Sec.dirty st.M) } : St).M.map Sec.now).length = n by rw [List.length_map]; exact Hs8.out.len); have hc9 := h9.out.cell; have hl9 : Hid (Look W w9 _ _ _ _ _ _ _ _ _) := ⟨h9.out.bel, bm8.out.below b9.out, ht8.out.below' b9.out, hf8.out.below' b9.out, ht9.out⟩)
                | (go_at_call 23; refine (uno_dirty0 h9.out Hs8.out Hn.out.2.1 Hcl.out).mono ?_; rintro e wd ⟨rfl, h10, b10⟩; have hl10 := Lib.hid (hl9.out.on b10.out)))
              clear bm7 ht7 htf hu7 hc7 h8 g8 hc8 ht8 hf8 bm8 ht9 h9 b9 hc9 hl9 h10 b10
              have hl0 := hl10
              clear hl10
              generalize hR : (doneM (pick P) st.M (idxs Sec.dirty st.M)).map Sec.now = R at hl0
              have HR := Lib.hid hR
              clear hR
              generalize hO : st.M.map Sec.now = O at hl0
              have HO := Lib.hid hO
              clear hO
              go_loopw [115] (fun a wr => ∃ k : Nat, k ≤ n ∧ a = .int .i64 k ∧ Hid (Look W wr mb D.length (fun j => D.any fun t => (t : Int) == j) (.slice Ao n co) (.slice Af n cf) (.slice Aw n cw) O F R)) (fun a _ => n - (intOf a).toNat)
              case atStart => exact ⟨0, Nat.zero_le _, rfl, hl0⟩
              case round =>
                obtain ⟨k, hk, rfl, hl⟩ := hrel
                by_cases hkl : k < n
                · obtain ⟨x, hx⟩ : ∃ x, st.M[k]? = some x := ⟨_, List.getElem?_eq_getElem (by rw [Hs.out.len]; exact hkl)⟩
                  obtain ⟨y, m, hy, htorn, hsame⟩ := tear_plain Hs.out.fine P hx
                  have hda := dirty_any hx
                  rw [HD.out] at hda
                  have eO : O[k]? = some x.now := by rw [← HO.out, List.getElem?_map, hx]; rfl
                  have eF : F[k]? = some x.seen := by rw [← HF.out, List.getElem?_map, hx]; rfl
                  have eR : R[k]? = some y.now := by rw [← HR.out, List.getElem?_map, hy]; rfl
                  have hn64 := Hn.out.2.1
                  have hlk := hl.out.bm.look (wf_small (k := k) (by omega))
                  have hlk2 : ∀ q, (Instr.lookup 56 (.map (some mb)) (.int .i64 k) false).run Try.prog (wr.drewN q) = .ok (.bool (D.any fun t => (t : Int) == (k : Int))) (wr.drewN q) := fun q => (hl.out.on (below_drewN (Below.refl _ wr) q)).bm.look (wf_small (k := k) (by omega))
                  rw [hda] at hlk
                  simp only [hda] at hlk2
                  generalize x.now = old at htorn hsame eO
                  generalize x.seen = fr at htorn hsame eF
                  generalize y.now = nw at htorn hsame eR
                  generalize x.dirty = dy at hsame hlk hlk2
                  clear hda hx hy
                  obtain ⟨ga, rfl, ca⟩ := texts_at hl.out.txo eO
                  obtain ⟨gf, rfl, cf1⟩ := texts_at hl.out.txf eF
                  obtain ⟨gw, rfl, cw1⟩ := texts_at hl.out.txn eR
                  have hso := htorn.sold
                  have hsf := htorn.sfresh
                  have hsn := htorn.snow
                  have hnm : n ≤ 4096 := by omega
                  have EO := Lib.hid (And.intro eO (And.intro eF eR))
                  have HT := Lib.hid htorn
                  clear eO eF eR htorn hl0
                  cases dy with
                  | false =>
                    obtain ⟨e1, e2⟩ := hsame rfl
                    clear hsame
                    go_wp2_with (first | go_quiet (fail))
                    clear e1 e2
                    clear hlk hlk2
                    go_loopw [22] (fun a wq => ∃ (j q : Nat), j ≤ 64 ∧ a = .int .i64 j ∧ wq = wr.drewN q) (fun a _ => 64 - (intOf a).toNat)
                    case atStart => exact ⟨0, nq, by omega, rfl, rfl⟩
                    case round =>
                      obtain ⟨j, q, hj, rfl, rfl⟩ := hrel
                      by_cases hjl : j < 64
                      · have dj : decide ((j : Int) < 64) = true := decide_eq_true (by omega)
                        obtain ⟨bn, hbn, in1⟩ := idx_at nw (j := j) (by omega)
                        obtain ⟨bf, hbf, in2⟩ := idx_at fr (j := j) (by omega)
                        by_cases hb : bn = bf
                        · have db : ((bn.toNat : Int) == (bf.toNat : Int)) = true := by rw [hb]; simp
                          clear hbn hbf hb
                          go_wp2_with (first | go_quiet (fail))
                          go_roundw
                          case rel => exact ⟨j + 1, _, by omega, by go_num, rfl⟩
                          case measure => simp [intOf]; omega
                        · have db : ((bn.toNat : Int) == (bf.toNat : Int)) = false := by
                            refine beq_f (fun e => hb ?_)
                            exact UInt8.toNat_inj.1 (by omega)
                          have hmj : m ≤ j := by
                            rcases Nat.lt_or_ge j m with h | h
                            · have := HT.out.low j h
                              rw [hbn, hbf] at this
                              exact absurd (by simpa using this) hb
                            · exact h
                          have htl : nw.extract j 64 = old.extract j 64 := HT.out.tail hmj 64
                          clear hbn hbf hb hmj
                          go_wp2_with (first | go_quiet (fail))
                          go_roundw
                          case rel => exact ⟨k + 1, by omega, by go_num, hl.out.on (below_drewN (Below.refl _ _) _)⟩
                          case measure => simp [intOf]; omega
                      · obtain rfl : j = 64 := by omega
                        go_wp2_with (first | go_quiet (fail))
                        go_roundw
                        case rel => exact ⟨k + 1, by omega, by go_num, hl.out.on (below_drewN (Below.refl _ _) _)⟩
                        case measure => simp [intOf]; omega
                  | true =>
                    clear hsame
                    go_wp2_with (first | go_quiet (fail))
                    clear hlk hlk2
                    go_loopw [22] (fun a wq => ∃ (j q : Nat), j ≤ 64 ∧ a = .int .i64 j ∧ wq = wr.drewN q) (fun a _ => 64 - (intOf a).toNat)
                    case atStart => exact ⟨0, nq, by omega, rfl, rfl⟩
                    case round =>
                      obtain ⟨j, q, hj, rfl, rfl⟩ := hrel
                      by_cases hjl : j < 64
                      · have dj : decide ((j : Int) < 64) = true := decide_eq_true (by omega)
                        obtain ⟨bn, hbn, in1⟩ := idx_at nw (j := j) (by omega)
                        obtain ⟨bf, hbf, in2⟩ := idx_at fr (j := j) (by omega)
                        by_cases hb : bn = bf
                        · have db : ((bn.toNat : Int) == (bf.toNat : Int)) = true := by rw [hb]; simp
                          clear hbn hbf hb
                          go_wp2_with (first | go_quiet (fail))
                          go_roundw
                          case rel => exact ⟨j + 1, _, by omega, by go_num, rfl⟩
                          case measure => simp [intOf]; omega
                        · have db : ((bn.toNat : Int) == (bf.toNat : Int)) = false := by
                            refine beq_f (fun e => hb ?_)
                            exact UInt8.toNat_inj.1 (by omega)
                          have hmj : m ≤ j := by
                            rcases Nat.lt_or_ge j m with h | h
                            · have := HT.out.low j h
                              rw [hbn, hbf] at this
                              exact absurd (by simpa using this) hb
                            · exact h
                          have htl : nw.extract j 64 = old.extract j 64 := HT.out.tail hmj 64
                          clear hbn hbf hb hmj
                          go_wp2_with (first | go_quiet (fail))
                          go_roundw
                          case rel => exact ⟨k + 1, by omega, by go_num, hl.out.on (below_drewN (Below.refl _ _) _)⟩
                          case measure => simp [intOf]; omega
                      · obtain rfl : j = 64 := by omega
                        go_wp2_with (first | go_quiet (fail))
                        go_roundw
                        case rel => exact ⟨k + 1, by omega, by go_num, hl.out.on (below_drewN (Below.refl _ _) _)⟩
                        case measure => simp [intOf]; omega
                · obtain rfl : n = k := by omega
                  have hb := Lib.hid hl.out.bel
                  go_wp2_with (first | (go_at_call 10; refine (sanity_true _).mono ?_; rintro e wz ⟨rfl, hB⟩; have kB := Lib.hid (hb.out.trans (hB.mono hb.out.size)); clear hB))
                  go_ret
                  exact ⟨rfl, kB.out⟩
/-- The whole. -/
theorem law_tears (n : Int) (v vp : Value) (ops : List PlainOp) (P : List Int) (hv : OpsAt W v ops) (hP : IntsAt W vp P) :
    Calls Try.prog 5 #[.int .i64 n, v, vp] W fun e w' => e = .returned (.bool true) ∧ Below W.heap.size W w' := by
  have h0 := hv
  have h0' := hP
  obtain ⟨A, c, rfl, _⟩ := hv
  obtain ⟨Ap, cp, rfl, _⟩ := hP
  by_cases h1 : n < 1 ∨ 64 < n
  · exact tears_none n A Ap ops.length c P.length cp h1
  · obtain ⟨m, rfl⟩ := Int.eq_ofNat_of_zero_le (show 0 ≤ n by omega)
    by_cases h2 : 60 < ops.length
    · exact tears_long m (by omega) (by omega) A Ap ops.length c P.length cp h2
    · exact tears_loop m _ _ ops P h0 h0' (by omega) (by omega) (by omega)
end
end Go.Proofs.Ytgieiehpnjhkoaa
